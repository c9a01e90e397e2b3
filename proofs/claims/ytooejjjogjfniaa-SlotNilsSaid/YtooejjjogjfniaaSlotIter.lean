/- The page's iterator: its contract. -/
import Derived.Test.YtooejjjogjfniaaSlotAlike
import Derived.RangeFuncNested
import Derived.RangeFuncBound
import Derived.RangeFuncCalls
import Derived.RangeFuncLeaves
import Derived.Shelf.Abstract
import Derived.Shelf.RegionOpen
import Derived.WalkKit
import Derived.OwnWalkIn
import Derived.TacticsInMore
import Derived.LoopNIn
import Derived.LoopIn
set_option linter.unusedVariables false
set_option linter.unusedSimpArgs false
namespace Go.Proofs.Ytooejjjogjfniaa
open Go.RowKit Go.Proofs.YtooejjjogjfniaaW.PrintWords Go.Proofs.Ytooejjjogjfniaa.PSlotRoom Go.Proofs.YtooejjjogjfniaaW.PrintLast
attribute [local go_sem] Oper.semAt_some
/-- A live slot: its place, and what it holds. -/
abbrev El (l : List S42) : Type := { x : Nat × ByteArray // ∃ h : x.1 < l.length, (l[x.1]'h).f0 = true ∧ (l[x.1]'h).f1 = x.2 }
def encs {l : List S42} (x : El l) : Array Value := #[.int .i64 (x.1.1 : Int), .string x.1.2]
def sol (l : List S42) : Nat → List (El l)
  | 0 => []
  | k + 1 => sol l k ++ (if h : ∃ hk : k < l.length, (l[k]'hk).f0 = true then [⟨(k, (l[k]'h.1).f1), h.1, h.2, rfl⟩] else [])
theorem sol_on {l : List S42} {k : Nat} (h : k < l.length) (hf : l[k].f0 = true) : sol l (k + 1) = sol l k ++ [⟨(k, l[k].f1), h, hf, rfl⟩] := by
  rw [sol, dif_pos ⟨h, hf⟩]
theorem sol_off {l : List S42} {k : Nat} (h : k < l.length) (hf : l[k].f0 = false) : sol l (k + 1) = sol l k := by
  rw [sol, dif_neg (fun ⟨_, e⟩ => by rw [hf] at e; cases e), List.append_nil]
theorem sol_len (l : List S42) (k : Nat) : (sol l k).length ≤ k := by
  induction k with
  | zero => simp [sol]
  | succ k ih => rw [sol, List.length_append]; split <;> (try simp only [List.length_cons, List.length_nil]) <;> omega
/-- What a round keeps: the blocks of K. -/
def Keep (K : Nat → Prop) (W W' : World) : Prop := W.heap.size ≤ W'.heap.size ∧ ∀ k, K k → W'.heap[k]? = W.heap[k]?
theorem Keep.refl (K : Nat → Prop) (W : World) : Keep K W W := ⟨Nat.le_refl _, fun _ _ => rfl⟩
theorem Keep.trans {K : Nat → Prop} {A B C : World} (h : Keep K A B) (k : Keep K B C) : Keep K A C := ⟨Nat.le_trans h.1 k.1, fun i hi => (k.2 i hi).trans (h.2 i hi)⟩
theorem Keep.put {K : Nat → Prop} {w : World} (hK : ∀ k, K k → k < w.heap.size) (W : World) (l : Nat) (o o' : Obj) (hl : w.heap.size ≤ l) : Keep K W (W.putObj l o') :=
  ⟨by rw [World.putObj_size]; exact Nat.le_refl _, fun k hk => World.putObj_heap_other (by have := hK k hk; omega)⟩
theorem Pg.keep {K : Nat → Prop} {w w' : World} {fp : Nat → Prop} {g : Nat} {l : List S42} (h : Pg w fp g l) (hk : Keep K w w') (hF : ∀ k, fp k → K k) : Pg w' fp g l := by
  obtain ⟨v, h1, h2, h3, h4⟩ := h
  exact ⟨v, (hk.2 g (hF g h3)).trans h1, Kd.R_step h2 (fun k hq _ => hk.2 k (hF k hq.1)), h3, fun k hq => Nat.lt_of_lt_of_le (h4 k hq) hk.1⟩
theorem all_any (p : Option Addr) (w : World) : Calls Try.prog 13 #[.pointer p] w fun e w' => e = .returned (.func (.func 25) #[] #[.pointer (some ⟨w.heap.size, 0, none⟩)]) ∧ w' = w.alloc (.cells #[.pointer p] 23) := by
  go_enter Try.func13, Try.ntmps13
  go_wp2
  go_ret
  exact ⟨rfl, rfl⟩
set_option maxRecDepth 100000 in
set_option maxHeartbeats 2000000 in
/-- The iterator, over a page. -/
theorem all1_in (n y Bp g : Nat) (fp K : Nat → Prop) (l : List S42) (hl : l.length ≤ 64) (hn : 1 ≤ n) (J Jx : List (El l) → World → Prop) (hfK : ∀ k, fp k → K k) (hBK : K Bp)
    (hY : ∀ pre x W, J pre W → pre.length < l.length → YieldAt Fence.wide (n - 1) Try.prog y (encs x) W fun e W' =>
      (e = .returned (.bool true) ∧ J (pre ++ [x]) W' ∧ Keep K W W') ∨ (e = .returned (.bool false) ∧ Jx (pre ++ [x]) W'))
    (W : World) (hB : W.heap[Bp]? = some (.cells #[.pointer (some ⟨g, 0, none⟩)] 23 (0, 0))) (hp : Pg W fp g l) (h0 : J [] W) :
    CallsIn Fence.wide n Try.prog 25 #[.func (.yield y) #[] #[], .pointer (some ⟨Bp, 0, none⟩)] W fun e W' => (∃ v, e = .returned v) ∧
      ((∃ xs, xs = sol l l.length ∧ J xs W') ∨ (∃ pre, (∃ k, k ≤ l.length ∧ pre = sol l k) ∧ Jx pre W')) := by
  refine callsIn_of_wp Try.func25 rfl trivial ?_ rfl
  simp only [Try.ntmps25, List.size_toArray, List.length_cons, List.length_nil, Nat.reduceAdd, Nat.reduceSub, Array.replicate_succ, Array.replicate_zero, List.push_toArray, List.append_toArray, List.nil_append, List.cons_append]
  gi_wp2
  gi_loopw [3] (fun i wr => ∃ k : Nat, k ≤ l.length ∧ i = .int .i64 (k : Int) ∧ J (sol l k) wr ∧ Keep K W wr)
    (fun i _ => l.length - (intOf i).toNat)
  case atStart => exact ⟨0, Nat.zero_le _, rfl, h0, Keep.refl _ _⟩
  case round =>
    obtain ⟨k, hk, rfl, hJs, hKp⟩ := hrel
    have hpr := hp.keep hKp hfK
    have hBr := (hKp.2 Bp hBK).trans hB
    have cB := (blk_cell hBr 0).trans rfl
    have HL := len_any wr fp g l hpr
    obtain ⟨A, c, h1, hc, _, hr⟩ := hpr.open
    have c0 := (blk_cell h1 0).trans rfl
    by_cases hlt : k < l.length
    · obtain ⟨ad, rfl, p0, p1⟩ := sl_at hr k hlt
      have hki : (0 : Int) ≤ (k : Int) := by omega
      have hki2 : (k : Int) < (l.length : Int) := by omega
      by_cases hf : l[k].f0 = true
      · obtain ⟨fn, tmps, assign, body, hy, hR⟩ := hY _ ⟨(k, l[k].f1), hlt, hf, rfl⟩ wr hJs (by have := sol_len l k; omega)
        dsimp only [encs] at hy
        rw [hf] at p0
        gi_wp2_with (refine ⟨trivial, ?_⟩; gi_at_call 18; refine (callsIn_wide.2 HL).mono ?_; rintro e w1 ⟨rfl, rfl⟩)
        refine hR.mono ?_
        rintro e W3 (⟨rfl, hJ3, hk3⟩ | ⟨rfl, hJx3⟩)
        · have HJ3 := Lib.hid hJ3
          have HK3 := Lib.hid (hKp.trans hk3)
          clear hJ3 hk3
          gi_wp2
          go_roundw
          case rel => exact ⟨k + 1, by omega, by go_num, by rw [sol_on hlt hf]; exact HJ3.out, HK3.out⟩
          case measure => simp [intOf]; omega
        · have HJ3 := Lib.hid hJx3
          clear hJx3
          gi_wp2
          refine bodyPost_ret (results_none rfl _ _ _) rfl ?_
          exact ⟨⟨_, rfl⟩, .inr ⟨_, ⟨k + 1, by omega, (sol_on hlt hf).symm⟩, HJ3.out⟩⟩
      · have hf' : l[k].f0 = false := by simpa using hf
        rw [hf'] at p0
        have HJ3 := Lib.hid hJs
        have HK3 := Lib.hid hKp
        clear hJs
        gi_wp2_with (refine ⟨trivial, ?_⟩; gi_at_call 18; refine (callsIn_wide.2 HL).mono ?_; rintro e w1 ⟨rfl, rfl⟩)
        refine ⟨fun _ h => (by cases h), ?_⟩
        gi_wp2
        go_roundw
        case rel => exact ⟨k + 1, by omega, by go_num, by rw [sol_off hlt hf']; exact HJ3.out, HK3.out⟩
        case measure => simp [intOf]; omega
    · obtain rfl : k = l.length := by omega
      have hki2 : ¬ ((l.length : Nat) : Int) < (l.length : Int) := by omega
      have HJ3 := Lib.hid hJs
      clear hJs hKp
      gi_wp2_with (refine ⟨trivial, ?_⟩; gi_at_call 18; refine (callsIn_wide.2 HL).mono ?_; rintro e w1 ⟨rfl, rfl⟩)
      go_end0
      exact ⟨⟨_, rfl⟩, .inl ⟨_, rfl, HJ3.out⟩⟩
set_option maxRecDepth 100000 in
set_option maxHeartbeats 2000000 in
/-- .. and over the nil page: no round. -/
theorem all1_nil_in (n y Bp : Nat) (hn : 1 ≤ n) (J : List (El []) → World → Prop) (W : World) (hB : W.heap[Bp]? = some (.cells #[.pointer none] 23 (0, 0))) (h0 : J [] W) :
    CallsIn Fence.wide n Try.prog 25 #[.func (.yield y) #[] #[], .pointer (some ⟨Bp, 0, none⟩)] W fun e W' => (∃ v, e = .returned v) ∧ J [] W' := by
  refine callsIn_of_wp Try.func25 rfl trivial ?_ rfl
  simp only [Try.ntmps25, List.size_toArray, List.length_cons, List.length_nil, Nat.reduceAdd, Nat.reduceSub, Array.replicate_succ, Array.replicate_zero, List.push_toArray, List.append_toArray, List.nil_append, List.cons_append]
  gi_wp2
  gi_loopw [3] (fun i wr => i = .int .i64 0 ∧ W = wr) (fun i _ => 0)
  case atStart => exact ⟨rfl, rfl⟩
  case round =>
    obtain ⟨rfl, rfl⟩ := hrel
    have cB := (blk_cell hB 0).trans rfl
    have HJ := Lib.hid h0
    clear h0
    gi_wp2_with (refine ⟨trivial, ?_⟩; gi_at_call 18; refine (callsIn_wide.2 (len_nil W)).mono ?_; rintro e w1 ⟨rfl, rfl⟩)
    go_end0
    exact ⟨⟨_, rfl⟩, HJ.out⟩
/-- The iterator's contract. -/
theorem all_stops (n Bp g : Nat) (fp K : Nat → Prop) (l : List S42) (hl : l.length ≤ 64) (hn : 1 ≤ n) (hfK : ∀ k, fp k → K k) (hBK : K Bp) (w : World) (hK : ∀ k, K k → k < w.heap.size)
    (hB : w.heap[Bp]? = some (.cells #[.pointer (some ⟨g, 0, none⟩)] 23 (0, 0))) (hp : Pg w fp g l) :
    SeqStopsK Fence.wide n Try.prog 25 #[.pointer (some ⟨Bp, 0, none⟩)] (encs (l := l)) (Keep K) (fun xs => xs = sol l l.length) (fun pre => ∃ k, k ≤ l.length ∧ pre = sol l k) l.length w := fun y J Jx W hW hJ hJx hY h0 => by
  have hkw : Keep K w W := ⟨hW.size, fun k hk => hW.block k (hK k hk)⟩
  exact all1_in n y Bp g fp K l hl hn J Jx hfK hBK hY W ((hkw.2 Bp hBK).trans hB) (hp.keep hkw hfK) h0
theorem all_nil_stops (n Bp : Nat) (K : Nat → Prop) (hn : 1 ≤ n) (hBK : K Bp) (w : World) (hK : ∀ k, K k → k < w.heap.size) (hB : w.heap[Bp]? = some (.cells #[.pointer none] 23 (0, 0))) :
    SeqStopsK Fence.wide n Try.prog 25 #[.pointer (some ⟨Bp, 0, none⟩)] (encs (l := [])) (Keep K) (fun xs => xs = []) (fun pre => pre = []) 0 w := fun y J Jx W hW hJ hJx hY h0 => by
  have hkw : Keep K w W := ⟨hW.size, fun k hk => hW.block k (hK k hk)⟩
  refine (all1_nil_in n y Bp hn J W ((hkw.2 Bp hBK).trans hB) h0).mono ?_
  rintro e W' ⟨h1, h2⟩
  exact ⟨h1, .inl ⟨[], rfl, h2⟩⟩
end Go.Proofs.Ytooejjjogjfniaa
