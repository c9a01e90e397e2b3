/- The law of the plays, walked. -/
import Derived.Test.YtooejjjogjfniaaSlotIter
import Derived.Test.YtooejjjogjfniaaSlotRoomW
set_option linter.unusedVariables false
set_option linter.unusedSimpArgs false
namespace Go.Proofs.Ytooejjjogjfniaa
open Go.RowKit Go.Proofs.YtooejjjogjfniaaW.PrintWords Go.Proofs.Ytooejjjogjfniaa.PSlotRoom Go.Proofs.YtooejjjogjfniaaW.PrintLast
attribute [local go_sem] Oper.semAt_some
theorem isfunc_39 : (match Try.prog.underlying 39 with | some (.func _ _ _) => true | _ => false) = true := by kernel_rfl
theorem equalIn_func (d : Nat) (k : FuncId) (lb : Array Value) (w : World) : (Op.equalIn (d + 1) 39 (.func (.func k) #[] lb) .nilFunc).run Try.prog w = .ok false w := by
  have h := isfunc_39
  split at h
  · rename_i a b c hu
    unfold Op.equalIn
    rw [Sem.run_bind, run_underlying hu]
    rfl
  · cases h
theorem eql_func (k : FuncId) (lb : Array Value) (w : World) : (binOp .eql 39 (.func (.func k) #[] lb) .nilFunc).run Try.prog w = .ok (.bool false) w := by
  have h := equalIn_func 9999 k lb w
  simp only [binOp, Op.equal]
  rw [show Op.maxDepth = 9999 + 1 from rfl]
  generalize Op.equalIn (9999 + 1) 39 (.func (.func k) #[] lb) .nilFunc = z at *
  simp [go_sem, h]
theorem box_kept {W W' : World} {row : Option Nat} {B : Nat} {t : TypeId} {v : Value} (h : Boxed W B t v) (hg : W.grownBy W' row) (hr : ∀ r, row = some r → ∃ o : Obj, W.heap[r]? = some o ∧ o.isCells = false) : Boxed W' B t v :=
  h.kept hg (fun e => by
    obtain ⟨o, h1, h2⟩ := hr B e.symm
    rw [show W.heap[B]? = _ from h] at h1
    cases h1
    cases h2)
theorem Keep.set {K : Nat → Prop} (W : World) {b : Nat} (h : ¬ K b) (u : Value) : Keep K W (W.setCell ⟨b, 0, none⟩ u) :=
  ⟨(KeepsWalks.setCell W _ u).size, fun k hk => Below.heap_setCell _ _ _ k (fun e => h (by rw [← show k = b from e]; exact hk))⟩
def inc {l : List S42} (xs : List (El l)) : Bool × Int := xs.foldl (fun s x => (s.1 && decide (s.2 < (x.1.1 : Int)), (x.1.1 : Int))) (true, -1)
theorem inc_snoc {l : List S42} (xs : List (El l)) (x : El l) : inc (xs ++ [x]) = ((inc xs).1 && decide ((inc xs).2 < (x.1.1 : Int)), (x.1.1 : Int)) := by
  rw [inc, List.foldl_append]; rfl
theorem inc_sol (l : List S42) (k : Nat) (h : k ≤ l.length) : (inc (sol l k)).1 = true ∧ -1 ≤ (inc (sol l k)).2 ∧ (inc (sol l k)).2 < (k : Int) := by
  induction k with
  | zero => exact ⟨rfl, Int.le_refl _, by show (-1 : Int) < 0; omega⟩
  | succ k ih =>
    obtain ⟨h1, h2, h3⟩ := ih (by omega)
    by_cases hf : (l[k]'(by omega)).f0 = true
    · rw [sol_on (by omega) hf, inc_snoc, h1]
      exact ⟨by simpa using h3, by show (-1 : Int) ≤ (k : Int); omega, by show (k : Int) < ((k + 1 : Nat) : Int); omega⟩
    · rw [sol_off (by omega) (by simpa using hf)]
      exact ⟨h1, h2, by omega⟩
set_option maxRecDepth 100000 in
set_option maxHeartbeats 2000000 in
theorem playsW_any (A : Option Addr) (c : Nat) (ops : List S34) (w : World) (hr : Kd.C k34 w A ops.length ops) (hc : ops.length ≤ c) (hb : ∀ x ∈ ops, Op34 x) :
    Calls Try.prog 4 #[.slice A ops.length c] w fun e w' => e = .returned (.bool true) ∧ Mod [] w w' := by
  have HM := made_any A c ops w hr hc hb
  generalize runS [] (ops.take 80) = l at *
  clear hr hb
  refine (callsIn_wide (n := 4)).1 ?_
  refine callsIn_of_wp_marks Try.func4 rfl trivial ?_ rfl
  simp only [Try.ntmps4, List.size_toArray, List.length_cons, List.length_nil, Nat.reduceAdd, Nat.reduceSub, Array.replicate_succ, Array.replicate_zero, List.push_toArray, List.append_toArray, List.nil_append, List.cons_append]
  gi_wp2_with fail
  refine ⟨trivial, ?_⟩
  refine (callsIn_wide.2 HM).mono ?_
  rintro e w1 ⟨fp, ok, g, v, rfl, hm1, hst⟩
  obtain ⟨A2, c2, rfl, hcl, hrc⟩ := Kd.R_reads hst.row
  have bx4 := blk_new w1 (.cells #[.slice A2 l.length c2] 24)
  have hmA := (Mod.refl [] w1).alloc (.cells #[.slice A2 l.length c2] 24)
  have HMA := Lib.hid (hm1.trans0 hmA)
  have HBW := Lib.hid hm1.size
  have hap : ¬ fp w1.heap.size ∧ ¬ ok w1.heap.size := ⟨fun h => Nat.lt_irrefl _ (hst.pg.lt _ h), fun h => Nat.lt_irrefl _ (hst.okl _ h)⟩
  have hstA := hst.mod hmA
  have HAL := alike_any _ _ fp ok g A2 c2 l hstA hcl
  have HSTA := Lib.hid hstA
  clear hm1 hmA hst hrc hstA HM
  gi_wp2_with fail
  refine ⟨trivial, ?_⟩
  generalize w1.alloc _ = wA at *
  generalize w1.heap.size = b4 at *
  refine (callsIn_wide.2 HAL).mono ?_
  rintro e w2 ⟨rfl, hm2⟩
  have BX4 := Lib.hid (hm2.blk bx4 (by simp))
  have HM2 := Lib.hid (HMA.out.trans0 hm2)
  have HST2 := Lib.hid (HSTA.out.mod hm2)
  clear hm2 bx4 HAL HMA HSTA
  gi_wp2_with fail
  have HALL := all_any (some ⟨g, 0, none⟩) (((w2.alloc (.cells #[.int .i64 (-1)] 3)).alloc (.cells #[.int .i64 0] 3)).alloc (.cells #[.bool true] 4))
  obtain ⟨w5, hw5⟩ : ∃ w5, ((w2.alloc (.cells #[.int .i64 (-1)] 3)).alloc (.cells #[.int .i64 0] 3)).alloc (.cells #[.bool true] 4) = w5 := ⟨_, rfl⟩
  have h6 : Boxed w5 w2.heap.size 3 (.int .i64 (-1)) := by rw [← hw5]; exact ((Boxed.new w2 3 _).alloc _).alloc _
  have h7 : Boxed w5 (w2.heap.size + 1) 3 (.int .i64 0) := by rw [← hw5]; have := (Boxed.new (w2.alloc (.cells #[.int .i64 (-1)] 3)) 3 (.int .i64 0)).alloc (.cells #[.bool true] 4); rwa [World.size_alloc] at this
  have h8 : Boxed w5 (w2.heap.size + 1 + 1) 4 (.bool true) := by rw [← hw5]; have := Boxed.new ((w2.alloc (.cells #[.int .i64 (-1)] 3)).alloc (.cells #[.int .i64 0] 3)) 4 (.bool true); rwa [World.size_alloc, World.size_alloc] at this
  have hz5 : w5.heap.size = w2.heap.size + 3 := by rw [← hw5, World.size_alloc, World.size_alloc, World.size_alloc]
  have hm5 : Mod [] w2 w5 := by rw [← hw5]; exact (((Mod.refl [] w2).alloc _).alloc _).alloc _
  rw [hw5] at HALL ⊢
  have HM5 := Lib.hid hm5
  have H6 := Lib.hid (h6.alloc (.cells #[.pointer (some ⟨g, 0, none⟩)] 23))
  have H7 := Lib.hid (h7.alloc (.cells #[.pointer (some ⟨g, 0, none⟩)] 23))
  have H8 := Lib.hid (h8.alloc (.cells #[.pointer (some ⟨g, 0, none⟩)] 23))
  have H9 := Lib.hid (Boxed.new w5 23 (.pointer (some ⟨g, 0, none⟩)))
  have HM6 := Lib.hid (hm5.alloc (.cells #[.pointer (some ⟨g, 0, none⟩)] 23))
  have hz6 : (w5.alloc (.cells #[.pointer (some ⟨g, 0, none⟩)] 23)).heap.size = w2.heap.size + 4 := by rw [World.size_alloc, hz5]
  have HZ6 := Lib.hid hz6
  have HZ5 := Lib.hid hz5
  clear hw5 h6 h7 h8 hz5 hm5 hz6
  refine ⟨trivial, ?_⟩
  refine (callsIn_wide.2 HALL).mono ?_
  rintro e w6 ⟨rfl, rfl⟩
  clear HALL
  generalize w5.alloc _ = w6 at *
  generalize w5.heap.size = Bp at *
  have hNF := eql_func 25 #[.pointer (some ⟨Bp, 0, none⟩)] w6
  gi_wp2_with fail
  clear hNF
  obtain ⟨b6, hb6⟩ : ∃ b, w2.heap.size = b := ⟨_, rfl⟩
  rw [hb6] at H6 H7 H8 HZ5 HZ6 ⊢
  have hBel : Below b6 w2 w6 := by rw [← hb6]; exact HM6.out.below0
  have HBel := Lib.hid hBel
  have hz6 := HZ6.out
  have hBp : b6 + 3 ≤ Bp := Nat.le_of_eq HZ5.out.symm
  have hBp2 : Bp < b6 + 4 := by have := HZ5.out; omega
  have hl64 := HST2.out.inv.len
  have hfl := HST2.out.pg.lt
  have hol := HST2.out.okl
  have h4l : b4 < b6 := by rw [← hb6]; exact blk_lt BX4.out
  rw [hb6] at hfl hol
  have HFL := Lib.hid hfl
  have hpg6 := HST2.out.pg.mod HM6.out
  have HOL := Lib.hid hol
  have HW2 := Lib.hid hb6
  clear hBel hb6 hfl hol
  refine wpIn_rangeFunc_ownG rfl (by omega) (gf := 25) (lb := #[.pointer (some ⟨Bp, 0, none⟩)]) rfl trivial (enters_of Try.func25 (by kernel_rfl) rfl)
    (all_stops 3 Bp g fp (fun k => fp k ∨ k = Bp) l hl64 (by omega) (fun k h => .inl h) (.inr rfl) w6 (fun k h => h.elim (fun h => by have := HFL.out k h; omega) (fun h => by omega)) H9.out hpg6)
    Keep.trans (fun W y o o' hl _ _ _ => Keep.put (w := w6) (fun k h => h.elim (fun h => by have := HFL.out k h; omega) (fun h => by omega)) W y o o' hl) (Below.refl _ _) (fun _ => rfl)
    (fun pre W => (Boxed W b6 3 (.int .i64 (inc pre).2) ∧ Boxed W (b6 + 1) 3 (.int .i64 (pre.length : Int)) ∧ Boxed W (b6 + 1 + 1) 4 (.bool (inc pre).1)) ∧ Below b6 w2 W)
    (fun _ _ _ => False)
    (OwnFrom.and (Own.from (fun s A B row hs hg hr => ⟨box_kept hs.1 hg hr, box_kept hs.2.1 hg hr, box_kept hs.2.2 hg hr⟩) _) (ownFrom_below (by rw [HW2.out]; exact Nat.le_refl _) (by omega)))
    (fun _ _ _ _ _ hs _ _ => hs)
    ⟨⟨H6.out, H7.out, H8.out⟩, HBel.out⟩
    (fun x => { tmps := #[.slice A ops.length c, undef, .bool false, .pointer (some ⟨g, 0, none⟩), .pointer (some ⟨b4, 0, none⟩), .bool true, .pointer (some ⟨b6, 0, none⟩), .pointer (some ⟨b6 + 1, 0, none⟩), .pointer (some ⟨b6 + 1 + 1, 0, none⟩), .func (.func 25) #[] #[.pointer (some ⟨Bp, 0, none⟩)], .int .i64 (x.1.1 : Int), .string x.1.2, undef, .tuple #[.pointer (some ⟨g, 0, none⟩), .slice A2 l.length c2, .bool true], .slice A ops.length c, .tuple #[.pointer (some ⟨g, 0, none⟩), .slice A2 l.length c2, .bool true], .pointer (some ⟨g, 0, none⟩), .slice A2 l.length c2, .bool true, .bool true, .bool false, .bool false, .pointer (some ⟨g, 0, none⟩), .slice A2 l.length c2, .bool true, .bool false, .bool false, .pointer (some ⟨g, 0, none⟩), .func (.func 25) #[] #[.pointer (some ⟨Bp, 0, none⟩)], .func (.func 25) #[] #[.pointer (some ⟨Bp, 0, none⟩)], .bool false, .func (.func 25) #[] #[.pointer (some ⟨Bp, 0, none⟩)], .int .i64 (x.1.1 : Int), .string x.1.2, undef, undef, undef, undef, undef, undef, undef, undef, undef, undef, undef, undef, undef, undef, undef, undef, undef, undef, undef, undef, undef, undef, undef, undef, undef, undef, undef, undef, undef, undef, undef, undef, undef, undef, undef, undef, undef, undef, undef, undef, undef, undef, undef, undef, undef, undef, undef, undef, undef, undef, undef, undef], defers := [] }) ?assign ?body ?done ?stop
  case assign =>
    intro y x W K hK
    simp only [encs]
    gi_wp2
    exact hK
  case body =>
    rintro y pre ⟨⟨i, s⟩, hi, hf, hs⟩ W ⟨⟨h6, h7, h8⟩, hB⟩ hlen
    have hinc := inc_snoc pre ⟨(i, s), hi, hf, hs⟩
    have HINC := Lib.hid hinc
    have hst := HST2.out.mod (Mod.of_below (by rw [HW2.out]; exact hB))
    obtain ⟨ad, hA2, p0, p1⟩ := ref_at (R_C hst.row) i hi
    subst hA2
    have hi2 : i < l.length := hi
    have hf2 : l[i].f0 = true := hf
    have hs2 : l[i].f1 = s := hs
    rw [hf2] at p0
    rw [hs2] at p1
    have bx4 : Boxed W b4 24 (.slice (some ad) l.length c2) := (hB.block b4 h4l).trans BX4.out
    have c4 := bx4.cell
    have c6 := h6.cell
    have c7 := h7.cell
    have c8 := h8.cell
    have f6 := h6.frozen
    have f7 := h7.frozen
    have f8 := h8.frozen
    have hii : (i : Int) < (l.length : Int) := by omega
    have hi0 : (0 : Int) ≤ (i : Int) := by omega
    clear hinc hst
    obtain ⟨t, ht⟩ : ∃ t, ((inc pre).1 && decide ((inc pre).2 < (i : Int))) = t := ⟨_, rfl⟩
    have HT := Lib.hid ht
    have h6a := h6.other (B' := b6 + 1 + 1) (by omega) (.bool t)
    have h7a := h7.other (B' := b6 + 1 + 1) (by omega) (.bool t)
    have h8a := h8.set (.bool t)
    have h6b := h6a.set (.int .i64 (i : Int))
    have h7b := h7a.other (B' := b6) (by omega) (.int .i64 (i : Int))
    have h8b := h8a.other (B' := b6) (by omega) (.int .i64 (i : Int))
    have h6c := h6b.other (B' := b6 + 1) (by omega) (.int .i64 ((pre.length : Int) + 1))
    have h7c := h7b.set (.int .i64 ((pre.length : Int) + 1))
    have h8c := h8b.other (B' := b6 + 1) (by omega) (.int .i64 ((pre.length : Int) + 1))
    have c6a := h6a.cell
    have f6a := h6a.frozen
    have c7b := h7b.cell
    have f7b := h7b.frozen
    have HH := Lib.hid (And.intro h6c (And.intro h7c h8c))
    have HB := Lib.hid hB
    have hk6 : ¬ (fp b6 ∨ b6 = Bp) := fun h => h.elim (fun h => Nat.lt_irrefl _ (HFL.out _ h)) (fun h => by omega)
    have hk7 : ¬ (fp (b6 + 1) ∨ b6 + 1 = Bp) := fun h => h.elim (fun h => by have := HFL.out _ h; omega) (fun h => by omega)
    have hk8 : ¬ (fp (b6 + 1 + 1) ∨ b6 + 1 + 1 = Bp) := fun h => h.elim (fun h => by have := HFL.out _ h; omega) (fun h => by omega)
    clear h6 h7 h8 h6a h7a h8a h6b h7b h8b h6c h7c h8c hB ht
    generalize (inc pre).1 = b at *
    generalize (inc pre).2 = la at *
    cases b
    · obtain rfl : false = t := by simpa using HT.out
      gi_wp2
      refine ⟨((KeepsOthers.setCell _ _ _).trans ((KeepsOthers.setCell _ _ _).trans (KeepsOthers.setCell _ _ _))).from _, ((Keep.set _ hk8 _).trans (Keep.set _ hk6 _)).trans (Keep.set _ hk7 _), ⟨?_, ?_, ?_⟩, ((HB.out.setCell (p := ⟨b6 + 1 + 1, 0, none⟩) (by simp; omega) _).setCell (p := ⟨b6, 0, none⟩) (by simp) _).setCell (p := ⟨b6 + 1, 0, none⟩) (by simp) _⟩
      · rw [HINC.out]; exact HH.out.1
      · rw [List.length_append]; exact HH.out.2.1
      · rw [HINC.out]; dsimp only; rw [HT.out]; exact HH.out.2.2
    · by_cases hla : la < (i : Int)
      · obtain rfl : true = t := by simpa [hla] using HT.out
        gi_wp2
        refine ⟨((KeepsOthers.setCell _ _ _).trans ((KeepsOthers.setCell _ _ _).trans (KeepsOthers.setCell _ _ _))).from _, ((Keep.set _ hk8 _).trans (Keep.set _ hk6 _)).trans (Keep.set _ hk7 _), ⟨?_, ?_, ?_⟩, ((HB.out.setCell (p := ⟨b6 + 1 + 1, 0, none⟩) (by simp; omega) _).setCell (p := ⟨b6, 0, none⟩) (by simp) _).setCell (p := ⟨b6 + 1, 0, none⟩) (by simp) _⟩
        · rw [HINC.out]; exact HH.out.1
        · rw [List.length_append]; exact HH.out.2.1
        · rw [HINC.out]; dsimp only; rw [HT.out]; exact HH.out.2.2
      · obtain rfl : false = t := by simpa [hla] using HT.out
        gi_wp2
        refine ⟨((KeepsOthers.setCell _ _ _).trans ((KeepsOthers.setCell _ _ _).trans (KeepsOthers.setCell _ _ _))).from _, ((Keep.set _ hk8 _).trans (Keep.set _ hk6 _)).trans (Keep.set _ hk7 _), ⟨?_, ?_, ?_⟩, ((HB.out.setCell (p := ⟨b6 + 1 + 1, 0, none⟩) (by simp; omega) _).setCell (p := ⟨b6, 0, none⟩) (by simp) _).setCell (p := ⟨b6 + 1, 0, none⟩) (by simp) _⟩
        · rw [HINC.out]; exact HH.out.1
        · rw [List.length_append]; exact HH.out.2.1
        · rw [HINC.out]; dsimp only; rw [HT.out]; exact HH.out.2.2
  case done =>
    rintro D xs W hD rfl ⟨⟨h6, h7, h8⟩, hB⟩ hK
    rw [(inc_sol l l.length (Nat.le_refl _)).1] at h8
    have HB := Lib.hid hB
    have H7 := Lib.hid h7
    have H8 := Lib.hid h8
    have HK := Lib.hid hK
    clear h6 h7 h8 hB hK
    gi_wp2_with fail
    gi_loopw [12] (fun i wr => ∃ k : Nat, i = .int .i64 (k : Int) ∧ k ≤ l.length ∧ Boxed wr (b6 + 1) 3 (.int .i64 (((sol l l.length).length : Int) - ((sol l k).length : Int))) ∧ Boxed wr (b6 + 1 + 1) 4 (.bool true) ∧ Below b6 w2 wr ∧ wr.heap[D]? = some (.deferred (some [])))
      (fun i _ => l.length - (intOf i).toNat)
    case atStart => exact ⟨0, rfl, Nat.zero_le _, by have := H7.out; simpa [sol] using this, H8.out, HB.out, HK.out⟩
    case round =>
      obtain ⟨k, rfl, hk, h7, h8, hB, hD2⟩ := hrel
      have hst := HST2.out.mod (Mod.of_below (by rw [HW2.out]; exact hB))
      have bx4 : Boxed wr b4 24 (.slice A2 l.length c2) := (hB.block b4 h4l).trans BX4.out
      have c4 := bx4.cell
      have c7 := h7.cell
      have f7 := h7.frozen
      have c8 := h8.cell
      have hs1 := sol_len l k
      have hs2 := sol_len l l.length
      have HB1 := Lib.hid hB
      have HD := Lib.hid hD2
      have H71 := Lib.hid h7
      have H81 := Lib.hid h8
      by_cases hlt : k < l.length
      · obtain ⟨ad, hA2, p0, p1⟩ := ref_at (R_C hst.row) k hlt
        subst hA2
        have hii : (k : Int) < (l.length : Int) := by omega
        have hi0 : (0 : Int) ≤ (k : Int) := by omega
        clear h7 h8 hB hD2 hst p1
        by_cases hf : l[k].f0 = true
        · rw [hf] at p0
          have HSN := Lib.hid (show (sol l (k + 1)).length = (sol l k).length + 1 by rw [sol_on hlt hf, List.length_append]; rfl)
          generalize (sol l l.length).length = n9 at *
          generalize (sol l k).length = m9 at *
          have h7b := H71.out.set (.int .i64 ((n9 : Int) - (m9 : Int) - 1))
          have h8b := H81.out.other (B' := b6 + 1) (by omega) (.int .i64 ((n9 : Int) - (m9 : Int) - 1))
          have HH := Lib.hid (And.intro h7b h8b)
          clear h7b h8b
          gi_wp2
          go_roundw
          case rel => exact ⟨k + 1, by go_num, by omega, by rw [HSN.out, show (n9 : Int) - ((m9 + 1 : Nat) : Int) = n9 - m9 - 1 by omega]; exact HH.out.1, HH.out.2, HB1.out.setCell (p := ⟨b6 + 1, 0, none⟩) (by simp) _, (KeepsOthers.setCell _ _ _).same D _ HD.out rfl⟩
          case measure => simp [intOf]; omega
        · have hf' : l[k].f0 = false := by simpa using hf
          rw [hf'] at p0
          have HSN := Lib.hid (congrArg List.length (sol_off hlt hf'))
          gi_wp2
          go_roundw
          case rel => exact ⟨k + 1, by go_num, by omega, by rw [HSN.out]; exact H71.out, H81.out, HB1.out, HD.out⟩
          case measure => simp [intOf]; omega
      · obtain rfl : k = l.length := by omega
        have hii : ¬ ((l.length : Nat) : Int) < (l.length : Int) := by omega
        rw [Int.sub_self] at c7
        clear h7 h8 hB hD2 hst H71
        gi_wp2_with (refine ⟨trivial, ?_⟩; gi_at_call 11; refine (callsIn_wide.2 (lives_any _)).mono ?_; rintro e w9 ⟨rfl, hm9⟩)
        have hD9 := hm9.blk HD.out (by simp)
        refine ⟨by simp, .inl ⟨_, _, rfl, run_takeDeferred hD9, ?_⟩⟩
        refine ⟨_, results_tmp rfl _ _ _, rfl, ?_⟩
        have hall : Below w.heap.size w w9 := ((HM2.out.below0).trans (HB1.out.mono (by rw [← HW2.out]; exact HM2.out.size))).trans (hm9.below0.mono ?_)
        · exact Mod.of_below (hall.trans (belowK_b (w := w) (Nat.le_refl _) w9 D _ _ (by have := HM2.out.size; rw [HW2.out] at this; omega) hD9 rfl rfl))
        · exact Nat.le_trans HM2.out.size HB1.out.size
  case stop =>
    rintro D c pre W _ _ h _
    exact h.elim
theorem plays_walk {H : Type} {enc : TypeId × Value → H} (v : Value) (d : DataW H) (p : List MemPlace) (w : World) (ho : Value.okWide Try.prog w .any 0 22 v) (h : DataW.Trod enc Try.prog w 0 (fun _ => true) true 22 v d p) :
    Calls Try.prog 4 #[v] w fun e w' => e = .returned (.bool true) ∧ Mod [] w w' := by
  obtain ⟨A, c, ops, rfl, hc, hr, hb⟩ := ops_open ho h
  exact playsW_any A c ops w hr hc hb
end Go.Proofs.Ytooejjjogjfniaa
