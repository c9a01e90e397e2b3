/- The law of the nil page and of the loop that is left early, walked. -/
import Derived.Test.YtooejjjogjfniaaSlotPlaysW
import Derived.ControlIn
set_option linter.unusedVariables false
set_option linter.unusedSimpArgs false
namespace Go.Proofs.Ytooejjjogjfniaa
open Go.RowKit Go.Proofs.YtooejjjogjfniaaW.PrintWords Go.Proofs.Ytooejjjogjfniaa.PSlotRoom Go.Proofs.YtooejjjogjfniaaW.PrintLast
attribute [local go_sem] Oper.semAt_some
theorem op34_open {H : Type} {enc : TypeId × Value → H} {w : World} {v : Value} {D : DataW H} {p : List MemPlace} (ho : Value.okWide Try.prog w .any 0 34 v) (h : DataW.Trod enc Try.prog w 0 (fun _ => true) true 34 v D p) :
    ∃ a : S34, v = .agg a.v.toArray ∧ Op34 a := by
  unfold Value.okWide at ho
  rw [Try.underlying34] at ho
  obtain ⟨cs, rfl, hsz, _⟩ := ho
  obtain ⟨fuel, hf⟩ := h
  have hlen := (fields_trod (l := [(3, 0), (3, 1), (3, 2), (5, 3)]) (by kernel_rfl) hf).1
  rw [c34] at hlen
  obtain ⟨a, hK, hop⟩ := op_open hf hlen
  refine ⟨a, ?_, hop⟩
  have := k34_open hK
  rw [← this]
  simp [Value.cells]
theorem sol_mono (l : List S42) (d : Nat) : ∀ k, (sol l k).length ≤ (sol l (k + d)).length := by
  induction d with
  | zero => exact fun k => Nat.le_refl _
  | succ d ih =>
    intro k
    refine Nat.le_trans (ih k) ?_
    show (sol l (k + d)).length ≤ (sol l (k + d + 1)).length
    rw [sol, List.length_append]
    omega
theorem sol_le (l : List S42) {k : Nat} (h : k ≤ l.length) : (sol l k).length ≤ (sol l l.length).length := by
  have := sol_mono l (l.length - k) k
  rwa [Nat.add_sub_cancel' h] at this
set_option maxRecDepth 100000 in
set_option maxHeartbeats 2000000 in
theorem nilsW_any (A : Option Addr) (c : Nat) (ops : List S34) (a : S34) (stop : Int) (w : World) (hr : Kd.C k34 w A ops.length ops) (hc : ops.length ≤ c) (hb : ∀ x ∈ ops, Op34 x) (ha : Op34 a) :
    Calls Try.prog 5 #[.slice A ops.length c, .agg a.v.toArray, .int .i64 stop] w fun e w' => e = .returned (.bool true) ∧ Mod [] w w' := by
  obtain ⟨k, i, n, b⟩ := a
  have hn : -9223372036854775808 ≤ n ∧ n ≤ 9223372036854775807 := ha
  show Calls Try.prog 5 #[.slice A ops.length c, .agg #[.int .i64 k, .int .i64 i, .int .i64 n, .int .u8 b], .int .i64 stop] w _
  obtain ⟨hm0, hcells⟩ := box4 w k i n b
  have HM := fun w' hm => made_any A c ops w' (C_mod hr hm) hc hb
  have HREC := fun w' => rec_any k i n b w' hn
  have bs := (Boxed.new (w.alloc (.cells #[.int .i64 k, .int .i64 i, .int .i64 n, .int .u8 b] 34)) 3 (.int .i64 stop))
  have hm1 := hm0.alloc (.cells #[.int .i64 stop] 3)
  have bo := (blk_new w (.cells #[.int .i64 k, .int .i64 i, .int .i64 n, .int .u8 b] 34))
  have bo1 := (((Mod.refl [] _).alloc (.cells #[.int .i64 stop] 3)).blk bo (by simp))
  generalize recS n b = rs at *
  generalize runS [] (ops.take 80) = l at *
  clear hr hb ha hcells hm0 bo
  refine (callsIn_wide (n := 4)).1 ?_
  refine callsIn_of_wp_marks Try.func5 rfl trivial ?_ rfl
  refine wpIn_wide.2 ?_
  simp only [Try.ntmps5, List.size_toArray, List.length_cons, List.length_nil, Nat.reduceAdd, Nat.reduceSub, Array.replicate_succ, Array.replicate_zero, List.push_toArray, List.append_toArray, List.nil_append, List.cons_append]
  rw [World.size_alloc] at bs
  have HM1 := Lib.hid hm1
  obtain ⟨w1, hw1⟩ : ∃ w1, (w.alloc (.cells #[.int .i64 k, .int .i64 i, .int .i64 n, .int .u8 b] 34)).alloc (.cells #[.int .i64 stop] 3) = w1 := ⟨_, rfl⟩
  have hz1 : w1.heap.size = w.heap.size + 2 := by rw [← hw1, World.size_alloc, World.size_alloc]
  rw [hw1] at bs bo1 HM1
  have d0 := (blk_cell bo1 0).trans rfl
  have d1 := (blk_cell bo1 1).trans rfl
  have d2 := (blk_cell bo1 2).trans rfl
  have d3 := (blk_cell bo1 3).trans rfl
  have BO1 := Lib.hid bo1
  have BS1 := Lib.hid bs
  have HZ1 := Lib.hid hz1
  clear bs bo1 hm1 hz1
  go_wp2_with fail
  generalize w.heap.size = b4 at *
  generalize b4 + 1 = b5 at *
  clear hw1
  refine (HREC w1).mono ?_
  rintro e w2 ⟨rfl, hm2⟩
  have e1 := hm2.cell d1 (by simp)
  clear d0 d1 d2 d3
  go_wp2_with (go_at_call 9; refine (add_nil _ _).mono ?_; rintro e w3 ⟨rfl, rfl⟩)
  refine (get_nil w2 i).mono ?_
  rintro e w3 ⟨rfl, rfl⟩
  have bc0 := Boxed.new w2 3 (.int .i64 0)
  have hm3 := (Mod.refl [] w2).alloc (.cells #[.int .i64 0] 3)
  have HALL := all_any none (w2.alloc (.cells #[.int .i64 0] 3))
  have hz3 : (w2.alloc (.cells #[.int .i64 0] 3)).heap.size = w2.heap.size + 1 := World.size_alloc _ _
  have HM2 := Lib.hid (HM1.out.trans0 hm2)
  have BO2 := Lib.hid (hm2.blk BO1.out (by simp))
  have BS2 := Lib.hid (hm2.blk BS1.out (by simp))
  clear BO1 BS1 HM1 HZ1 hm2 e1
  go_wp2_with fail
  obtain ⟨w4, hw4⟩ : ∃ w4, w2.alloc (.cells #[.int .i64 0] 3) = w4 := ⟨_, rfl⟩
  rw [hw4] at HALL bc0 hm3 hz3 ⊢
  clear hw4
  refine HALL.mono ?_
  rintro e w5 ⟨rfl, rfl⟩
  have bp0 := Boxed.new w4 23 (.pointer none)
  rw [hz3] at bp0
  have bc5 := bc0.alloc (.cells #[.pointer none] 23)
  have hm5 := hm3.alloc (.cells #[.pointer none] 23)
  have hz5 : (w4.alloc (.cells #[.pointer none] 23)).heap.size = w2.heap.size + 2 := by rw [World.size_alloc, hz3]
  generalize w4.alloc _ = w5 at *
  have hnf := eql_func 25 #[.pointer (some ⟨w2.heap.size + 1, 0, none⟩)] w5
  obtain ⟨bc, hbc⟩ : ∃ b, w2.heap.size = b := ⟨_, rfl⟩
  rw [hbc] at hnf hz3 bc5 bp0 hz5 ⊢
  have HM5 := Lib.hid hm5
  have HBC := Lib.hid hbc
  have HBP := Lib.hid bp0
  have HBC5 := Lib.hid bc5
  have HZ5 := Lib.hid hz5
  clear HALL bc0 hm3 hm5 bp0 bc5 hbc
  go_wp2_with fail
  clear hnf hz3
  refine (wpIn_wide (n := 4)).1 ?_
  refine wpIn_rangeFunc_ownG rfl (by omega) (gf := 25) (lb := #[.pointer (some ⟨bc + 1, 0, none⟩)]) rfl trivial (enters_of Try.func25 (by kernel_rfl) rfl)
    (all_nil_stops 3 (bc + 1) (fun k => k = bc + 1) (by omega) rfl w5 (fun k h => by omega) HBP.out)
    Keep.trans (fun W y o o' hl _ _ _ => Keep.put (w := w5) (fun k h => by omega) W y o o' hl) (Below.refl _ _) (fun _ => rfl)
    (fun pre W => Boxed W bc 3 (.int .i64 0) ∧ Below bc w2 W)
    (fun _ _ _ => False)
    (OwnFrom.and (Own.from (fun s A B row hs hg hr => box_kept hs hg hr) _) (ownFrom_below (by rw [HBC.out]; exact Nat.le_refl _) (by omega)))
    (fun _ _ _ _ _ hs _ _ => hs)
    ⟨HBC5.out, by rw [← HBC.out]; exact HM5.out.below0⟩
    (fun x => { tmps := #[.slice A ops.length c, .agg #[.int .i64 k, .int .i64 i, .int .i64 n, .int .u8 b], .int .i64 stop, undef, .pointer (some ⟨b4, 0, none⟩), .pointer (some ⟨b5, 0, none⟩), .bool false, .pointer none, .int .i64 0, .int .i64 1, .string ⟨#[]⟩, .bool false, .pointer (some ⟨bc, 0, none⟩), .func (.func 25) #[] #[.pointer (some ⟨bc + 1, 0, none⟩)], undef, undef, undef, undef, undef, undef, undef, .tuple #[.int .i64 0, .int .i64 1], .pointer none, .agg #[.int .i64 k, .int .i64 i, .int .i64 n, .int .u8 b], .string rs, .tuple #[.int .i64 0, .int .i64 1], .int .i64 0, .int .i64 1, .tuple #[.string ⟨#[]⟩, .bool false], .pointer none, .pointer (some ⟨b4, 1, none⟩), .int .i64 i, .tuple #[.string ⟨#[]⟩, .bool false], .string ⟨#[]⟩, .bool false, .pointer none, .func (.func 25) #[] #[.pointer (some ⟨bc + 1, 0, none⟩)], .func (.func 25) #[] #[.pointer (some ⟨bc + 1, 0, none⟩)], .bool false, .func (.func 25) #[] #[.pointer (some ⟨bc + 1, 0, none⟩)], .int .i64 (x.1.1 : Int), .string x.1.2, undef, undef, undef, undef, undef, undef, undef, undef, undef, undef, undef, undef, undef, undef, undef, undef, undef, undef, undef, undef, undef, undef, undef, undef, undef, undef, undef, undef, undef, undef, undef, undef, undef, undef, undef, undef, undef, undef, undef, undef, undef, undef, undef, undef, undef, undef, undef, undef, undef, undef, undef, undef, undef, undef, undef, undef, undef, undef, undef, undef, undef, undef, undef, undef, undef, undef, undef, undef, undef, undef, undef, undef, undef, undef, undef, undef, undef, undef, undef, undef, undef, undef, undef, undef, undef, undef, undef, undef], defers := [] }) ?assign ?body ?done ?stop
  case assign =>
    intro y x W K hK
    simp only [encs]
    gi_wp2
    exact hK
  case body => exact fun y pre x W _ h => absurd h (Nat.not_lt_zero _)
  case stop =>
    rintro D c pre W _ _ h _
    exact h.elim
  case done =>
    rintro D xs W hD rfl ⟨hbx, hB⟩ hK
    have c0 := hbx.cell
    have HB := Lib.hid hB
    have HK := Lib.hid hK
    have hmW : Mod [] w2 W := Mod.of_below (by rw [HBC.out]; exact hB)
    have bo := hmW.blk BO2.out (by simp)
    have d0 := (blk_cell bo 0).trans rfl
    have d1 := (blk_cell bo 1).trans rfl
    have d2 := (blk_cell bo 2).trans rfl
    have d3 := (blk_cell bo 3).trans rfl
    have D0 : ∀ w', Mod [] W w' → w'.cell? ⟨b4, 0, none⟩ = some (.int .i64 k) := fun w' h => h.cell d0 (by simp)
    have D1 : ∀ w', Mod [] W w' → w'.cell? ⟨b4, 1, none⟩ = some (.int .i64 i) := fun w' h => h.cell d1 (by simp)
    have D2 : ∀ w', Mod [] W w' → w'.cell? ⟨b4, 2, none⟩ = some (.int .i64 n) := fun w' h => h.cell d2 (by simp)
    have D3 : ∀ w', Mod [] W w' → w'.cell? ⟨b4, 3, none⟩ = some (.int .u8 b) := fun w' h => h.cell d3 (by simp)
    have D4 : ∀ w', Mod [] W w' → w'.cell? ⟨bc, 0, none⟩ = some (.int .i64 0) := fun w' h => h.cell c0 (by simp)
    have HMW := Lib.hid hmW
    clear hbx hB hK bo d0 d1 d2 d3 c0 hmW
    go_wp2_with fail
    go_region_held3 (fun w' => Mod [] W w') (first | exact (Mod.refl [] W).drew | exact Mod.refl [] W | exact Mod.trans0 (by assumption) (by assumption) | exact (by assumption))
      (first
        | (go_at_call 10; refine (HREC _).mono ?_; rintro e w6 ⟨rfl, hm6⟩)
        | (go_at_call 15; refine (put_nil _ _ _).mono ?_; rintro e w7 ⟨rfl, rfl⟩)
        | (go_at_call 16; refine (drop_nil _ _).mono ?_; rintro e w7 ⟨rfl, rfl⟩)
        | (go_at_call 17; refine (bytes_nil _).mono ?_; rintro e w7 ⟨rfl, rfl⟩)
        | (go_at_call 18; refine (len_nil _).mono ?_; rintro e w7 ⟨rfl, rfl⟩)
        | (go_at_call 7; refine (room_nil _).mono ?_; rintro e w7 ⟨rfl, rfl⟩))
    have hm06 : Mod [] w w6 := (HM2.out.trans0 HMW.out).trans0 (by assumption)
    have hm26 : Mod [] w2 w6 := HMW.out.trans0 (by assumption)
    have hK6 := (show Mod [] W w6 by assumption).blk HK.out (by simp)
    have hbs6 := hm26.blk BS2.out (by simp)
    have HK6 := Lib.hid hK6
    have HBS6 := Lib.hid hbs6
    have HM06 := Lib.hid hm06
    have HMA := HM w6 hm06
    clear D0 D1 D2 D3 D4 hm26 hm6 hK6 hbs6 hm06 HM
    go_wp2_with fail
    refine HMA.mono ?_
    rintro e w7 ⟨fp, ok, g, v, rfl, hm7, hst⟩
    obtain ⟨A2, c2, rfl, hcl, hrc⟩ := Kd.R_reads hst.row
    have HK7 := Lib.hid (hm7.blk HK6.out (by simp))
    have HBS7 := Lib.hid (hm7.blk HBS6.out (by simp))
    have HM07 := Lib.hid (HM06.out.trans0 hm7)
    have HST7 := Lib.hid hst
    have bx8 := Boxed.new w7 3 (.int .i64 0)
    have hm8 := (Mod.refl [] w7).alloc (.cells #[.int .i64 0] 3)
    have HALL := all_any (some ⟨g, 0, none⟩) (w7.alloc (.cells #[.int .i64 0] 3))
    have hz8 : (w7.alloc (.cells #[.int .i64 0] 3)).heap.size = w7.heap.size + 1 := World.size_alloc _ _
    clear hm7 hst hrc HMA
    go_wp2_with fail
    obtain ⟨w8, hw8⟩ : ∃ w8, w7.alloc (.cells #[.int .i64 0] 3) = w8 := ⟨_, rfl⟩
    rw [hw8] at HALL bx8 hm8 hz8 ⊢
    clear hw8
    refine HALL.mono ?_
    rintro e w9 ⟨rfl, rfl⟩
    have bp9 := Boxed.new w8 23 (.pointer (some ⟨g, 0, none⟩))
    rw [hz8] at bp9
    have bx9 := bx8.alloc (.cells #[.pointer (some ⟨g, 0, none⟩)] 23)
    have hm9 := hm8.alloc (.cells #[.pointer (some ⟨g, 0, none⟩)] 23)
    have hz9 : (w8.alloc (.cells #[.pointer (some ⟨g, 0, none⟩)] 23)).heap.size = w7.heap.size + 2 := by rw [World.size_alloc, hz8]
    generalize w8.alloc _ = w9 at *
    have hnf := eql_func 25 #[.pointer (some ⟨w7.heap.size + 1, 0, none⟩)] w9
    obtain ⟨bd, hbd⟩ : ∃ b, w7.heap.size = b := ⟨_, rfl⟩
    rw [hbd] at hnf hz8 bx9 bp9 hz9 ⊢
    have HM9 := Lib.hid hm9
    have HBD := Lib.hid hbd
    have HBP9 := Lib.hid bp9
    have HBX9 := Lib.hid bx9
    have HZ9 := Lib.hid hz9
    clear HALL bx8 hm8 hm9 bp9 bx9 hbd
    go_wp2_with fail
    clear hnf hz8
    have hl64 := HST7.out.inv.len
    have hfl := HST7.out.pg.lt
    rw [HBD.out] at hfl
    have HFL := Lib.hid hfl
    have hpg9 := HST7.out.pg.mod HM9.out
    have h5l : b5 < bd := by rw [← HBD.out]; exact blk_lt HBS7.out
    have hz9 := HZ9.out
    clear hfl
    refine (wpIn_wide (n := 4)).1 ?_
    refine wpIn_rangeFunc_ownG rfl (by omega) (gf := 25) (lb := #[.pointer (some ⟨bd + 1, 0, none⟩)]) rfl trivial (enters_of Try.func25 (by kernel_rfl) rfl)
      (all_stops 3 (bd + 1) g fp (fun k => fp k ∨ k = bd + 1) l hl64 (by omega) (fun k h => .inl h) (.inr rfl) w9 (fun k h => h.elim (fun h => by have := HFL.out k h; omega) (fun h => by omega)) HBP9.out hpg9)
      Keep.trans (fun W y o o' hl _ _ _ => Keep.put (w := w9) (fun k h => h.elim (fun h => by have := HFL.out k h; omega) (fun h => by omega)) W y o o' hl) (Below.refl _ _) (fun _ => rfl)
      (fun pre W => (Boxed W bd 3 (.int .i64 (pre.length : Int)) ∧ ¬ (1 ≤ stop ∧ stop ≤ (pre.length : Int))) ∧ Below bd w7 W)
      (fun c pre W => ((c = .exit 2 ∧ stop = (pre.length : Int) ∧ 1 ≤ stop) ∧ Boxed W bd 3 (.int .i64 (pre.length : Int))) ∧ Below bd w7 W)
      (OwnFrom.and (Own.from (fun s A B row hs hg hr => ⟨box_kept hs.1 hg hr, hs.2⟩) _) (ownFrom_below (by rw [HBD.out]; exact Nat.le_refl _) (by omega)))
      (fun c => OwnFrom.and (Own.from (fun s A B row hs hg hr => ⟨hs.1, box_kept hs.2 hg hr⟩) _) (ownFrom_below (by rw [HBD.out]; exact Nat.le_refl _) (by omega)))
      ⟨⟨HBX9.out, fun h => by have := h.2; simp at this; omega⟩, by rw [← HBD.out]; exact HM9.out.below0⟩
      (fun x => { tmps := #[.slice A ops.length c, .agg #[.int .i64 k, .int .i64 i, .int .i64 n, .int .u8 b], .int .i64 stop, undef, .pointer (some ⟨b4, 0, none⟩), .pointer (some ⟨b5, 0, none⟩), .bool false, .pointer none, .int .i64 0, .int .i64 1, .string ⟨#[]⟩, .bool false, .pointer (some ⟨bc, 0, none⟩), .func (.func 25) #[] #[.pointer (some ⟨bc + 1, 0, none⟩)], .pointer (some ⟨g, 0, none⟩), .slice A2 l.length c2, .bool true, .pointer (some ⟨bd, 0, none⟩), .int .i64 0, .func (.func 25) #[] #[.pointer (some ⟨bd + 1, 0, none⟩)], undef, .tuple #[.int .i64 0, .int .i64 1], .pointer none, .agg #[.int .i64 k, .int .i64 i, .int .i64 n, .int .u8 b], .string rs, .tuple #[.int .i64 0, .int .i64 1], .int .i64 0, .int .i64 1, .tuple #[.string ⟨#[]⟩, .bool false], .pointer none, .pointer (some ⟨b4, 1, none⟩), .int .i64 i, .tuple #[.string ⟨#[]⟩, .bool false], .string ⟨#[]⟩, .bool false, .pointer none, .func (.func 25) #[] #[.pointer (some ⟨bc + 1, 0, none⟩)], .func (.func 25) #[] #[.pointer (some ⟨bc + 1, 0, none⟩)], .bool false, .func (.func 25) #[] #[.pointer (some ⟨bc + 1, 0, none⟩)], undef, undef, undef, undef, .int .i64 1, .bool false, .bool false, .string ⟨#[]⟩, .bool false, .bool false, .bool false, .bool false, .bool false, .bool false, .pointer none, .pointer (some ⟨b4, 1, none⟩), .int .i64 i, .agg #[.int .i64 k, .int .i64 i, .int .i64 n, .int .u8 b], .string rs, .int .i64 1, .bool false, .bool false, .bool false, .pointer none, .pointer (some ⟨b4, 1, none⟩), .int .i64 i, .bool false, .bool false, .bool false, .pointer none, .string ⟨#[]⟩, .bool false, .bool false, .bool false, .int .i64 0, .pointer none, .int .i64 0, .int .i64 0, .bool false, .bool false, .bool false, .pointer none, .int .i64 (-1), .bool false, .bool false, .tuple #[.pointer (some ⟨g, 0, none⟩), .slice A2 l.length c2, .bool true], .slice A ops.length c, .tuple #[.pointer (some ⟨g, 0, none⟩), .slice A2 l.length c2, .bool true], .pointer (some ⟨g, 0, none⟩), .slice A2 l.length c2, .bool true, .pointer (some ⟨g, 0, none⟩), .func (.func 25) #[] #[.pointer (some ⟨bd + 1, 0, none⟩)], .func (.func 25) #[] #[.pointer (some ⟨bd + 1, 0, none⟩)], .bool false, .func (.func 25) #[] #[.pointer (some ⟨bd + 1, 0, none⟩)], .int .i64 (x.1.1 : Int), .string x.1.2, undef, undef, undef, undef, undef, undef, undef, undef, undef, undef, undef, undef, undef, undef, undef, undef, undef, undef, undef, undef, undef, undef, undef, undef, undef, undef, undef, undef, undef, undef, undef, undef], defers := [] }) ?assign2 ?body2 ?done2 ?stop2
    case assign2 =>
      intro y x W K hK
      simp only [encs]
      gi_wp2
      exact hK
    case body2 =>
      rintro y pre x W ⟨⟨hbx, hns⟩, hB⟩ hlen
      have b5x : Boxed W b5 3 (.int .i64 stop) := (hB.block b5 h5l).trans HBS7.out
      have c5 := b5x.cell
      have cx := hbx.cell
      have fx := hbx.frozen
      have hbx1 := hbx.set (.int .i64 ((pre.length : Int) + 1))
      have c5b := (b5x.other (B' := bd) (by omega) (.int .i64 ((pre.length : Int) + 1))).cell
      have cxb := hbx1.cell
      have HX1 := Lib.hid hbx1
      have HB := Lib.hid hB
      have hkx : ¬ (fp bd ∨ bd = bd + 1) := fun h => h.elim (fun h => Nat.lt_irrefl _ (HFL.out _ h)) (fun h => by omega)
      have hll : (((pre ++ [x]).length : Nat) : Int) = (pre.length : Int) + 1 := by rw [List.length_append]; rfl
      have HLL := Lib.hid hll
      clear hbx hB b5x hbx1 hll
      by_cases he : (pre.length : Int) + 1 = stop
      · subst he
        gi_wp2
        exact ⟨(KeepsOthers.setCell _ _ _).from _, ⟨⟨rfl, HLL.out.symm, by omega⟩, by rw [HLL.out]; exact HX1.out⟩, HB.out.setCell (p := ⟨bd, 0, none⟩) (by simp) _⟩
      · gi_wp2
        exact ⟨(KeepsOthers.setCell _ _ _).from _, Keep.set _ hkx _, ⟨by rw [HLL.out]; exact HX1.out, by rw [HLL.out]; omega⟩, HB.out.setCell (p := ⟨bd, 0, none⟩) (by simp) _⟩
    case done2 =>
      rintro D2 xs W2 hD2 rfl ⟨⟨hbx2, hns⟩, hB2⟩ hK2
      obtain ⟨C, hC⟩ : ∃ C : Int, ((sol l l.length).length : Int) = C := ⟨_, rfl⟩
      rw [hC] at hbx2
      have HC : C = ((sol l l.length).length : Int) ∧ ¬ (1 ≤ stop ∧ stop < ((sol l l.length).length : Int)) ∨ C = stop ∧ 1 ≤ stop ∧ stop < ((sol l l.length).length : Int) := .inl ⟨hC.symm, fun h => hns ⟨h.1, by omega⟩⟩
      clear hC hns
      have hcN : C = ((sol l l.length).length : Int) ∧ ¬ (1 ≤ stop ∧ stop < ((sol l l.length).length : Int)) ∨ C = stop ∧ 1 ≤ stop ∧ stop < ((sol l l.length).length : Int) := HC
      have HCN := Lib.hid hcN
      have hm7W : Mod [] w7 W2 := Mod.of_below (by rw [HBD.out]; exact hB2)
      have hst := HST7.out.mod hm7W
      have hrC := R_C hst.row
      have HRC := Lib.hid hrC
      have c5 := (blk_cell (hm7W.blk HBS7.out (by simp)) 0).trans rfl
      have cC := hbx2.cell
      have HK72 := Lib.hid (hm7W.blk HK7.out (by simp))
      have HK2 := Lib.hid hK2
      have HMW2 := Lib.hid (HM07.out.trans0 hm7W)
      clear hB2 hbx2 hK2 hst hrC hm7W hcN HC
      go_wp2_with fail
      go_loopw [18, 20] (fun cc i wr => ∃ k : Nat, i = .int .i64 (k : Int) ∧ k ≤ l.length ∧ cc = .int .i64 ((sol l k).length : Int) ∧ W2 = wr) (fun _ i _ => l.length - (intOf i).toNat)
      case atStart => exact ⟨0, rfl, Nat.zero_le _, rfl, rfl⟩
      case round =>
        obtain ⟨k, rfl, hk, rfl, rfl⟩ := hrel
        have hs1 := sol_len l k
        have hs2 := sol_len l l.length
        by_cases hlt : k < l.length
        · obtain ⟨ad, hA2, p0, p1⟩ := ref_at HRC.out k hlt
          subst hA2
          have hii : (k : Int) < (l.length : Int) := by omega
          have hi0 : (0 : Int) ≤ (k : Int) := by omega
          clear p1 c5 cC
          by_cases hf : l[k].f0 = true
          · rw [hf] at p0
            have HSN := Lib.hid (show (sol l (k + 1)).length = (sol l k).length + 1 by rw [sol_on hlt hf, List.length_append]; rfl)
            generalize (sol l k).length = m9 at *
            go_wp2
            go_roundw
            case rel => exact ⟨k + 1, by go_num, by omega, by rw [HSN.out]; go_num, trivial⟩
            case measure => simp [intOf]; omega
          · have hf' : l[k].f0 = false := by simpa using hf
            rw [hf'] at p0
            have HSN := Lib.hid (congrArg List.length (sol_off hlt hf'))
            go_wp2
            go_roundw
            case rel => exact ⟨k + 1, by go_num, by omega, by rw [HSN.out], trivial⟩
            case measure => simp [intOf]; omega
        · obtain rfl : k = l.length := by omega
          have hii : ¬ ((l.length : Nat) : Int) < (l.length : Int) := by omega
          generalize (sol l l.length).length = nn at *
          by_cases h1s : 1 ≤ stop
          · by_cases h2s : stop < (nn : Int)
            · obtain rfl : C = stop := by rcases HCN.out with h | h; exact absurd ⟨h1s, h2s⟩ h.2; exact h.1
              go_wp2_with fail
              refine (lives_any _).mono ?_
              rintro e w10 ⟨rfl, hm10⟩
              have hD10 := hm10.blk HK2.out (by simp)
              have hE10 := hm10.blk HK72.out (by simp)
              have HM10 := Lib.hid (HMW2.out.trans0 hm10)
              clear hm10
              go_wp2
              have hne : D ≠ D2 := by have := blk_lt HK7.out; rw [HBD.out] at this; omega
              have hE11 : (w10.putObj D2 (.deferred none)).heap[D]? = some (.deferred (some [])) := (World.putObj_heap_other hne).trans hE10
              have hwD : w.heap.size ≤ D := by have := HM2.out.size; rw [HBC.out] at this; have := HZ5.out; omega
              have hwD2 : w.heap.size ≤ D2 := by have := HM07.out.size; rw [HBD.out] at this; omega
              have hall : Below w.heap.size w w10 := HM10.out.below0
              refine ⟨by simp, .inl ⟨D2, _, rfl, run_takeDeferred hD10, by simp, .inl ⟨D, _, rfl, run_takeDeferred hE11, ?_⟩⟩⟩
              exact ⟨_, results_tmp rfl _ _ _, rfl, Mod.of_below ((hall.trans (belowK_b (w := w) (Nat.le_refl _) w10 D2 _ _ hwD2 hD10 rfl rfl)).trans (belowK_b (w := w) (Nat.le_refl _) _ D _ _ hwD hE11 rfl rfl))⟩
            · obtain rfl : C = (nn : Int) := by rcases HCN.out with h | h; exact h.1; exact absurd h.2.2 h2s
              go_wp2_with fail
              refine (lives_any _).mono ?_
              rintro e w10 ⟨rfl, hm10⟩
              have hD10 := hm10.blk HK2.out (by simp)
              have hE10 := hm10.blk HK72.out (by simp)
              have HM10 := Lib.hid (HMW2.out.trans0 hm10)
              clear hm10
              go_wp2
              have hne : D ≠ D2 := by have := blk_lt HK7.out; rw [HBD.out] at this; omega
              have hE11 : (w10.putObj D2 (.deferred none)).heap[D]? = some (.deferred (some [])) := (World.putObj_heap_other hne).trans hE10
              have hwD : w.heap.size ≤ D := by have := HM2.out.size; rw [HBC.out] at this; have := HZ5.out; omega
              have hwD2 : w.heap.size ≤ D2 := by have := HM07.out.size; rw [HBD.out] at this; omega
              have hall : Below w.heap.size w w10 := HM10.out.below0
              refine ⟨by simp, .inl ⟨D2, _, rfl, run_takeDeferred hD10, by simp, .inl ⟨D, _, rfl, run_takeDeferred hE11, ?_⟩⟩⟩
              exact ⟨_, results_tmp rfl _ _ _, rfl, Mod.of_below ((hall.trans (belowK_b (w := w) (Nat.le_refl _) w10 D2 _ _ hwD2 hD10 rfl rfl)).trans (belowK_b (w := w) (Nat.le_refl _) _ D _ _ hwD hE11 rfl rfl))⟩
          · obtain rfl : C = (nn : Int) := by rcases HCN.out with h | h; exact h.1; exact absurd h.2.1 h1s
            go_wp2_with fail
            refine (lives_any _).mono ?_
            rintro e w10 ⟨rfl, hm10⟩
            have hD10 := hm10.blk HK2.out (by simp)
            have hE10 := hm10.blk HK72.out (by simp)
            have HM10 := Lib.hid (HMW2.out.trans0 hm10)
            clear hm10
            go_wp2
            have hne : D ≠ D2 := by have := blk_lt HK7.out; rw [HBD.out] at this; omega
            have hE11 : (w10.putObj D2 (.deferred none)).heap[D]? = some (.deferred (some [])) := (World.putObj_heap_other hne).trans hE10
            have hwD : w.heap.size ≤ D := by have := HM2.out.size; rw [HBC.out] at this; have := HZ5.out; omega
            have hwD2 : w.heap.size ≤ D2 := by have := HM07.out.size; rw [HBD.out] at this; omega
            have hall : Below w.heap.size w w10 := HM10.out.below0
            refine ⟨by simp, .inl ⟨D2, _, rfl, run_takeDeferred hD10, by simp, .inl ⟨D, _, rfl, run_takeDeferred hE11, ?_⟩⟩⟩
            exact ⟨_, results_tmp rfl _ _ _, rfl, Mod.of_below ((hall.trans (belowK_b (w := w) (Nat.le_refl _) w10 D2 _ _ hwD2 hD10 rfl rfl)).trans (belowK_b (w := w) (Nat.le_refl _) _ D _ _ hwD hE11 rfl rfl))⟩
    case stop2 =>
      rintro D2 cc pre W2 hD2 ⟨kk, hkk, rfl⟩ ⟨⟨⟨rfl, hst2, h1st⟩, hbx2⟩, hB2⟩ hK2
      have hle := sol_le l hkk
      obtain ⟨C, hC⟩ : ∃ C : Int, ((sol l kk).length : Int) = C := ⟨_, rfl⟩
      rw [hC] at hbx2
      have HC : C = ((sol l l.length).length : Int) ∧ ¬ (1 ≤ stop ∧ stop < ((sol l l.length).length : Int)) ∨ C = stop ∧ 1 ≤ stop ∧ stop < ((sol l l.length).length : Int) := by omega
      clear hC hst2 h1st hle
      refine wpIn_wide.2 ?_
      have hcN : C = ((sol l l.length).length : Int) ∧ ¬ (1 ≤ stop ∧ stop < ((sol l l.length).length : Int)) ∨ C = stop ∧ 1 ≤ stop ∧ stop < ((sol l l.length).length : Int) := HC
      have HCN := Lib.hid hcN
      have hm7W : Mod [] w7 W2 := Mod.of_below (by rw [HBD.out]; exact hB2)
      have hst := HST7.out.mod hm7W
      have hrC := R_C hst.row
      have HRC := Lib.hid hrC
      have c5 := (blk_cell (hm7W.blk HBS7.out (by simp)) 0).trans rfl
      have cC := hbx2.cell
      have HK72 := Lib.hid (hm7W.blk HK7.out (by simp))
      have HK2 := Lib.hid hK2
      have HMW2 := Lib.hid (HM07.out.trans0 hm7W)
      clear hB2 hbx2 hK2 hst hrC hm7W hcN HC
      go_wp2_with fail
      go_loopw [18, 20] (fun cc i wr => ∃ k : Nat, i = .int .i64 (k : Int) ∧ k ≤ l.length ∧ cc = .int .i64 ((sol l k).length : Int) ∧ W2 = wr) (fun _ i _ => l.length - (intOf i).toNat)
      case atStart => exact ⟨0, rfl, Nat.zero_le _, rfl, rfl⟩
      case round =>
        obtain ⟨k, rfl, hk, rfl, rfl⟩ := hrel
        have hs1 := sol_len l k
        have hs2 := sol_len l l.length
        by_cases hlt : k < l.length
        · obtain ⟨ad, hA2, p0, p1⟩ := ref_at HRC.out k hlt
          subst hA2
          have hii : (k : Int) < (l.length : Int) := by omega
          have hi0 : (0 : Int) ≤ (k : Int) := by omega
          clear p1 c5 cC
          by_cases hf : l[k].f0 = true
          · rw [hf] at p0
            have HSN := Lib.hid (show (sol l (k + 1)).length = (sol l k).length + 1 by rw [sol_on hlt hf, List.length_append]; rfl)
            generalize (sol l k).length = m9 at *
            go_wp2
            go_roundw
            case rel => exact ⟨k + 1, by go_num, by omega, by rw [HSN.out]; go_num, trivial⟩
            case measure => simp [intOf]; omega
          · have hf' : l[k].f0 = false := by simpa using hf
            rw [hf'] at p0
            have HSN := Lib.hid (congrArg List.length (sol_off hlt hf'))
            go_wp2
            go_roundw
            case rel => exact ⟨k + 1, by go_num, by omega, by rw [HSN.out], trivial⟩
            case measure => simp [intOf]; omega
        · obtain rfl : k = l.length := by omega
          have hii : ¬ ((l.length : Nat) : Int) < (l.length : Int) := by omega
          generalize (sol l l.length).length = nn at *
          by_cases h1s : 1 ≤ stop
          · by_cases h2s : stop < (nn : Int)
            · obtain rfl : C = stop := by rcases HCN.out with h | h; exact absurd ⟨h1s, h2s⟩ h.2; exact h.1
              go_wp2_with fail
              refine (lives_any _).mono ?_
              rintro e w10 ⟨rfl, hm10⟩
              have hD10 := hm10.blk HK2.out (by simp)
              have hE10 := hm10.blk HK72.out (by simp)
              have HM10 := Lib.hid (HMW2.out.trans0 hm10)
              clear hm10
              go_wp2
              have hne : D ≠ D2 := by have := blk_lt HK7.out; rw [HBD.out] at this; omega
              have hE11 : (w10.putObj D2 (.deferred none)).heap[D]? = some (.deferred (some [])) := (World.putObj_heap_other hne).trans hE10
              have hwD : w.heap.size ≤ D := by have := HM2.out.size; rw [HBC.out] at this; have := HZ5.out; omega
              have hwD2 : w.heap.size ≤ D2 := by have := HM07.out.size; rw [HBD.out] at this; omega
              have hall : Below w.heap.size w w10 := HM10.out.below0
              refine ⟨by simp, .inl ⟨D2, _, rfl, run_takeDeferred hD10, by simp, .inl ⟨D, _, rfl, run_takeDeferred hE11, ?_⟩⟩⟩
              exact ⟨_, results_tmp rfl _ _ _, rfl, Mod.of_below ((hall.trans (belowK_b (w := w) (Nat.le_refl _) w10 D2 _ _ hwD2 hD10 rfl rfl)).trans (belowK_b (w := w) (Nat.le_refl _) _ D _ _ hwD hE11 rfl rfl))⟩
            · obtain rfl : C = (nn : Int) := by rcases HCN.out with h | h; exact h.1; exact absurd h.2.2 h2s
              go_wp2_with fail
              refine (lives_any _).mono ?_
              rintro e w10 ⟨rfl, hm10⟩
              have hD10 := hm10.blk HK2.out (by simp)
              have hE10 := hm10.blk HK72.out (by simp)
              have HM10 := Lib.hid (HMW2.out.trans0 hm10)
              clear hm10
              go_wp2
              have hne : D ≠ D2 := by have := blk_lt HK7.out; rw [HBD.out] at this; omega
              have hE11 : (w10.putObj D2 (.deferred none)).heap[D]? = some (.deferred (some [])) := (World.putObj_heap_other hne).trans hE10
              have hwD : w.heap.size ≤ D := by have := HM2.out.size; rw [HBC.out] at this; have := HZ5.out; omega
              have hwD2 : w.heap.size ≤ D2 := by have := HM07.out.size; rw [HBD.out] at this; omega
              have hall : Below w.heap.size w w10 := HM10.out.below0
              refine ⟨by simp, .inl ⟨D2, _, rfl, run_takeDeferred hD10, by simp, .inl ⟨D, _, rfl, run_takeDeferred hE11, ?_⟩⟩⟩
              exact ⟨_, results_tmp rfl _ _ _, rfl, Mod.of_below ((hall.trans (belowK_b (w := w) (Nat.le_refl _) w10 D2 _ _ hwD2 hD10 rfl rfl)).trans (belowK_b (w := w) (Nat.le_refl _) _ D _ _ hwD hE11 rfl rfl))⟩
          · obtain rfl : C = (nn : Int) := by rcases HCN.out with h | h; exact h.1; exact absurd h.2.1 h1s
            go_wp2_with fail
            refine (lives_any _).mono ?_
            rintro e w10 ⟨rfl, hm10⟩
            have hD10 := hm10.blk HK2.out (by simp)
            have hE10 := hm10.blk HK72.out (by simp)
            have HM10 := Lib.hid (HMW2.out.trans0 hm10)
            clear hm10
            go_wp2
            have hne : D ≠ D2 := by have := blk_lt HK7.out; rw [HBD.out] at this; omega
            have hE11 : (w10.putObj D2 (.deferred none)).heap[D]? = some (.deferred (some [])) := (World.putObj_heap_other hne).trans hE10
            have hwD : w.heap.size ≤ D := by have := HM2.out.size; rw [HBC.out] at this; have := HZ5.out; omega
            have hwD2 : w.heap.size ≤ D2 := by have := HM07.out.size; rw [HBD.out] at this; omega
            have hall : Below w.heap.size w w10 := HM10.out.below0
            refine ⟨by simp, .inl ⟨D2, _, rfl, run_takeDeferred hD10, by simp, .inl ⟨D, _, rfl, run_takeDeferred hE11, ?_⟩⟩⟩
            exact ⟨_, results_tmp rfl _ _ _, rfl, Mod.of_below ((hall.trans (belowK_b (w := w) (Nat.le_refl _) w10 D2 _ _ hwD2 hD10 rfl rfl)).trans (belowK_b (w := w) (Nat.le_refl _) _ D _ _ hwD hE11 rfl rfl))⟩
theorem nils_walk {H H' : Type} {enc : TypeId × Value → H} {enc' : TypeId × Value → H'} (v : Value) (d : DataW H) (p : List MemPlace) (u : Value) (d' : DataW H') (p' : List MemPlace) (stop : Int) (w : World) (ho : Value.okWide Try.prog w .any 0 22 v)
    (h : DataW.Trod enc Try.prog w 0 (fun _ => true) true 22 v d p) (ho' : Value.okWide Try.prog w .any 0 34 u) (h' : DataW.Trod enc' Try.prog w 0 (fun _ => true) true 34 u d' p') (_ : (Lit.int .i64 stop).wf = true) :
    Calls Try.prog 5 #[v, u, .int .i64 stop] w fun e w' => e = .returned (.bool true) ∧ Mod [] w w' := by
  obtain ⟨A, c, ops, rfl, hc, hr, hb⟩ := ops_open ho h
  obtain ⟨a, rfl, ha⟩ := op34_open ho' h'
  exact nilsW_any A c ops a stop w hr hc hb ha
end Go.Proofs.Ytooejjjogjfniaa
