/- Sums and differences are the document's. -/
import Derived.Test.YtijhlofmangpgaaFixInt
set_option linter.unusedVariables false
set_option linter.unusedSimpArgs false
namespace Go.Proofs.Ytijhlofmangpgaa
open Go.RowKit Go.Proofs.YtijhlofmangpgaaW.PrintWords Go.Proofs.Ytijhlofmangpgaa.Dig
theorem sum_sgn (b1 : Bool) (x : Nat) (b2 : Bool) (y : Nat) : sgn (sumN b1 x b2 y).1 (sumN b1 x b2 y).2 = sgn b1 x + sgn b2 y := by
  by_cases h : y ≤ x
  · cases b1 <;> cases b2 <;> simp [sumN, sgn, h] <;> omega
  · cases b1 <;> cases b2 <;> simp [sumN, sgn, h] <;> omega
theorem of_sgn (a : Int) : sgn (decide (a < 0)) a.natAbs = a := by
  unfold sgn
  by_cases h : a < 0
  · simp [h]; omega
  · simp [h]; omega
theorem not_sgn (b : Bool) (x : Nat) : sgn (!b) x = -sgn b x := by cases b <;> simp [sgn]
theorem sum_len (b1 : Bool) (x : Nat) (b2 : Bool) (y : Nat) (hx : x ≤ 9223372036854775808) (hy : y ≤ 9223372036854775808) : (D (sumN b1 x b2 y).2).length ≤ 30 := by
  refine D_len_lt ?_
  have : (sumN b1 x b2 y).2 ≤ x + y := by
    unfold sumN
    split
    · simp
    · split <;> simp <;> omega
  omega
set_option maxRecDepth 100000 in
set_option maxHeartbeats 2000000 in
theorem sums_any (a b : Int) (w : World) (ha : -9223372036854775808 ≤ a ∧ a ≤ 9223372036854775807) (hb : -9223372036854775808 ≤ b ∧ b ≤ 9223372036854775807) :
    Calls Try.prog 5 #[.int .i64 a, .int .i64 b] w fun e w' => e = .returned (.bool true) ∧ Mod [] w w' := by
  have CA := fun w' => of_any a w' ha.1 ha.2
  have CB := fun w' => of_any b w' hb.1 hb.2
  have OA0 := of_sgn a
  have OB0 := of_sgn b
  generalize decide (a < 0) = sa at *
  generalize decide (b < 0) = sb at *
  have OA := Lib.hid OA0
  have OB := Lib.hid OB0
  clear OA0 OB0
  go_enter Try.func5, Try.ntmps5
  go_wp2_with fail
  refine (CA w).mono ?_
  rintro e w1 ⟨A1, n1, c1, rfl, hn1, hm1, hr1⟩
  go_wp2_with fail
  refine (CB w1).mono ?_
  rintro e w2 ⟨A2, n2, c2, rfl, hn2, hm2, hr2⟩
  have hr12 := hm2.reads hr1 (by simp)
  have hl1 := D_len20 (x := a.natAbs) (by omega)
  have hl2 := D_len20 (x := b.natAbs) (by omega)
  rw [hr1.1] at hl1
  rw [hr2.1] at hl2
  have HM := Lib.hid (hm1.trans0 hm2)
  clear hr1 hm1 hm2
  obtain ⟨⟨s, ok1⟩, hs⟩ : ∃ p, fitN (a + b) = p := ⟨_, rfl⟩
  obtain ⟨⟨dd, ok2⟩, hd⟩ : ∃ p, fitN (a - b) = p := ⟨_, rfl⟩
  obtain ⟨⟨nn, ok3⟩, hnn⟩ : ∃ p, fitN (-a) = p := ⟨_, rfl⟩
  obtain ⟨⟨mm, ok4⟩, hmm⟩ : ∃ p, fitN (a.natAbs : Int) = p := ⟨_, rfl⟩
  have C1 := fun w' => add_any a b w' ha hb
  have C2 := fun w' => sub_any a b w' ha hb
  have C3 := fun w' => neg_any a w' ha
  have C4 := fun w' => abs_any a w' ha
  rw [hs] at C1
  rw [hd] at C2
  rw [hnn] at C3
  rw [hmm] at C4
  have HS := Lib.hid hs
  have HD := Lib.hid hd
  have HN := Lib.hid hnn
  have HB := Lib.hid hmm
  clear hs hd hnn hmm
  go_wp2_with fail
  refine (C1 _).mono ?_
  rintro e w3 ⟨rfl, rfl⟩
  go_wp2_with fail
  refine (C2 _).mono ?_
  rintro e w3 ⟨rfl, rfl⟩
  go_wp2_with fail
  refine (C3 _).mono ?_
  rintro e w3 ⟨rfl, rfl⟩
  go_wp2_with fail
  refine (C4 _).mono ?_
  rintro e w3 ⟨rfl, rfl⟩
  go_upto_region 6 with fail
  obtain ⟨hm0, k1, k2⟩ := two w2 sa sb A1 A2 n1 c1 n2 c2
  have hrA := hm0.reads hr12 (by simp)
  have hrB := hm0.reads hr2 (by simp)
  have HM2 := Lib.hid (HM.out.trans0 hm0)
  clear hr12 hr2 hm0 C1 C2 C3 C4
  generalize (w2.alloc _).alloc _ = W at *
  generalize w2.heap.size = g at *
  have e1 := (blk_cell k1 0).trans (show _ = some (Value.bool sa) from rfl)
  have e2 := (blk_cell k1 1).trans (show _ = some (Value.slice A1 n1 c1) from rfl)
  have e3 := (blk_cell k2 0).trans (show _ = some (Value.bool sb) from rfl)
  have e4 := (blk_cell k2 1).trans (show _ = some (Value.slice A2 n2 c2) from rfl)
  have L1 : ∀ w', Mod [] W w' → w'.cell? ⟨g, 0, none⟩ = some (.bool sa) := fun w' h => h.cell e1 (by simp)
  have L2 : ∀ w', Mod [] W w' → w'.cell? ⟨g, 1, none⟩ = some (.slice A1 n1 c1) := fun w' h => h.cell e2 (by simp)
  have L3 : ∀ w', Mod [] W w' → w'.cell? ⟨g + 1, 0, none⟩ = some (.bool sb) := fun w' h => h.cell e3 (by simp)
  have L4 : ∀ w', Mod [] W w' → w'.cell? ⟨g + 1, 1, none⟩ = some (.slice A2 n2 c2) := fun w' h => h.cell e4 (by simp)
  have hxa : a.natAbs ≤ 9223372036854775808 := by omega
  have hxb : b.natAbs ≤ 9223372036854775808 := by omega
  have K1 := Lib.hid (sum_len sa a.natAbs sb b.natAbs hxa hxb)
  have K2 := Lib.hid (sum_len sa a.natAbs (!sb) b.natAbs hxa hxb)
  go_region_held3 (fun w' => Mod [] W w') (first | exact (Mod.refl [] W).drew | exact Mod.trans0 (by assumption) (by assumption) | exact (by assumption))
    (first
      | (go_at_call_of 23 (Value.int .i64 s); refine (is_any s ok1 _ A4 n4 c4 (sumN sa a.natAbs sb b.natAbs).2 _ hr4 ?_ hn4 ?_).mono ?_; (rw [← hr4.1]; have := K1.out; omega); (rw [sum_sgn, OA.out, OB.out]; exact HS.out); rintro e w7 ⟨rfl, hm7⟩)
      | (go_at_call_of 23 (Value.int .i64 dd); refine (is_any dd ok2 _ A9 n9 c9 (sumN sa a.natAbs (!sb) b.natAbs).2 _ hr9 ?_ hn9 ?_).mono ?_; (rw [← hr9.1]; have := K2.out; omega); (rw [sum_sgn, not_sgn, OA.out, OB.out, ← Int.sub_eq_add_neg]; exact HD.out); rintro e w7 ⟨rfl, hm7⟩)
      | (go_at_call_of 23 (Value.int .i64 nn); refine (is_any nn ok3 _ A6 n6 c6 a.natAbs _ hr6 ?_ hn6 ?_).mono ?_; (rw [← hr6.1]; have := D_len20 hxa; omega); (rw [not_sgn, OA.out]; exact HN.out); rintro e w7 ⟨rfl, hm7⟩)
      | (go_at_call_of 23 (Value.int .i64 mm); refine (is_any mm ok4 false A1 n1 c1 a.natAbs _ (Mod.reads (S := []) ?_ hrA (by simp)) ?_ hn1 HB.out).mono ?_; assumption; omega; rintro e w7 ⟨rfl, hm7⟩)
      | (go_at_call_of 24 (Value.agg #[Value.bool sb, Value.slice A2 n2 c2]); refine (turned_any sb A2 n2 c2 b.natAbs _ (Mod.reads (S := []) (by assumption) hrB (by simp)) hn2).mono ?_; rintro e w5 ⟨A5, n5, c5, rfl, hn5, hm5, hr5⟩; have hl5 : n5 ≤ 5000 := by (have e1 := hr5.1; have e2 := D_len20 hxb; omega))
      | (go_at_call_of 24 (Value.agg #[Value.bool sa, Value.slice A1 n1 c1]); refine (turned_any sa A1 n1 c1 a.natAbs _ (Mod.reads (S := []) (by assumption) hrA (by simp)) hn1).mono ?_; rintro e w6 ⟨A6, n6, c6, rfl, hn6, hm6, hr6⟩)
      | (go_at_call 16; refine (sum_any _ _ A1 A5 n1 c1 n5 c5 a.natAbs b.natAbs _ (Mod.reads (S := []) (by assumption) hrA (by simp)) hr5 (by omega) (by omega)).mono ?_; rintro e w4 ⟨A9, n9, c9, rfl, hn9, hm9, hr9⟩)
      | (go_at_call 16; refine (sum_any _ _ A1 A2 n1 c1 n2 c2 a.natAbs b.natAbs _ (Mod.reads (S := []) (by assumption) hrA (by simp)) (Mod.reads (S := []) (by assumption) hrB (by simp)) (by omega) (by omega)).mono ?_; rintro e w4 ⟨A4, n4, c4, rfl, hn4, hm4, hr4⟩)
      | (go_at_call 13; refine (lives_any _).mono ?_; rintro e w8 ⟨rfl, hm8⟩))
  go_wp2
  go_ret
  exact ⟨rfl, HM2.out.trans0 (by assumption)⟩
theorem sums_walk (a b : Int) (w : World) (ha : (Lit.int .i64 a).wf = true) (hb : (Lit.int .i64 b).wf = true) :
    Calls Try.prog 5 #[.int .i64 a, .int .i64 b] w fun e w' => e = .returned (.bool true) ∧ Mod [] w w' := sums_any a b w (bounds_i64 ha) (bounds_i64 hb)
end Go.Proofs.Ytijhlofmangpgaa
