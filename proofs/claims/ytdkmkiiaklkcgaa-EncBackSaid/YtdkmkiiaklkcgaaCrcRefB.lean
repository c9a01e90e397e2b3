/- The document's checksum, continued: More, Seal. -/
import Derived.Test.YtdkmkiiaklkcgaaCrcRef
import Derived.Test.YtdkmkiiaklkcgaaWLast
set_option linter.unusedVariables false
set_option linter.unusedSimpArgs false
namespace Go.Proofs.Ytdkmkiiaklkcgaa
open Go.RowKit Go.Proofs.YtdkmkiiaklkcgaaW.PrintWords Go.Proofs.YtdkmkiiaklkcgaaW.PrintLast
theorem exec_load_row {P : Program} {oi : Oper} {a : Act} {w : World} (ty : TypeId) (x : Operand) (ho : oi.op = .load ty x) (g : Nat) (hx : a.eval x = .pointer (some ⟨g, 0, none⟩)) (t : TypeId) (cs : Array Value) (fr : Nat × Nat) (d : TypeDesc) (hg : w.heap[g]? = some (.cells cs t fr))
    (hu : P.underlying ty = some d) (hd : (match d with | .struct _ | .array _ _ => true | _ => false) = true) (hi : (P.info? ty).map (·.size) = some cs.size) :
    (execOp a.eval oi).run P w = .ok (.value (.agg cs)) w := by
  unfold execOp
  simp only [ho, hx, Instr.loadAt, Instr.sureAddr, Sem.run_bind, Sem.run_pure, Result.andThen_ok, run_loadVar_row w g t ty cs fr d hg hu hd hi]
theorem refNumber_any (R : Nat) (w : World) (hR : R < 4294967296) :
    Calls Try.prog 37 #[.agg (bl (bits32 fun i => R.testBit i))] w fun e w' => e = .returned (.int .u32 ((4294967295 ^^^ R : Nat) : Int)) ∧ Mod [] w w' := by
  have hm0 := (Mod.refl [] w).alloc (.cells (bl (bits32 fun i => R.testBit i)) 60)
  have H0 := Arr.new w (fun i => R.testBit i)
  have hC : (4294967295 ^^^ R) < 4294967296 := Nat.xor_lt_two_pow (n := 32) (by omega) hR
  have HB := Lib.hid (show ∀ i, i < 32 → (4294967295 ^^^ R).testBit i = !R.testBit i from fun i hi => by
    rw [Nat.testBit_xor, show (4294967295 : Nat) = 2 ^ 32 - 1 from rfl, Nat.testBit_two_pow_sub_one]; simp [hi])
  generalize 4294967295 ^^^ R = C at hC HB
  generalize hbl : bl (bits32 fun i => R.testBit i) = rb at *
  go_enter Try.func37, Try.ntmps37
  go_wp2
  go_loopw [3, 4] (fun n i wr => ∃ k : Nat, k ≤ 32 ∧ i = .int .i64 ((k : Int) - 1) ∧ n = .int .u32 ((C / 2 ^ k : Nat) : Int) ∧ Mod [] w wr ∧ Arr wr w.heap.size (fun i => R.testBit i)) (fun _ i _ => (intOf i + 1).toNat)
  case atStart => exact ⟨32, by omega, rfl, by rw [Nat.div_eq_of_lt (by omega)]; rfl, hm0, H0⟩
  case round =>
    obtain ⟨k, hk, rfl, rfl, hm, hA⟩ := hrel
    clear hm0 H0
    by_cases hlt : 0 < k
    · obtain ⟨j, rfl⟩ : ∃ j, k = j + 1 := ⟨k - 1, by omega⟩
      have hc := hA.cell j (by omega)
      have h1 : C / 2 ^ (j + 1) ≤ C / 2 := by
        rw [Nat.pow_succ, Nat.mul_comm, ← Nat.div_div_eq_div_mul]; exact Nat.div_le_self _ _
      have h2 : C / 2 ^ j = 2 * (C / 2 ^ (j + 1)) + (!R.testBit j).toNat := by
        have := HB.out j (by omega)
        rw [← this, Nat.toNat_testBit, Nat.pow_succ, ← Nat.div_div_eq_div_mul]; omega
      have ej : (((j + 1 : Nat) : Int) - 1) = (j : Int) := by omega
      rw [ej]
      obtain ⟨b, hb⟩ : ∃ b, R.testBit j = b := ⟨_, rfl⟩
      rw [hb] at hc h2
      generalize C / 2 ^ (j + 1) = y at h1 h2 ⊢
      have H2 := Lib.hid h2
      clear h2 hb ej
      cases b with
      | true =>
        go_wp2
        refine ⟨⟨j, by omega, by go_num, ?_, hm, hA⟩, by simp [intOf]⟩
        rw [H2.out]; go_num
      | false =>
        go_wp2
        refine ⟨⟨j, by omega, by go_num, ?_, hm, hA⟩, by simp [intOf]⟩
        rw [H2.out]; go_num
    · have : k = 0 := by omega
      subst this
      go_wp2
      go_ret
      exact ⟨by simp, hm⟩
theorem feed_byte (T : Nat) (bs : List Int) (k y : Nat) (hy : rd bs (k : Int) = (y : Int)) : feed T (B bs) (8 * (k + 1)) = feed (feed T (B bs) (8 * k)) (fun i => y.testBit i) 8 := by
  rw [show 8 * (k + 1) = 8 * k + 8 by omega, feed_add]
  refine feed_congr 8 fun i hi => ?_
  unfold B
  rw [show (8 * k + i) / 8 = k by omega, show (8 * k + i) % 8 = i by omega]
  have : bs.getD k 0 = (y : Int) := hy
  rw [this]; rfl
theorem refMore_any (s : Nat) (A : Option Addr) (n c : Nat) (bs : List Int) (w : World) (hs : s < 4294967296)
    (hr : ReadsInt w .u8 A n bs) (hbs : Bytes bs) :
    Calls Try.prog 13 #[.int .u32 (s : Int), .slice A n c] w fun e w' => e = .returned (.int .u32 (crcMore s bs)) ∧ Mod [] w w' := by
  have HL := Lib.hid hr.1
  have hmax := hr.2.1
  have hs0 : (4294967295 ^^^ s) < 4294967296 := Nat.xor_lt_two_pow (n := 32) (by omega) hs
  go_enter Try.func13, Try.ntmps13
  go_wp2_with fail
  refine (refOf_any s w hs).mono ?_
  rintro e w1 ⟨rfl, hm1⟩
  have e0 : (bits32 fun i => !s.testBit i) = bits32 fun i => (4294967295 ^^^ s).testBit i := List.map_congr_left fun i hi => by
    rw [List.mem_range] at hi
    rw [Nat.testBit_xor, show (4294967295 : Nat) = 2 ^ 32 - 1 from rfl, Nat.testBit_two_pow_sub_one]; simp [hi]
  rw [e0]
  obtain ⟨T0, hT0⟩ : ∃ T, 4294967295 ^^^ s = T := ⟨_, rfl⟩
  rw [hT0] at hs0 ⊢
  have HT0 := Lib.hid hT0
  clear hT0 e0
  have hN := Arr.new w1 (fun _ => false)
  have hm2 := hm1.alloc (.cells (bl (bits32 fun _ => false)) 60)
  have hg := hm1.size
  go_wp2_with (refine wpList_store_row rfl 60 (.tmp 5) (.tmp 8) rfl w1.heap.size _ rfl rfl 60 _ hN (info60 _) (bl_same _ _) (bl_one _) ?_)
  have hA0 : Arr ((w1.alloc (.cells (bl (bits32 fun _ => false)) 60)).setRow w1.heap.size (bl (bits32 fun i => T0.testBit i))) w1.heap.size (fun i => T0.testBit i) := setRow_heap _ _ _ _ _ _ hN
  have hm3 := hm2.setRow (g := w1.heap.size) (.inr hg) (bl (bits32 fun i => T0.testBit i))
  obtain ⟨g, hgg⟩ : ∃ g, w1.heap.size = g := ⟨_, rfl⟩
  have HM := Lib.hid hm3
  clear hm3 hm2 hN
  go_loopw [6] (fun i wr => ∃ k : Nat, k ≤ n ∧ i = .int .i64 k ∧ Mod [] w wr ∧ Arr wr w1.heap.size (fun i => (feed T0 (B bs) (8 * k)).testBit i)) (fun i _ => n - (intOf i).toNat)
  case atStart => exact ⟨0, by omega, rfl, HM.out, hA0⟩
  case round =>
    clear HM hA0
    obtain ⟨k, hk, rfl, hm, hA⟩ := hrel
    rw [hgg] at hA hg ⊢
    have hT := feed_lt hs0 (B bs) (8 * k)
    by_cases hlt : k < n
    · obtain ⟨a, rfl, hcell0⟩ := hr.at_ k (by omega) (by omega)
      rw [Int.toNat_natCast] at hcell0
      have hbd := hbs.at_ k
      obtain ⟨y, hy'⟩ : ∃ y : Nat, rd bs (k : Int) = y := ⟨(rd bs (k : Int)).toNat, by unfold rd; rw [Int.toNat_natCast]; omega⟩
      have hy : y < 256 := by unfold rd at hy'; rw [Int.toNat_natCast] at hy'; omega
      have HF := Lib.hid (feed_byte T0 bs k y hy')
      rw [hy'] at hcell0
      generalize feed T0 (B bs) (8 * k) = T at hA hT HF
      clear hy' hbd
      have hcell0' := hm.cell hcell0 (by simp)
      clear hcell0
      have hcell0 := hcell0'
      clear hcell0'
      have HG := Lib.hid hgg
      clear hgg
      go_wp2
      refine start_ (n := 7) (S := fun w' => Mod [] wr w' ∧ Arr w' g (fun i => T.testBit i)) (ds := [6]) #[false, false, false, false, false, false, false] (by kernel_rfl) rfl rfl ⟨((Mod.refl [] wr).drew), hA⟩ (fun hHeld => ?_)
      refine pure_ (i := 1) (N := some 16) (v := ?_) (a' := ?_) #[false, true, false, false, false, false, false] rfl rfl (by kernel_rfl) (fun _ _ _ h => h) (Or.inl ⟨by rfl, ?_⟩) ?_ ?_
      rotate_left
      · intro w'
        go_simp
        with_reducible rfl
      rotate_left
      · simp only [Act.put, List.setIfInBounds_toArray, List.set_cons_zero, List.set_cons_succ, i64_w, i32_w]
        rfl
      refine pure_ (i := 2) (N := some 17) (v := ?_) (a' := ?_) #[false, true, true, false, false, false, false] rfl rfl (by kernel_rfl) (fun _ _ _ h => h) (Or.inl ⟨by rfl, ?_⟩) ?_ ?_
      rotate_left
      · intro w'
        go_simp
        with_reducible rfl
      rotate_left
      · simp only [Act.put, List.setIfInBounds_toArray, List.set_cons_zero, List.set_cons_succ, i64_w, i32_w]
        rfl
      refine pure_ (i := 3) (N := some 18) (v := ?_) (a' := ?_) #[false, true, true, true, false, false, false] rfl rfl (by kernel_rfl) (fun _ _ _ h => h) (Or.inl ⟨by rfl, ?_⟩) ?_ ?_
      rotate_left
      · intro w'
        go_simp
        with_reducible rfl
      rotate_left
      · simp only [Act.put, List.setIfInBounds_toArray, List.set_cons_zero, List.set_cons_succ, i64_w, i32_w]
        rfl
      refine take_ (i := 0) (N := some 15) (v := ?_) (a' := ?_) #[true, true, true, true, false, false, false] rfl rfl (by kernel_rfl) (fun _ _ _ h => h) (Or.inl ⟨by rfl, ?_⟩) hHeld ?_ ?_
      rotate_left
      · rintro w' ⟨s0, s1⟩
        (refine exec_load_row 60 (.tmp 5) ?_ g ?_ 60 _ (0, 0) _ s1 Try.underlying60 rfl (info60 _)) <;> rfl
      rotate_left
      · simp only [Act.put, List.setIfInBounds_toArray, List.set_cons_zero, List.set_cons_succ, i64_w, i32_w]
        rfl
      refine take_ (i := 4) (N := some 19) (v := ?_) (a' := ?_) #[true, true, true, true, true, false, false] rfl rfl (by kernel_rfl) (fun _ _ _ h => h) (Or.inl ⟨by rfl, ?_⟩) hHeld ?_ ?_
      rotate_left
      · rintro w' ⟨s0, s1⟩
        have hcell := s0.cell hcell0 (by simp)
        go_simp
        with_reducible rfl
      rotate_left
      · simp only [Act.put, List.setIfInBounds_toArray, List.set_cons_zero, List.set_cons_succ, i64_w, i32_w]
        rfl
      refine one_ (i := 5) (N := some 20) #[true, true, true, true, true, true, false] rfl rfl (by kernel_rfl) (by decide) (fun K hK => ?_)
      refine goes_ Try.func36 (by kernel_rfl) rfl #[.agg (bl (bits32 fun i => T.testBit i)), .int .u8 (y : Int)] (by rfl) rfl rfl (by simp only [List.map_toArray, List.map_cons, List.map_nil]; rfl) ?_
      with_reducible refine (refStep_any T y _ hT hy).mono ?_
      rintro e w3 ⟨rfl, hm3⟩
      refine ⟨_, rfl, ?_⟩
      refine hK.out _ _ ⟨(hHeld.1.trans0 hm3), (hm3.blk hHeld.2 (by simp))⟩ (fun hHeld => ?_)
      clear hK K
      refine norm_ (a' := ?_) ?_ ?_
      rotate_left
      · show Act.put _ (some 20) _ = _
        simp only [Act.put, List.setIfInBounds_toArray, List.set_cons_zero, List.set_cons_succ, i64_w, i32_w]
        rfl
      refine last_ (i := 6) (N := none) #[true, true, true, true, true, true, true] rfl rfl (by kernel_rfl) (by decide) (fun K hK => ?_)
      refine wp_store_row 60 (.tmp 5) (.tmp 20) rfl g _ rfl rfl 60 _ hHeld.2 (info60 _) (bl_same _ _) (bl_one _) ?_
      refine hK.out _ _ ?_
      clear hK K
      refine done_ (by kernel_rfl) ?_

      go_wp2
      go_roundw
      case rel =>
        refine ⟨k + 1, by omega, by go_num, (hm.trans0 hHeld.1).setRow (.inr hg) _, ?_⟩
        rw [HF.out]; exact setRow_heap _ _ _ _ _ _ hHeld.2
      case measure => simp [intOf]; omega
    · have hkn : k = n := by omega
      subst hkn
      have HE := Lib.hid (show crcMore s bs = ((4294967295 ^^^ feed T0 (B bs) (8 * k) : Nat) : Int) by
        have h1 := crcOn_feed bs hbs T0 hs0
        rw [HL.out] at h1
        unfold crcMore
        rw [crcNot_nat s hs, HT0.out, h1, crcNot_nat _ hT])
      generalize feed T0 (B bs) (8 * k) = T at hA hT HE
      have HG := Lib.hid hgg
      clear hgg
      go_wp2_with (first | (refine wpList_load_row rfl 60 (.tmp 5) rfl g rfl 60 _ (0, 0) _ hA Try.underlying60 rfl (info60 _) ?_) | fail)
      refine (refNumber_any T wr hT).mono ?_
      rintro e w5 ⟨rfl, hm5⟩
      go_wp2
      go_ret
      exact ⟨by rw [HE.out]; rfl, hm.trans0 hm5⟩
theorem strOfNums_size (xs : List Int) : (strOfNums xs).size = xs.length := by
  show (strOfNums xs).data.size = _
  simp [strOfNums]
theorem strOfNums_append (xs ys : List Int) : strOfNums xs ++ strOfNums ys = strOfNums (xs ++ ys) := by
  apply ByteArray.ext
  simp [strOfNums]
theorem refSeal_any (A : Option Addr) (n c : Nat) (bs : List Int) (w : World)
    (hr : ReadsInt w .u8 A n bs) (hbs : Bytes bs) (hn : n ≤ 1000000) :
    Calls Try.prog 26 #[.slice A n c] w fun e w' => e = .returned (.string (strOfNums (crcSeal bs))) ∧ Mod [] w w' := by
  go_enter Try.func26, Try.ntmps26
  go_wp2_with fail
  refine (refMore_any 0 A n c bs w (by omega) hr hbs).mono ?_
  rintro e w1 ⟨rfl, hm1⟩
  have hs := crcMore_bd 0 bs
  rw [show ((0 : Nat) : Int) = 0 from rfl]
  generalize hsum : crcMore 0 bs = sum at hs
  have HS := Lib.hid hsum
  clear hsum
  have hr1 := hm1.reads hr (by simp)
  have k2 := string_of_reads (src := 22) (dst := 9) (c := c) Try.underlying22 Try.underlying5 Try.underlying9 hr1
  have k3 : ∀ y0 y1 y2 y3 : Int, (convert 22 9 (.slice (some ⟨w1.heap.size, 0, none⟩) 4 4)).run Try.prog (w1.alloc (.cells #[.int .u8 y0, .int .u8 y1, .int .u8 y2, .int .u8 y3] 5)) = .ok (.string (strOfNums [y0, y1, y2, y3])) (w1.alloc (.cells #[.int .u8 y0, .int .u8 y1, .int .u8 y2, .int .u8 y3] 5)) :=
    fun y0 y1 y2 y3 => string_of_reads Try.underlying22 Try.underlying5 Try.underlying9 (reads_lit w1 .u8 [y0, y1, y2, y3] 5 (0, 0) (by simp))
  have hz1 : (strOfNums bs).size ≤ 1000000 := by rw [strOfNums_size, hr.1]; exact hn
  have hz2 : ∀ y0 y1 y2 y3 : Int, (strOfNums [y0, y1, y2, y3]).size = 4 := fun _ _ _ _ => strOfNums_size _
  go_wp2
  go_ret
  refine ⟨?_, hm1.alloc _⟩
  have e : crcSeal bs = bs ++ [sum % 256, sum / 256 % 256, sum / 65536 % 256, sum / 16777216] := by
    have e3 : sum / 16777216 % 256 = sum / 16777216 := by omega
    rw [crcSeal, HS.out]
    simp only [sumBytes, List.range_succ, List.range_zero, List.nil_append, List.map_append, List.map_cons, List.map_nil, List.cons_append]
    simp [e3]
  rw [e, ← strOfNums_append]; rfl
end Go.Proofs.Ytdkmkiiaklkcgaa
