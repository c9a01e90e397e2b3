/- What is written behind other bytes is the document's. -/
import Derived.Test.YtdkmkiiaklkcgaaEncAll
import Derived.Deep.DeepCutAuto
import Derived.Deep.RegionHeld3
import Derived.Laws.CopyOwn
set_option linter.unusedVariables false
set_option linter.unusedSimpArgs false
namespace Go.Proofs.Ytdkmkiiaklkcgaa
open Go.RowKit Go.Proofs.YtdkmkiiaklkcgaaW.PrintWords
theorem made_one (v : Value) (N : Nat) : madeCells #[v] N = (List.replicate N v).toArray := by
  apply Array.ext
  · simp [madeCells]
  · intro i h1 h2; simp [madeCells, Nat.mod_one]
theorem splice_reads {w : World} {g N n : Nat} {bs : List Int} (hl : bs.length = n) (hN : N = n + 20) (hN' : N ≤ 9223372036854775807)
    (h : w.heap[g]? = some (.cells (splice (List.replicate N (Value.int .u8 0)) 0 (nums .u8 bs)).toArray 5 (0, 0))) :
    ReadsInt w .u8 (some ⟨g, 0, none⟩) N (bs ++ List.replicate 20 0) := by
  refine ⟨by simp; omega, by omega, fun _ => ⟨_, rfl, fun j hj => ?_⟩⟩
  have e : (splice (List.replicate N (Value.int .u8 0)) 0 (nums .u8 bs)) = nums .u8 (bs ++ List.replicate 20 0) := by
    rw [splice, List.take_zero, List.nil_append, List.drop_replicate]
    have : (nums IntKind.u8 bs).length = n := by simp [nums]; omega
    rw [this, show N - (0 + n) = 20 by omega]
    simp [nums]
  rw [e] at h
  rw [add_plain, World.cell?, h]
  have hlt : j < (bs ++ List.replicate 20 0).length := by simp; omega
  generalize bs ++ List.replicate 20 0 = ys at hlt
  simp only [nums, List.getElem?_toArray, List.getElem?_map, List.getD_eq_getElem?_getD]
  rw [List.getElem?_eq_getElem hlt]
  simp [hlt]
theorem reads_pre {w : World} {A : Option Addr} {N n : Nat} {bs ys : List Int} (hl : bs.length = n) (h : ReadsInt w .u8 A N (bs ++ ys)) (hn : n ≤ N) : ReadsInt w .u8 A n bs := by
  refine ⟨hl, by have := h.2.1; omega, fun hp => ?_⟩
  obtain ⟨ad, e, hc⟩ := h.2.2 (by omega)
  refine ⟨ad, e, fun j hj => ?_⟩
  rw [hc j (by omega)]
  simp [List.getD_eq_getElem?_getD, List.getElem?_append, hl, hj]
set_option maxRecDepth 100000 in
set_option maxHeartbeats 1000000 in
theorem writes_any (A D : Option Addr) (n c m k : Nat) (x : Int) (bs ds : List Int) (w : World) (hr : ReadsInt w .u8 A n bs) (hd : ReadsInt w .u8 D m ds)
    (hb : Bytes bs) (hdb : Bytes ds) (hn0 : n ≤ 1000) (hm0 : m ≤ 1000) (hx : -9223372036854775808 ≤ x) (hx' : x ≤ 9223372036854775807) :
    Calls Try.prog 5 #[.slice A n c, .int .i64 x, .slice D m k] w fun e w' => e = .returned (.bool true) ∧ Mod [] w w' := by
  have t1 : decide ((1000 : Int) < n) = false := by simp; omega
  have t2 : decide ((1000 : Int) < m) = false := by simp; omega
  obtain ⟨N, hN⟩ : ∃ N, N = n + 20 := ⟨_, rfl⟩
  have q1 : IntKind.i64.wrap ((n : Int) + 20) = (N : Int) := by rw [IntWalk.i64_in _ (by omega)]; omega
  have q2 : (n : Int) + 20 = N := by omega
  have hmk := run_make_row' (P := Try.prog) 22 5 (.int .u8 0) 1 Try.underlying22 (by kernel_rfl) rfl .i64 .i64 N (by omega) (by omega)
  have HX := Lib.hid hx
  have HX' := Lib.hid hx'
  have HN := Lib.hid hN
  have hnN : n ≤ N := by omega
  clear hx hx' hN
  have HH := Lib.hid (show (w.alloc (.cells (madeCells #[.int .u8 0] N) 5)).heap[w.heap.size]? = some (.cells (List.replicate N (Value.int .u8 0)).toArray 5 (0, 0)) by
    rw [blk_new, made_one])
  have hm0 := (Mod.refl [] w).alloc (.cells (madeCells #[.int .u8 0] N) 5)
  have hr0 := hm0.reads hr (by simp)
  have HB := Lib.hid (hm0.below0)
  go_enter Try.func5, Try.ntmps5
  go_wp2_with (with_reducible refine wpList_copy_splice rfl _ _ 22 22 rfl 5 Try.underlying22 (by kernel_rfl) (some ⟨w.heap.size, 0, none⟩) A N N n c ?_ ?_ w.heap.size 0 (List.replicate N (Value.int .u8 0)) 5 ?_ (nums .u8 bs) ?_ ?_ ?_ ?_ w.heap.size w ?_ ?_ ?_)
  · rfl
  · rfl
  · exact HH.out
  · have := hr.1; have h2 : n.min N = n := Nat.min_eq_left hnN; simp only [nums, List.length_map]; omega
  · intro hp
    have hp' : 0 < n := by have := hr.1; simp only [nums, List.length_map] at hp; omega
    obtain ⟨ad, e, hc⟩ := hr0.2.2 hp'
    refine ⟨ad, e, fun j v hj => ?_⟩
    obtain ⟨h1, h2⟩ := List.getElem?_eq_some_iff.1 hj
    have hj' : j < n := by have := hr.1; simp only [nums, List.length_map] at h1; omega
    rw [hc j hj', ← h2]
    simp only [nums, List.getElem_map, List.getD_eq_getElem?_getD]
    rw [List.getElem?_eq_getElem (by have := hr.1; omega)]; rfl
  · have := hr.1; simp only [nums, List.length_map, List.length_replicate]; omega
  · intro v hv; simp only [nums, List.mem_map] at hv; obtain ⟨_, _, rfl⟩ := hv; rfl
  · exact HB.out
  · exact Nat.le_refl _
  · intro w2 HG HBw
    have hm2 : Mod [] w w2 := Mod.of_below HBw
    have hroom : ReadsInt w2 .u8 (some ⟨w.heap.size, 0, none⟩) N (bs ++ List.replicate 20 0) := splice_reads hr.1 HN.out (by omega) HG.out
    have hpre := reads_pre hr.1 hroom hnN
    have hd2 := hm2.reads hd (by simp)
    have hr2 := hm2.reads hr (by simp)
    clear HG HBw HH HB hmk hm0 hr0
    generalize (⟨w.heap.size, 0, none⟩ : Addr) = G at *
    go_upto_region 5 with fail
    go_region_held3 (fun w' => Mod [] w2 w') (first | exact (Mod.refl [] _).drew | exact Mod.trans0 (by assumption) (by assumption) | exact (by assumption))
      (first
        | (go_at_call 19; refine (encCount_any (some G) n N x bs _ (Mod.reads (S := []) (by assumption) hpre (by simp)) (by omega) HX.out HX'.out).mono ?_; rintro e w3 ⟨v1, rfl, hm3, hown1⟩)
        | (go_at_call 20; refine (encWhole_any (some G) n N x bs _ (Mod.reads (S := []) (by assumption) hpre (by simp)) (by omega) HX.out HX'.out).mono ?_; rintro e w4 ⟨v2, rfl, hm4, hown2⟩)
        | (go_at_call 21; refine (encSized_any (some G) D n N m k bs ds _ (Mod.reads (S := []) (by assumption) hpre (by simp)) (by omega) (Mod.reads (S := []) (by assumption) hd2 (by simp)) (by omega)).mono ?_; rintro e w5 ⟨v3, rfl, hm5, hown3⟩))
    have hm25 := (by assumption : Mod [] w2 w5)
    have hown1' := (hm4.trans0 hm5).own hown1 (by simp)
    have hown2' := hm5.own hown2 (by simp)
    have hr5 := hm25.reads hr2 (by simp)
    have hd5 := hm25.reads hd2 (by simp)
    have hroom5 := hm25.reads hroom (by simp)
    have HM := Lib.hid (hm2.trans0 hm25)
    obtain ⟨A1, c1, rfl, _, hr1, _⟩ := own_form hown1'
    obtain ⟨A2, c2, rfl, _, hr2, _⟩ := own_form hown2'
    obtain ⟨A3, c3, rfl, _, hr3, _⟩ := own_form hown3
    clear hown1 hown1' hown2 hown2' hown3
    have hx := HX.out
    have hx' := HX'.out
    have C1 : ∀ w', Calls Try.prog 22 #[.int .i64 x] w' fun e w'' => e = .returned (.string (strOfNums (uput x.toNat))) ∧ Mod [] w' w'' := fun w' => refCount_any x w' hx hx'
    have C2 : ∀ w', Calls Try.prog 23 #[.int .i64 x] w' fun e w'' => e = .returned (.string (strOfNums (uput (zz x)))) ∧ Mod [] w' w'' := fun w' => refWhole_any x w' hx hx'
    have C3 : ∀ w', Calls Try.prog 24 #[.string (strOfNums ds)] w' fun e w'' => e = .returned (.string (strOfNums (uput m ++ ds))) ∧ Mod [] w' w'' := fun w' => by have := refSized_any ds w' (by have := hd.1; omega); rw [hd.1] at this; exact this
    have K1 : ∀ w', Mod [] w5 w' → (convert 22 9 (.slice A1 (bs ++ uput x.toNat).length c1)).run Try.prog w' = .ok (.string (strOfNums bs ++ strOfNums (uput x.toNat))) w' := fun w' h => by rw [strOfNums_append]; exact string_of_reads Try.underlying22 Try.underlying5 Try.underlying9 (h.reads hr1 (by simp))
    have K2 : ∀ w', Mod [] w5 w' → (convert 22 9 (.slice A2 (bs ++ uput (zz x)).length c2)).run Try.prog w' = .ok (.string (strOfNums bs ++ strOfNums (uput (zz x)))) w' := fun w' h => by rw [strOfNums_append]; exact string_of_reads Try.underlying22 Try.underlying5 Try.underlying9 (h.reads hr2 (by simp))
    have K3 : ∀ w', Mod [] w5 w' → (convert 22 9 (.slice A3 (bs ++ (uput m ++ ds)).length c3)).run Try.prog w' = .ok (.string (strOfNums bs ++ strOfNums (uput m ++ ds))) w' := fun w' h => by rw [strOfNums_append]; exact string_of_reads Try.underlying22 Try.underlying5 Try.underlying9 (h.reads hr3 (by simp))
    have K4 : ∀ w', Mod [] w5 w' → (convert 22 9 (.slice A n c)).run Try.prog w' = .ok (.string (strOfNums bs)) w' := fun w' h => string_of_reads Try.underlying22 Try.underlying5 Try.underlying9 (h.reads hr5 (by simp))
    have K5 : ∀ w', Mod [] w5 w' → (convert 22 9 (.slice D m k)).run Try.prog w' = .ok (.string (strOfNums ds)) w' := fun w' h => string_of_reads Try.underlying22 Try.underlying5 Try.underlying9 (h.reads hd5 (by simp))
    have z0 : (strOfNums bs).size = n := by rw [strOfNums_size]; exact hr.1
    have z1 : (strOfNums (uput x.toNat)).size ≤ 10 := uput_small _ (by omega)
    have z2 : (strOfNums (uput (zz x))).size ≤ 10 := uput_small _ (zz_lt hx hx')
    have z3 : (strOfNums (uput m ++ ds)).size ≤ 1010 := by rw [strOfNums_size, List.length_append]; have := uput_len10 (n := m) (by omega); have := hd.1; omega
    have y1 : n + (strOfNums (uput x.toNat)).size ≤ 9223372036854775807 := by omega
    have y2 : n + (strOfNums (uput (zz x))).size ≤ 9223372036854775807 := by omega
    have y3 : n + (strOfNums (uput m ++ ds)).size ≤ 9223372036854775807 := by omega
    have F1 : ∀ w', (Op.stringOp .add (strOfNums bs) (strOfNums (uput x.toNat))).run Try.prog w' = .ok (.string (strOfNums bs ++ strOfNums (uput x.toNat))) w' := fun w' => run_string_add_sum _ _ _ (by omega)
    have F2 : ∀ w', (Op.stringOp .add (strOfNums bs) (strOfNums (uput (zz x)))).run Try.prog w' = .ok (.string (strOfNums bs ++ strOfNums (uput (zz x)))) w' := fun w' => run_string_add_sum _ _ _ (by omega)
    have F3 : ∀ w', (Op.stringOp .add (strOfNums bs) (strOfNums (uput m ++ ds))).run Try.prog w' = .ok (.string (strOfNums bs ++ strOfNums (uput m ++ ds))) w' := fun w' => run_string_add_sum _ _ _ (by omega)
    have HR := Lib.hid hr5
    have HRM := Lib.hid hroom5
    have HL := Lib.hid hr.1
    clear hr5 hroom5 hr1 hr2 hr3 hd5 hm3 hm4 hm5 hm25 hr hd hb hdb hx hx' hpre hroom hd2 hm2
    generalize strOfNums (uput x.toNat) = s1 at *
    generalize strOfNums (uput (zz x)) = s2 at *
    generalize strOfNums (uput m ++ ds) = s3 at *
    generalize strOfNums bs = s0 at *
    generalize strOfNums ds = s4 at *
    generalize (bs ++ uput x.toNat).length = n1 at *
    generalize (bs ++ uput (zz x)).length = n2 at *
    generalize (bs ++ (uput m ++ ds)).length = n3 at *
    go_wp2_with fail
    go_loopw [11] (fun i wr => ∃ j : Nat, j ≤ N ∧ i = .int .i64 j ∧ Mod [] w5 wr) (fun i _ => N - (intOf i).toNat)
    case atStart => exact ⟨0, by omega, rfl, Mod.refl _ _⟩
    case round =>
      obtain ⟨j, hj, rfl, hm⟩ := hrel
      have hr5 := hm.reads HR.out (by simp)
      have hroom5 := hm.reads HRM.out (by simp)
      by_cases hlt : j < N
      · by_cases hjn : j < n
        · obtain ⟨a1, h1, k1⟩ := hr5.at_ j (by omega) (by omega)
          obtain ⟨a2, h2, k2⟩ := hroom5.at_ j (by omega) (by omega)
          cases h2
          subst h1
          have e : rd (bs ++ List.replicate 20 0) j = rd bs j := by have := HL.out; simp [rd, List.getD_eq_getElem?_getD, List.getElem?_append, this, hjn]
          rw [e] at k2
          rw [Int.toNat_natCast] at k1 k2
          have t3 : decide (j < n) = true := by simp; omega
          have t4 : decide (n ≤ j) = false := by simp; omega
          generalize rd bs j = b at *
          clear hr5 hroom5 e
          go_wp2_with fail
          go_quiet (fail)
          go_wp2
          go_roundw
          case rel => exact ⟨j + 1, by omega, by go_num, hm.drewN _⟩
          case measure => simp [intOf]; omega
        · obtain ⟨a2, h2, k2⟩ := hroom5.at_ j (by omega) (by omega)
          cases h2
          have e : rd (bs ++ List.replicate 20 0) j = 0 := by
            have h1 := HL.out
            have h3 := HN.out
            unfold rd
            rw [Int.toNat_natCast, List.getD_eq_getElem?_getD, List.getElem?_append_right (by omega), List.getElem?_replicate]
            split <;> rfl
          rw [e, Int.toNat_natCast] at k2
          have t3 : decide (j < n) = false := by simp; omega
          have t4 : decide (n ≤ j) = true := by simp; omega
          clear hr5 hroom5 e
          go_wp2_with fail
          go_quiet (fail)
          go_wp2
          go_roundw
          case rel => exact ⟨j + 1, by omega, by go_num, hm.drewN _⟩
          case measure => simp [intOf]; omega
      · have hjN : j = N := by omega
        subst hjN
        clear hr5 hroom5
        go_upto_region 11 with fail
        go_region_held3 (fun w' => Mod [] w5 w') (first | exact hm | exact hm.drew | exact Mod.trans0 (by assumption) (by assumption) | exact (by assumption))
          (first
            | (go_at_call 22; refine (C1 _).mono ?_; rintro e w6 ⟨rfl, hm6⟩)
            | (go_at_call 23; refine (C2 _).mono ?_; rintro e w7 ⟨rfl, hm7⟩)
            | (go_at_call 24; refine (C3 _).mono ?_; rintro e w8 ⟨rfl, hm8⟩)
            | (go_at_call 18; refine (encLives_any _).mono ?_; rintro e w9 ⟨rfl, hm9⟩))
        go_wp2
        go_ret
        exact ⟨rfl, HM.out.trans0 (by assumption)⟩
theorem law_walk (A : Option Addr) (n c : Nat) (bs : List Int) (x : Int) (D : Option Addr) (m k : Nat) (ds : List Int) (w : World) (hr : ReadsInt w .u8 A n bs) (hnc : n ≤ c) (hb : ∀ x ∈ bs, (Lit.int .u8 x).wf = true) (hy : n * 1 ≤ 140737488351232) (hx : (Lit.int .i64 x).wf = true)
    (hd : ReadsInt w .u8 D m ds) (hmk : m ≤ k) (hdb : ∀ x ∈ ds, (Lit.int .u8 x).wf = true) (hy' : m * 1 ≤ 140737488351232) :
    Calls Try.prog 5 #[.slice A n c, .int .i64 x, .slice D m k] w fun e w' => e = .returned (.bool true) ∧ Mod [] w w' := by
  by_cases h1 : n ≤ 1000
  · by_cases h2 : m ≤ 1000
    · have hx' := bounds_i64 hx
      exact writes_any A D n c m k x bs ds w hr hd (bytes_wf hb) (bytes_wf hdb) h1 h2 hx'.1 hx'.2
    · have t1 : decide ((1000 : Int) < n) = false := by simp; omega
      have t2 : decide ((1000 : Int) < m) = true := by simp; omega
      go_enter Try.func5, Try.ntmps5
      go_wp2_with fail
      refine (encLives_any w).mono ?_
      rintro e w4 ⟨rfl, hm⟩
      go_wp2
      go_ret
      exact ⟨rfl, hm⟩
  · have t1 : decide ((1000 : Int) < n) = true := by simp; omega
    go_enter Try.func5, Try.ntmps5
    go_wp2_with fail
    refine (encLives_any w).mono ?_
    rintro e w4 ⟨rfl, hm⟩
    go_wp2
    go_ret
    exact ⟨rfl, hm⟩
end Go.Proofs.Ytdkmkiiaklkcgaa
