/- A disk of four sectors behind some steps. -/
import Derived.Test.YtcohfbmfmlmblaaDkRun
set_option linter.unusedVariables false
set_option linter.unusedSimpArgs false
namespace Go.Proofs.Ytcohfbmfmlmblaa
open Go.RowKit Go.Proofs.YtcohfbmfmlmblaaW.PrintWords Go.Proofs.Ytcohfbmfmlmblaa.PDiskPlays Go.Proofs.YtcohfbmfmlmblaaW.PrintMore Go.Proofs.YtcohfbmfmlmblaaW.PrintLast
theorem St.rebase {w w1 w2 : World} {g : Nat} {D : DK} (hm : Mod [] w w1) (h : St w1 w2 g D) : St w w2 g D := by
  obtain ⟨fp, a1, a2, a3⟩ := h
  exact ⟨fp, hm.trans0 a1, fun k hk => Nat.le_trans hm.size (a2 k hk), a3⟩
set_option maxRecDepth 100000 in
set_option maxHeartbeats 2000000 in
theorem played_any (A : Option Addr) (c : Nat) (ops : List S25) (w : World) (hr : Kd.C k25 w A ops.length ops) (hc : ops.length ≤ c) (hw : ∀ o ∈ ops, o.f2 ≤ 9223372036854775807) (h60 : ops.length ≤ 60) :
    Calls Try.prog 10 #[.slice A ops.length c] w fun e w' => ∃ g, e = .returned (.pointer (some ⟨g, 0, none⟩)) ∧ St w w' g (runO ops (newD 4)) := by
  have hN := st_new 4 w (by omega) (by omega)
  go_enter Try.func10, Try.ntmps10
  go_wp2_with fail
  refine hN.mono ?_
  rintro e w1 ⟨g, rfl, hS⟩
  clear hN
  have HS2 := Lib.hid hS
  clear hS
  have hnw := pair_new 4 (by omega) (by omega) HS2.out
  go_wp2_with fail
  refine hnw.mono ?_
  rintro e w3 ⟨A5, q5, A6, q6, rfl, h3⟩
  clear hnw
  have HR4 := Lib.hid (RunI.box h3)
  clear h3
  go_wp2_with fail
  generalize w3.alloc _ = w4 at *
  generalize w3.heap.size = b at *
  go_loopw [6] (fun iv wr => ∃ (i : Nat) (A5 : Option Addr) (q5 : Nat) (A6 : Option Addr) (q6 : Nat), iv = .int .i64 (i : Int) ∧ i ≤ ops.length ∧ RunI w wr g b (runO (ops.take i) (newD 4)) A5 q5 A6 q6) (fun iv _ => ops.length - (intOf iv).toNat)
  case atStart => exact ⟨0, A5, q5, A6, q6, rfl, Nat.zero_le _, HR4.out⟩
  clear HR4 HS2
  case round =>
    obtain ⟨i, A5, q5, A6, q6, rfl, hi, hI⟩ := hrel
    by_cases hlt : i < ops.length
    · skip
      have hi0 : (0 : Int) ≤ (i : Int) := by omega
      have hlt2 : (i : Int) < (ops.length : Int) := by omega
      obtain ⟨ad, KA, kc, rfl, e0, e1, e2, e3, e4, e5, e6, hkc, hk⟩ := at_T25 hr (i : Int) hi0 hlt2
      rw [Int.toNat_natCast] at e0 e1 e2 e3 e4 e5 e6
      have hrd : rd_T25 ops (i : Int) = ops[i] := by simp [rd_T25, List.getD_eq_getElem?_getD, hlt]
      have HG := Lib.hid (good_run ops 4 (by omega) (by omega) hw i (by omega))
      have HG' := Lib.hid (good_run ops 4 (by omega) (by omega) hw (i + 1) (by omega))
      rw [run_take ops _ i hlt] at HG'
      have HRT := Lib.hid (run_take ops (newD 4) i hlt)
      rw [hrd] at e0 e1 e2 e3 e4 e5 e6 hkc hk
      have HI60 := Lib.hid (show i ≤ 900 by omega)
      generalize ops[i] = o at *
      generalize hDD : runO (ops.take i) (newD 4) = D at *
      have HX := Lib.hid (hI.ps.mod (Mod.refl [] wr).drew).1
      have HJ := Lib.hid hI.blk
      have HBW := Lib.hid hI.bw
      have y0 := (blk_cell hI.blk 0).trans rfl
      have y1 := (blk_cell hI.blk 1).trans rfl
      have y2 := (blk_cell hI.blk 2).trans rfl
      have y3 := (blk_cell hI.blk 3).trans rfl
      have y4 := (blk_cell hI.blk 4).trans rfl
      have z0 := hI.ps.md.cell e0 (by simp)
      have z1 := hI.ps.md.cell e1 (by simp)
      have z2 := hI.ps.md.cell e2 (by simp)
      have z3 := hI.ps.md.cell e3 (by simp)
      have z4 := hI.ps.md.cell e4 (by simp)
      have z5 := hI.ps.md.cell e5 (by simp)
      have z6 := hI.ps.md.cell e6 (by simp)
      clear hI hrd
      go_upto_region 8 with fail
      refine start_ (n := 11) (S := fun w' => w'.cell? ⟨b, 0, none⟩ = some (.slice A5 D.l.length q5) ∧ w'.cell? ⟨b, 1, none⟩ = some (.slice A6 D.row.length q6) ∧ w'.cell? ⟨b, 2, none⟩ = some (.int .i64 D.fuse) ∧ w'.cell? ⟨b, 3, none⟩ = some (.bool D.down) ∧ w'.cell? ⟨b, 4, none⟩ = some (.int .i64 D.done) ∧ w'.cell? (ad.add (i * 7)) = some (.int .i64 o.f0) ∧ w'.cell? ⟨(ad.add (i * 7)).block, (ad.add (i * 7)).off + 1, none⟩ = some (.int .i64 o.f1) ∧ w'.cell? ⟨(ad.add (i * 7)).block, (ad.add (i * 7)).off + 2, none⟩ = some (.int .i64 o.f2) ∧ w'.cell? ⟨(ad.add (i * 7)).block, (ad.add (i * 7)).off + 3, none⟩ = some (.int .i64 o.f3) ∧ w'.cell? ⟨(ad.add (i * 7)).block, (ad.add (i * 7)).off + 4, none⟩ = some (.int .i64 o.f4) ∧ w'.cell? ⟨(ad.add (i * 7)).block, (ad.add (i * 7)).off + 5, none⟩ = some (.int .u8 o.f5) ∧ w'.cell? ⟨(ad.add (i * 7)).block, (ad.add (i * 7)).off + 6, none⟩ = some (.slice KA o.f6.length kc)) (ds := [10]) #[false, false, false, false, false, false, false, false, false, false, false] (by kernel_rfl) rfl rfl ⟨y0, y1, y2, y3, y4, z0, z1, z2, z3, z4, z5, z6⟩ (fun hHeld => ?_)
      refine pure_ (i := 0) (N := some 21) (v := ?_) (a' := ?_) #[true, false, false, false, false, false, false, false, false, false, false] rfl rfl (by kernel_rfl) (fun _ _ _ h => h) (Or.inl ⟨by rfl, ?_⟩) ?_ ?_
      rotate_left
      · intro w'
        go_simp
        with_reducible rfl
      rotate_left
      · simp only [Act.put, List.setIfInBounds_toArray, List.set_cons_zero, List.set_cons_succ, i64_w, i32_w]
        rfl
      refine pure_ (i := 2) (N := some 23) (v := ?_) (a' := ?_) #[true, false, true, false, false, false, false, false, false, false, false] rfl rfl (by kernel_rfl) (fun _ _ _ h => h) (Or.inl ⟨by rfl, ?_⟩) ?_ ?_
      rotate_left
      · intro w'
        go_simp
        with_reducible rfl
      rotate_left
      · simp only [Act.put, List.setIfInBounds_toArray, List.set_cons_zero, List.set_cons_succ, i64_w, i32_w]
        rfl
      refine pure_ (i := 3) (N := some 24) (v := ?_) (a' := ?_) #[true, false, true, true, false, false, false, false, false, false, false] rfl rfl (by kernel_rfl) (fun _ _ _ h => h) (Or.inl ⟨by rfl, ?_⟩) ?_ ?_
      rotate_left
      · intro w'
        go_simp
        with_reducible rfl
      rotate_left
      · simp only [Act.put, List.setIfInBounds_toArray, List.set_cons_zero, List.set_cons_succ, i64_w, i32_w]
        rfl
      refine pure_ (i := 4) (N := some 25) (v := ?_) (a' := ?_) #[true, false, true, true, true, false, false, false, false, false, false] rfl rfl (by kernel_rfl) (fun _ _ _ h => h) (Or.inl ⟨by rfl, ?_⟩) ?_ ?_
      rotate_left
      · intro w'
        go_simp
        with_reducible rfl
      rotate_left
      · simp only [Act.put, List.setIfInBounds_toArray, List.set_cons_zero, List.set_cons_succ, i64_w, i32_w]
        rfl
      refine take_ (i := 1) (N := some 22) (v := ?_) (a' := ?_) #[true, true, true, true, true, false, false, false, false, false, false] rfl rfl (by kernel_rfl) (fun _ _ _ h => h) (Or.inl ⟨by rfl, ?_⟩) hHeld ?_ ?_
      rotate_left
      · rintro w' ⟨s0, s1, s2, s3, s4, s5, s6, s7, s8, s9, s10, s11⟩
        go_simp
        with_reducible rfl
      rotate_left
      · simp only [Act.put, List.setIfInBounds_toArray, List.set_cons_zero, List.set_cons_succ, i64_w, i32_w]
        rfl
      refine take_ (i := 5) (N := some 26) (v := ?_) (a' := ?_) #[true, true, true, true, true, true, false, false, false, false, false] rfl rfl (by kernel_rfl) (fun _ _ _ h => h) (Or.inl ⟨by rfl, ?_⟩) hHeld ?_ ?_
      rotate_left
      · rintro w' ⟨s0, s1, s2, s3, s4, s5, s6, s7, s8, s9, s10, s11⟩
        go_simp
        with_reducible rfl
      rotate_left
      · simp only [Act.put, List.setIfInBounds_toArray, List.set_cons_zero, List.set_cons_succ, i64_w, i32_w]
        rfl
      refine one_ (i := 6) (N := some 27) #[true, true, true, true, true, true, true, false, false, false, false] rfl rfl (by kernel_rfl) (by decide) (fun K hK => ?_)
      refine goes_ Try.func23 (by kernel_rfl) rfl #[.pointer (some ⟨g, 0, none⟩), .agg #[.slice A5 D.l.length q5, .slice A6 D.row.length q6, .int .i64 D.fuse, .bool D.down, .int .i64 D.done], .agg #[.int .i64 o.f0, .int .i64 o.f1, .int .i64 o.f2, .int .i64 o.f3, .int .i64 o.f4, .int .u8 o.f5, .slice KA o.f6.length kc]] (by rfl) rfl rfl (by simp only [List.map_toArray, List.map_cons, List.map_nil]; rfl) ?_
      with_reducible refine (step_any HX.out HG.out HI60.out o KA kc hk hkc).mono ?_
      rintro e w6 ⟨x6, rfl, h6, p6⟩
      refine ⟨_, rfl, ?_⟩
      obtain ⟨A7, q7, A8, q8, rfl⟩ := h6.form
      generalize stepO o D = D2 at *
      have H6 := Lib.hid h6
      have j6 := p6.blk (show wr.drew.heap[b]? = some _ from HJ.out) rfl
      have m6 := h6.md
      have t0 := (blk_cell j6 0).trans rfl
      have t1 := (blk_cell j6 1).trans rfl
      have t2 := (blk_cell j6 2).trans rfl
      have t3 := (blk_cell j6 3).trans rfl
      have t4 := (blk_cell j6 4).trans rfl
      have g0 := blk_frozen j6 0
      have g1 := blk_frozen j6 1
      have g2 := blk_frozen j6 2
      have g3 := blk_frozen j6 3
      have g4 := blk_frozen j6 4
      have J6 := Lib.hid j6
      clear h6 p6
      refine hK.out _ _ ⟨t0, t1, t2, t3, t4, m6.cell e0 (by simp), m6.cell e1 (by simp), m6.cell e2 (by simp), m6.cell e3 (by simp), m6.cell e4 (by simp), m6.cell e5 (by simp), m6.cell e6 (by simp)⟩ (fun hHeld => ?_)
      clear hK K
      refine norm_ (a' := ?_) ?_ ?_
      rotate_left
      · show Act.put _ (some 27) _ = _
        simp only [Act.put, List.setIfInBounds_toArray, List.set_cons_zero, List.set_cons_succ, i64_w, i32_w]
        rfl
      refine pure_ (i := 7) (N := some 20) (v := ?_) (a' := ?_) #[true, true, true, true, true, true, true, true, false, false, false] rfl rfl (by kernel_rfl) (fun _ _ _ h => h) (Or.inl ⟨by rfl, ?_⟩) ?_ ?_
      rotate_left
      · intro w'
        go_simp
        with_reducible rfl
      rotate_left
      · simp only [Act.put, List.setIfInBounds_toArray, List.set_cons_zero, List.set_cons_succ, i64_w, i32_w]
        rfl
      refine pure_ (i := 8) (N := some 28) (v := ?_) (a' := ?_) #[true, true, true, true, true, true, true, true, true, false, false] rfl rfl (by kernel_rfl) (fun _ _ _ h => h) (Or.inl ⟨by rfl, ?_⟩) ?_ ?_
      rotate_left
      · intro w'
        go_simp
        with_reducible rfl
      rotate_left
      · simp only [Act.put, List.setIfInBounds_toArray, List.set_cons_zero, List.set_cons_succ, i64_w, i32_w]
        rfl
      refine pure_ (i := 9) (N := some 29) (v := ?_) (a' := ?_) #[true, true, true, true, true, true, true, true, true, true, false] rfl rfl (by kernel_rfl) (fun _ _ _ h => h) (Or.inl ⟨by rfl, ?_⟩) ?_ ?_
      rotate_left
      · intro w'
        go_simp
        with_reducible rfl
      rotate_left
      · simp only [Act.put, List.setIfInBounds_toArray, List.set_cons_zero, List.set_cons_succ, i64_w, i32_w]
        rfl
      refine last_ (i := 10) (N := none) #[true, true, true, true, true, true, true, true, true, true, true] rfl rfl (by kernel_rfl) (by decide) (fun K hK => ?_)
      refine skip_ (w1 := ?_) (by rfl) rfl ?_ ?_
      rotate_left
      · go_simp
        rfl
      refine hK.out _ _ ?_
      clear hK K
      refine done_ (by kernel_rfl) ?_
      have HR7 : Hid (RunI w ((((((w6.setCell ⟨b, 0, none⟩ (.slice A7 D2.l.length q7)).setCell ⟨b, 1, none⟩ (.slice A8 D2.row.length q8)).setCell ⟨b, 2, none⟩ (.int .i64 D2.fuse)).setCell ⟨b, 3, none⟩ (.bool D2.down)).setCell ⟨b, 4, none⟩ (.int .i64 D2.done))) g b D2 A7 q7 A8 q8) := Lib.hid (RunI.put (B := fun k => k = b) HBW.out J6.out rfl H6.out)
      generalize (((((w6.setCell ⟨b, 0, none⟩ (.slice A7 D2.l.length q7)).setCell ⟨b, 1, none⟩ (.slice A8 D2.row.length q8)).setCell ⟨b, 2, none⟩ (.int .i64 D2.fuse)).setCell ⟨b, 3, none⟩ (.bool D2.down)).setCell ⟨b, 4, none⟩ (.int .i64 D2.done)) = w7 at *
      clear t0 t1 t2 t3 t4 g0 g1 g2 g3 g4 y0 y1 y2 y3 y4 z0 z1 z2 z3 z4 z5 z6 hHeld
      go_wp2
      go_roundw
      case rel => exact ⟨i + 1, A7, q7, A8, q8, by go_num, by omega, by rw [HRT.out]; exact HR7.out⟩
      case measure => simp [intOf]; omega
    · obtain rfl : i = ops.length := by omega
      have hlt2 : ¬ (ops.length : Int) < (ops.length : Int) := by omega
      have HE := Lib.hid hI.ps.st
      clear hI
      go_wp2
      go_ret
      refine ⟨g, rfl, ?_⟩
      have := HE.out
      rw [List.take_length] at this
      exact this
end Go.Proofs.Ytcohfbmfmlmblaa
