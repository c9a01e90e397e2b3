/- A step on both disks: reading, and a barrier. -/
import Derived.Test.YtcohfbmfmlmblaaDkStep
set_option linter.unusedVariables false
set_option linter.unusedSimpArgs false
namespace Go.Proofs.Ytcohfbmfmlmblaa
open Go.RowKit Go.Proofs.YtcohfbmfmlmblaaW.PrintWords Go.Proofs.Ytcohfbmfmlmblaa.PDiskPlays Go.Proofs.YtcohfbmfmlmblaaW.PrintMore Go.Proofs.YtcohfbmfmlmblaaW.PrintLast
set_option maxRecDepth 100000 in
set_option maxHeartbeats 2000000 in
theorem step_5 {w w1 : World} {g : Nat} {D : DK} {x : Value} {b : Nat} {B : Nat → Prop} (h : PS w w1 g D x D B) (hG : Good D b) (hb : b ≤ 900) (o0 o1 o2 o3 o4 o5 : Int) (keep : List Bool) (KA : Option Addr) (kc : Nat) (hk : Kd.C Kd.bool w KA keep.length keep) (hkc : keep.length ≤ kc) (ho : ¬ (o0 = 0 ∨ o0 = 1 ∨ o0 = 2 ∨ o0 = 3 ∨ o0 = 4)) :
    Calls Try.prog 23 #[.pointer (some ⟨g, 0, none⟩), x, .agg #[.int .i64 o0, .int .i64 o1, .int .i64 o2, .int .i64 o3, .int .i64 o4, .int .u8 o5, .slice KA keep.length kc]] w1 (StepPost w w1 g D B) := by
  obtain ⟨A, c, A', c', rfl⟩ := h.form
  have HB3 := Lib.hid (b3_any w1 #[.slice A D.l.length c, .slice A' D.row.length c', .int .i64 D.fuse, .bool D.down, .int .i64 D.done] #[.int .i64 o0, .int .i64 o1, .int .i64 o2, .int .i64 o3, .int .i64 o4, .int .u8 o5, .slice KA keep.length kc])
  have H2 := Lib.hid (ps_b3 h #[.slice A D.l.length c, .slice A' D.row.length c', .int .i64 D.fuse, .bool D.down, .int .i64 D.done] #[.int .i64 o0, .int .i64 o1, .int .i64 o2, .int .i64 o3, .int .i64 o4, .int .u8 o5, .slice KA keep.length kc])
  have HBL := Lib.hid h.Blt
  have HMD := Lib.hid h.md
  have hb3 := HB3.out
  obtain ⟨bb, hbb⟩ : ∃ q, w1.heap.size = q := ⟨_, rfl⟩
  have k0 := hb3.k0
  have k1 := hb3.k1
  have k2 := hb3.k2
  rw [hbb] at HB3 H2 k0 k1 k2
  have c0 := (blk_cell k0 0).trans rfl
  have c1 := (blk_cell k0 1).trans rfl
  have c2 := (blk_cell k0 2).trans rfl
  have c3 := (blk_cell k0 3).trans rfl
  have c4 := (blk_cell k0 4).trans rfl
  have d0 := (blk_cell k1 0).trans rfl
  have d1 := (blk_cell k1 1).trans rfl
  have d2 := (blk_cell k1 2).trans rfl
  have d3 := (blk_cell k1 3).trans rfl
  have d4 := (blk_cell k1 4).trans rfl
  have d5 := (blk_cell k1 5).trans rfl
  have d6 := (blk_cell k1 6).trans rfl
  have HK0 := Lib.hid k0
  have HK1 := Lib.hid k1
  have HK2 := Lib.hid k2
  clear k0 k1 k2 hb3 h
  have n0 : (o0 == 0) = false := by simp; omega
  have n1 : (o0 == 1) = false := by simp; omega
  have n2 : (o0 == 2) = false := by simp; omega
  have n3 : (o0 == 3) = false := by simp; omega
  have n4 : (o0 == 4) = false := by simp; omega
  clear ho
  go_enter Try.func23, Try.ntmps23
  go_upto_region 1 with fail
  clear hbb
  generalize ((w1.alloc _).alloc _).alloc _ = w2 at *
  go_wp2_with fail
  refine (prog_read H2.out hG (by omega) o1).mono ?_
  rintro e w3 ⟨rfl, h3, p3⟩
  have H3 := Lib.hid h3
  have P3 := Lib.hid p3
  clear h3 p3
  clear c0 c1 c2 c3 c4 d0 d1 d2 d3 d4 d5 d6
  have j0 := P3.out.blk HK0.out (.inr (.inl rfl))
  have j1 := P3.out.blk HK1.out (.inr (.inr (.inl rfl)))
  have j2 := P3.out.blk HK2.out (.inr (.inr (.inr rfl)))
  have c0 := (blk_cell j0 0).trans rfl
  have c1 := (blk_cell j0 1).trans rfl
  have c2 := (blk_cell j0 2).trans rfl
  have c3 := (blk_cell j0 3).trans rfl
  have c4 := (blk_cell j0 4).trans rfl
  have d0 := (blk_cell j1 0).trans rfl
  have d1 := (blk_cell j1 1).trans rfl
  have d2 := (blk_cell j1 2).trans rfl
  have d3 := (blk_cell j1 3).trans rfl
  have d4 := (blk_cell j1 4).trans rfl
  have d5 := (blk_cell j1 5).trans rfl
  have d6 := (blk_cell j1 6).trans rfl
  have t0 := (blk_cell j2 0).trans rfl
  have t1 := (blk_cell j2 1).trans rfl
  have t2 := (blk_cell j2 2).trans rfl
  have t3 := (blk_cell j2 3).trans rfl
  have t4 := (blk_cell j2 4).trans rfl
  have g0 := blk_frozen j2 0
  have g1 := blk_frozen j2 1
  have g2 := blk_frozen j2 2
  have g3 := blk_frozen j2 3
  have g4 := blk_frozen j2 4
  have J2 := Lib.hid j2
  clear j0 j1 j2
  go_wp2_with fail
  refine (ref_read H3.out hG (by omega) o1).mono ?_
  rintro e w4 ⟨rfl, h4, p4⟩
  have H4 := Lib.hid h4
  have P4 := Lib.hid (P3.out.trans p4)
  clear h4 p4
  clear c0 c1 c2 c3 c4 d0 d1 d2 d3 d4 d5 d6 t0 t1 t2 t3 t4 g0 g1 g2 g3 g4
  clear J2
  have j0 := P4.out.blk HK0.out (.inr (.inl rfl))
  have j1 := P4.out.blk HK1.out (.inr (.inr (.inl rfl)))
  have j2 := P4.out.blk HK2.out (.inr (.inr (.inr rfl)))
  have c0 := (blk_cell j0 0).trans rfl
  have c1 := (blk_cell j0 1).trans rfl
  have c2 := (blk_cell j0 2).trans rfl
  have c3 := (blk_cell j0 3).trans rfl
  have c4 := (blk_cell j0 4).trans rfl
  have d0 := (blk_cell j1 0).trans rfl
  have d1 := (blk_cell j1 1).trans rfl
  have d2 := (blk_cell j1 2).trans rfl
  have d3 := (blk_cell j1 3).trans rfl
  have d4 := (blk_cell j1 4).trans rfl
  have d5 := (blk_cell j1 5).trans rfl
  have d6 := (blk_cell j1 6).trans rfl
  have t0 := (blk_cell j2 0).trans rfl
  have t1 := (blk_cell j2 1).trans rfl
  have t2 := (blk_cell j2 2).trans rfl
  have t3 := (blk_cell j2 3).trans rfl
  have t4 := (blk_cell j2 4).trans rfl
  have g0 := blk_frozen j2 0
  have g1 := blk_frozen j2 1
  have g2 := blk_frozen j2 2
  have g3 := blk_frozen j2 3
  have g4 := blk_frozen j2 4
  have J2 := Lib.hid j2
  clear j0 j1 j2
  generalize readS D o1 = rs at *
  generalize canE D o1 = ce at *
  generalize hDD : D = DD at *
  go_wp2
  obtain ⟨e1, e2⟩ := step_end HB3.out HBL.out HMD.out H4.out P4.out (.slice A DD.l.length c) (.slice A' DD.row.length c') (.int .i64 DD.fuse) (.bool DD.down) (.int .i64 DD.done)
  refine bodyPost_ret (results_rowtmp rfl _ _ (bb + 1 + 1) 49 #[.slice A DD.l.length c, .slice A' DD.row.length c', .int .i64 DD.fuse, .bool DD.down, .int .i64 DD.done] (0, 0) _ rfl (put5_blk (.slice A DD.l.length c) (.slice A' DD.row.length c') (.int .i64 DD.fuse) (.bool DD.down) (.int .i64 DD.done) J2.out) Try.underlying49 rfl (by kernel_rfl)) rfl ⟨_, rfl, e1, e2⟩
set_option maxRecDepth 100000 in
set_option maxHeartbeats 2000000 in
theorem step_1 {w w1 : World} {g : Nat} {D : DK} {x : Value} {b : Nat} {B : Nat → Prop} (h : PS w w1 g D x D B) (hG : Good D b) (hb : b ≤ 900) (o0 o1 o2 o3 o4 o5 : Int) (keep : List Bool) (KA : Option Addr) (kc : Nat) (hk : Kd.C Kd.bool w KA keep.length keep) (hkc : keep.length ≤ kc) (ho : o0 = 1) :
    Calls Try.prog 23 #[.pointer (some ⟨g, 0, none⟩), x, .agg #[.int .i64 o0, .int .i64 o1, .int .i64 o2, .int .i64 o3, .int .i64 o4, .int .u8 o5, .slice KA keep.length kc]] w1 (StepPost w w1 g (barD D) B) := by
  obtain ⟨A, c, A', c', rfl⟩ := h.form
  have HB3 := Lib.hid (b3_any w1 #[.slice A D.l.length c, .slice A' D.row.length c', .int .i64 D.fuse, .bool D.down, .int .i64 D.done] #[.int .i64 o0, .int .i64 o1, .int .i64 o2, .int .i64 o3, .int .i64 o4, .int .u8 o5, .slice KA keep.length kc])
  have H2 := Lib.hid (ps_b3 h #[.slice A D.l.length c, .slice A' D.row.length c', .int .i64 D.fuse, .bool D.down, .int .i64 D.done] #[.int .i64 o0, .int .i64 o1, .int .i64 o2, .int .i64 o3, .int .i64 o4, .int .u8 o5, .slice KA keep.length kc])
  have HBL := Lib.hid h.Blt
  have HMD := Lib.hid h.md
  have hb3 := HB3.out
  obtain ⟨bb, hbb⟩ : ∃ q, w1.heap.size = q := ⟨_, rfl⟩
  have k0 := hb3.k0
  have k1 := hb3.k1
  have k2 := hb3.k2
  rw [hbb] at HB3 H2 k0 k1 k2
  have c0 := (blk_cell k0 0).trans rfl
  have c1 := (blk_cell k0 1).trans rfl
  have c2 := (blk_cell k0 2).trans rfl
  have c3 := (blk_cell k0 3).trans rfl
  have c4 := (blk_cell k0 4).trans rfl
  have d0 := (blk_cell k1 0).trans rfl
  have d1 := (blk_cell k1 1).trans rfl
  have d2 := (blk_cell k1 2).trans rfl
  have d3 := (blk_cell k1 3).trans rfl
  have d4 := (blk_cell k1 4).trans rfl
  have d5 := (blk_cell k1 5).trans rfl
  have d6 := (blk_cell k1 6).trans rfl
  have HK0 := Lib.hid k0
  have HK1 := Lib.hid k1
  have HK2 := Lib.hid k2
  clear k0 k1 k2 hb3 h
  have n0 : (o0 == 0) = false := by simp; omega
  have n1 : (o0 == 1) = true := by simp; omega
  clear ho
  go_enter Try.func23, Try.ntmps23
  go_upto_region 1 with fail
  clear hbb
  generalize ((w1.alloc _).alloc _).alloc _ = w2 at *
  go_wp2_with fail
  refine (ref_bar H2.out hG (by omega)).mono ?_
  rintro e w3 ⟨x3, rfl, h3, p3⟩
  obtain ⟨A5, q5, A6, q6, rfl⟩ := h3.form
  clear c0 c1 c2 c3 c4 d0 d1 d2 d3 d4 d5 d6
  generalize hDD : barD D = DD at *
  have h4 := h3.box (.cells #[.slice A5 DD.l.length q5, .slice A6 DD.row.length q6, .int .i64 DD.fuse, .bool DD.down, .int .i64 DD.done] 49)
  have k10 := blk_new w3 (.cells #[.slice A5 DD.l.length q5, .slice A6 DD.row.length q6, .int .i64 DD.fuse, .bool DD.down, .int .i64 DD.done] 49)
  have m4 := (Mod.refl [] w3).alloc (.cells #[.slice A5 DD.l.length q5, .slice A6 DD.row.length q6, .int .i64 DD.fuse, .bool DD.down, .int .i64 DD.done] 49)
  have hlt3 := h3.Blt
  have j1 := blk_old (p3.blk HK1.out (.inr (.inr (.inl rfl)))) (.cells #[.slice A5 DD.l.length q5, .slice A6 DD.row.length q6, .int .i64 DD.fuse, .bool DD.down, .int .i64 DD.done] 49)
  have j2 := blk_old (p3.blk HK2.out (.inr (.inr (.inr rfl)))) (.cells #[.slice A5 DD.l.length q5, .slice A6 DD.row.length q6, .int .i64 DD.fuse, .bool DD.down, .int .i64 DD.done] 49)
  have P4 := Lib.hid (show KeepB (BB B bb) w2 (w3.alloc (.cells #[.slice A5 DD.l.length q5, .slice A6 DD.row.length q6, .int .i64 DD.fuse, .bool DD.down, .int .i64 DD.done] 49)) from p3.trans (fun k hk => m4.block k (hlt3 k hk) (by simp)))
  have y0 := (blk_cell k10 0).trans rfl
  have y1 := (blk_cell k10 1).trans rfl
  have y2 := (blk_cell k10 2).trans rfl
  have y3 := (blk_cell k10 3).trans rfl
  have y4 := (blk_cell k10 4).trans rfl
  have J2 := Lib.hid j2
  have HJ10 := Lib.hid k10
  clear j1 j2 k10 p3 h3 m4 hlt3
  go_upto_region 7 with fail
  generalize w3.alloc _ = w4 at *
  generalize w3.heap.size = b10 at *
  have HX := Lib.hid (h4.mod (Mod.refl [] w4).drew).1
  have HXK := Lib.hid (h4.mod (Mod.refl [] w4).drew).2
  refine start_ (n := 7) (S := fun w' => w'.cell? ⟨b10, 0, none⟩ = some (.slice A5 DD.l.length q5) ∧ w'.cell? ⟨b10, 1, none⟩ = some (.slice A6 DD.row.length q6) ∧ w'.cell? ⟨b10, 2, none⟩ = some (.int .i64 DD.fuse) ∧ w'.cell? ⟨b10, 3, none⟩ = some (.bool DD.down) ∧ w'.cell? ⟨b10, 4, none⟩ = some (.int .i64 DD.done)) (ds := [5]) #[false, false, false, false, false, false, false] (by kernel_rfl) rfl rfl ⟨y0, y1, y2, y3, y4⟩ (fun hHeld => ?_)
  refine pure_ (i := 1) (N := some 46) (v := ?_) (a' := ?_) #[false, true, false, false, false, false, false] rfl rfl (by kernel_rfl) (fun _ _ _ h => h) (Or.inl ⟨by rfl, ?_⟩) ?_ ?_
  rotate_left
  · intro w'
    go_simp
    with_reducible rfl
  rotate_left
  · simp only [Act.put, List.setIfInBounds_toArray, List.set_cons_zero, List.set_cons_succ, i64_w, i32_w]
    rfl
  refine pure_ (i := 3) (N := some 48) (v := ?_) (a' := ?_) #[false, true, false, true, false, false, false] rfl rfl (by kernel_rfl) (fun _ _ _ h => h) (Or.inl ⟨by rfl, ?_⟩) ?_ ?_
  rotate_left
  · intro w'
    go_simp
    with_reducible rfl
  rotate_left
  · simp only [Act.put, List.setIfInBounds_toArray, List.set_cons_zero, List.set_cons_succ, i64_w, i32_w]
    rfl
  refine take_ (i := 0) (N := some 45) (v := ?_) (a' := ?_) #[true, true, false, true, false, false, false] rfl rfl (by kernel_rfl) (fun _ _ _ h => h) (Or.inl ⟨by rfl, ?_⟩) hHeld ?_ ?_
  rotate_left
  · rintro w' ⟨s0, s1, s2, s3, s4⟩
    go_simp
    with_reducible rfl
  rotate_left
  · simp only [Act.put, List.setIfInBounds_toArray, List.set_cons_zero, List.set_cons_succ, i64_w, i32_w]
    rfl
  refine one_ (i := 2) (N := some 47) #[true, true, true, true, false, false, false] rfl rfl (by kernel_rfl) (by decide) (fun K hK => ?_)
  refine goes_ Try.func12 (by kernel_rfl) rfl #[.pointer (some ⟨g, 0, none⟩)] (by rfl) rfl rfl (by simp only [List.map_toArray, List.map_cons, List.map_nil]; rfl) ?_
  with_reducible refine (prog_bar HX.out hG (by omega)).mono ?_
  rintro e w5 ⟨rfl, h5, p5⟩
  refine ⟨_, rfl, ?_⟩
  have H5 := Lib.hid h5
  have P5 := Lib.hid p5
  have j10 := p5.blk HJ10.out (.inr rfl)
  have j2 := p5.blk J2.out (.inl (.inr (.inr (.inr rfl))))
  have t0 := (blk_cell j2 0).trans rfl
  have t1 := (blk_cell j2 1).trans rfl
  have t2 := (blk_cell j2 2).trans rfl
  have t3 := (blk_cell j2 3).trans rfl
  have t4 := (blk_cell j2 4).trans rfl
  have g0 := blk_frozen j2 0
  have g1 := blk_frozen j2 1
  have g2 := blk_frozen j2 2
  have g3 := blk_frozen j2 3
  have g4 := blk_frozen j2 4
  have J52 := Lib.hid j2
  clear h5 p5 j2
  generalize barE D = be at *
  refine hK.out _ _ ⟨(blk_cell j10 0).trans rfl, (blk_cell j10 1).trans rfl, (blk_cell j10 2).trans rfl, (blk_cell j10 3).trans rfl, (blk_cell j10 4).trans rfl⟩ (fun hHeld => ?_)
  clear hK K
  refine norm_ (a' := ?_) ?_ ?_
  rotate_left
  · show Act.put _ (some 47) _ = _
    simp only [Act.put, List.setIfInBounds_toArray, List.set_cons_zero, List.set_cons_succ, i64_w, i32_w]
    rfl
  refine pure_ (i := 4) (N := some 49) (v := ?_) (a' := ?_) #[true, true, true, true, true, false, false] rfl rfl (by kernel_rfl) (fun _ _ _ h => h) (Or.inl ⟨by rfl, ?_⟩) ?_ ?_
  rotate_left
  · intro w'
    go_simp
    with_reducible rfl
  rotate_left
  · simp only [Act.put, List.setIfInBounds_toArray, List.set_cons_zero, List.set_cons_succ, i64_w, i32_w]
    rfl
  refine last_ (i := 5) (N := none) #[true, true, true, true, true, true, false] rfl rfl (by kernel_rfl) (by decide) (fun K hK => ?_)
  refine skip_ (w1 := ?_) (by rfl) rfl ?_ ?_
  rotate_left
  · go_simp
    rfl
  refine hK.out _ _ ?_
  clear hK K
  refine pure_ (i := 6) (N := some 7) (v := ?_) (a' := ?_) #[true, true, true, true, true, true, true] rfl rfl (by kernel_rfl) (fun _ _ _ h => h) (Or.inl ⟨by rfl, ?_⟩) ?_ ?_
  rotate_left
  · intro w'
    go_simp
    with_reducible rfl
  rotate_left
  · simp only [Act.put, List.setIfInBounds_toArray, List.set_cons_zero, List.set_cons_succ, i64_w, i32_w]
    rfl
  refine done_ (by kernel_rfl) ?_
  go_wp2
  have P6 := Lib.hid (P4.out.trans (fun k hk => (P5.out k (.inl hk)).trans (HXK.out k (.inl hk))))
  obtain ⟨e1, e2⟩ := step_end HB3.out HBL.out HMD.out (PS.weak H5.out (fun k hk => .inl hk)) P6.out (.slice A5 DD.l.length q5) (.slice A6 DD.row.length q6) (.int .i64 DD.fuse) (.bool DD.down) (.int .i64 DD.done)
  rw [hDD] at e1
  refine bodyPost_ret (results_rowtmp rfl _ _ (bb + 1 + 1) 49 #[.slice A5 DD.l.length q5, .slice A6 DD.row.length q6, .int .i64 DD.fuse, .bool DD.down, .int .i64 DD.done] (0, 0) _ rfl (put5_blk (.slice A5 DD.l.length q5) (.slice A6 DD.row.length q6) (.int .i64 DD.fuse) (.bool DD.down) (.int .i64 DD.done) J52.out) Try.underlying49 rfl (by kernel_rfl)) rfl ⟨_, ?_, e1, e2⟩
  simp
end Go.Proofs.Ytcohfbmfmlmblaa
