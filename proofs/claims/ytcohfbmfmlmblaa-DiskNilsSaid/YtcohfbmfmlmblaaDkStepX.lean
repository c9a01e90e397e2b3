/- A step on both disks, which are not the same: whatever the answers are, both go on. -/
import Derived.Test.YtcohfbmfmlmblaaDkStepC
set_option linter.unusedVariables false
set_option linter.unusedSimpArgs false
namespace Go.Proofs.Ytcohfbmfmlmblaa
open Go.RowKit Go.Proofs.YtcohfbmfmlmblaaW.PrintWords Go.Proofs.Ytcohfbmfmlmblaa.PDiskPlays Go.Proofs.YtcohfbmfmlmblaaW.PrintMore Go.Proofs.YtcohfbmfmlmblaaW.PrintLast
def StepPostX (w w1 : World) (g : Nat) (D' X' : DK) (B : Nat → Prop) (e : Ending) (w' : World) : Prop :=
  ∃ x' t, e = .returned (.tuple #[x', .bool t]) ∧ PS w w' g D' x' X' B ∧ KeepB B w1 w'
set_option maxRecDepth 100000 in
set_option maxHeartbeats 2000000 in
theorem stepx_2 {w w1 : World} {g : Nat} {D X : DK} {x : Value} {b : Nat} {B : Nat → Prop} (h : PS w w1 g D x X B) (hG : Good D b) (hX : Good X b) (hb : b ≤ 900) (o0 o1 o2 o3 o4 o5 : Int) (keep : List Bool) (KA : Option Addr) (kc : Nat) (hk : Kd.C Kd.bool w KA keep.length keep) (hkc : keep.length ≤ kc) (ho : o0 = 2) :
    Calls Try.prog 23 #[.pointer (some ⟨g, 0, none⟩), x, .agg #[.int .i64 o0, .int .i64 o1, .int .i64 o2, .int .i64 o3, .int .i64 o4, .int .u8 o5, .slice KA keep.length kc]] w1 (StepPostX w w1 g (fuseD D o2) (fuseD X o2) B) := by
  obtain ⟨A, c, A', c', rfl⟩ := h.form
  have HB3 := Lib.hid (b3_any w1 #[.slice A X.l.length c, .slice A' X.row.length c', .int .i64 X.fuse, .bool X.down, .int .i64 X.done] #[.int .i64 o0, .int .i64 o1, .int .i64 o2, .int .i64 o3, .int .i64 o4, .int .u8 o5, .slice KA keep.length kc])
  have H2 := Lib.hid (ps_b3 h #[.slice A X.l.length c, .slice A' X.row.length c', .int .i64 X.fuse, .bool X.down, .int .i64 X.done] #[.int .i64 o0, .int .i64 o1, .int .i64 o2, .int .i64 o3, .int .i64 o4, .int .u8 o5, .slice KA keep.length kc])
  have HBL := Lib.hid h.Blt
  have HMD := Lib.hid h.md
  have hb3 := HB3.out
  obtain ⟨bb, hbb⟩ : ∃ q, w1.heap.size = q := ⟨_, rfl⟩
  have k0 := hb3.k0
  have k1 := hb3.k1
  have k2 := hb3.k2
  rw [hbb] at HB3 H2 k0 k1 k2
  have c0 := (blk_cell k0 0).trans rfl
  have c1 := (blk_cell k0 1).trans rfl
  have c2 := (blk_cell k0 2).trans rfl
  have c3 := (blk_cell k0 3).trans rfl
  have c4 := (blk_cell k0 4).trans rfl
  have d0 := (blk_cell k1 0).trans rfl
  have d1 := (blk_cell k1 1).trans rfl
  have d2 := (blk_cell k1 2).trans rfl
  have d3 := (blk_cell k1 3).trans rfl
  have d4 := (blk_cell k1 4).trans rfl
  have d5 := (blk_cell k1 5).trans rfl
  have d6 := (blk_cell k1 6).trans rfl
  have HK0 := Lib.hid k0
  have HK1 := Lib.hid k1
  have HK2 := Lib.hid k2
  clear k0 k1 k2 hb3 h
  have n0 : (o0 == 0) = false := by simp; omega
  have n1 : (o0 == 1) = false := by simp; omega
  have n2 : (o0 == 2) = true := by simp; omega
  clear ho
  go_enter Try.func23, Try.ntmps23
  go_upto_region 1 with fail
  clear hbb
  generalize ((w1.alloc _).alloc _).alloc _ = w2 at *
  go_wp2_with fail
  refine (prog_fuse H2.out o2).mono ?_
  rintro e w3 ⟨⟨v3, rfl⟩, h3, p3⟩
  have H3 := Lib.hid h3
  have P3 := Lib.hid p3
  clear h3 p3
  clear c0 c1 c2 c3 c4 d0 d1 d2 d3 d4 d5 d6
  have j0 := P3.out.blk HK0.out (.inr (.inl rfl))
  have j1 := P3.out.blk HK1.out (.inr (.inr (.inl rfl)))
  have j2 := P3.out.blk HK2.out (.inr (.inr (.inr rfl)))
  have c0 := (blk_cell j0 0).trans rfl
  have c1 := (blk_cell j0 1).trans rfl
  have c2 := (blk_cell j0 2).trans rfl
  have c3 := (blk_cell j0 3).trans rfl
  have c4 := (blk_cell j0 4).trans rfl
  have d0 := (blk_cell j1 0).trans rfl
  have d1 := (blk_cell j1 1).trans rfl
  have d2 := (blk_cell j1 2).trans rfl
  have d3 := (blk_cell j1 3).trans rfl
  have d4 := (blk_cell j1 4).trans rfl
  have d5 := (blk_cell j1 5).trans rfl
  have d6 := (blk_cell j1 6).trans rfl
  have t0 := (blk_cell j2 0).trans rfl
  have t1 := (blk_cell j2 1).trans rfl
  have t2 := (blk_cell j2 2).trans rfl
  have t3 := (blk_cell j2 3).trans rfl
  have t4 := (blk_cell j2 4).trans rfl
  have g0 := blk_frozen j2 0
  have g1 := blk_frozen j2 1
  have g2 := blk_frozen j2 2
  have g3 := blk_frozen j2 3
  have g4 := blk_frozen j2 4
  have J2 := Lib.hid j2
  clear j0 j1 j2
  go_wp2_with fail
  refine (ref_fuse H3.out o2).mono ?_
  rintro e w4 ⟨x4, rfl, h4, p4⟩
  obtain ⟨A5, q5, A6, q6, rfl⟩ := h4.form
  have H4 := Lib.hid h4
  have P4 := Lib.hid (P3.out.trans p4)
  clear h4 p4
  clear c0 c1 c2 c3 c4 d0 d1 d2 d3 d4 d5 d6 t0 t1 t2 t3 t4 g0 g1 g2 g3 g4
  clear J2
  have j0 := P4.out.blk HK0.out (.inr (.inl rfl))
  have j1 := P4.out.blk HK1.out (.inr (.inr (.inl rfl)))
  have j2 := P4.out.blk HK2.out (.inr (.inr (.inr rfl)))
  have c0 := (blk_cell j0 0).trans rfl
  have c1 := (blk_cell j0 1).trans rfl
  have c2 := (blk_cell j0 2).trans rfl
  have c3 := (blk_cell j0 3).trans rfl
  have c4 := (blk_cell j0 4).trans rfl
  have d0 := (blk_cell j1 0).trans rfl
  have d1 := (blk_cell j1 1).trans rfl
  have d2 := (blk_cell j1 2).trans rfl
  have d3 := (blk_cell j1 3).trans rfl
  have d4 := (blk_cell j1 4).trans rfl
  have d5 := (blk_cell j1 5).trans rfl
  have d6 := (blk_cell j1 6).trans rfl
  have t0 := (blk_cell j2 0).trans rfl
  have t1 := (blk_cell j2 1).trans rfl
  have t2 := (blk_cell j2 2).trans rfl
  have t3 := (blk_cell j2 3).trans rfl
  have t4 := (blk_cell j2 4).trans rfl
  have g0 := blk_frozen j2 0
  have g1 := blk_frozen j2 1
  have g2 := blk_frozen j2 2
  have g3 := blk_frozen j2 3
  have g4 := blk_frozen j2 4
  have J2 := Lib.hid j2
  clear j0 j1 j2
  generalize hDD : fuseD X o2 = DD at *
  go_wp2
  obtain ⟨e1, e2⟩ := step_end HB3.out HBL.out HMD.out H4.out P4.out (.slice A5 DD.l.length q5) (.slice A6 DD.row.length q6) (.int .i64 DD.fuse) (.bool DD.down) (.int .i64 DD.done)
  refine bodyPost_ret (results_rowtmp rfl _ _ (bb + 1 + 1) 49 #[.slice A5 DD.l.length q5, .slice A6 DD.row.length q6, .int .i64 DD.fuse, .bool DD.down, .int .i64 DD.done] (0, 0) _ rfl (put5_blk (.slice A5 DD.l.length q5) (.slice A6 DD.row.length q6) (.int .i64 DD.fuse) (.bool DD.down) (.int .i64 DD.done) J2.out) Try.underlying49 rfl (by kernel_rfl)) rfl ⟨_, _, rfl, e1, e2⟩
set_option maxRecDepth 100000 in
set_option maxHeartbeats 2000000 in
theorem stepx_3 {w w1 : World} {g : Nat} {D X : DK} {x : Value} {b : Nat} {B : Nat → Prop} (h : PS w w1 g D x X B) (hG : Good D b) (hX : Good X b) (hb : b ≤ 900) (o0 o1 o2 o3 o4 o5 : Int) (keep : List Bool) (KA : Option Addr) (kc : Nat) (hk : Kd.C Kd.bool w KA keep.length keep) (hkc : keep.length ≤ kc) (ho : o0 = 3) :
    Calls Try.prog 23 #[.pointer (some ⟨g, 0, none⟩), x, .agg #[.int .i64 o0, .int .i64 o1, .int .i64 o2, .int .i64 o3, .int .i64 o4, .int .u8 o5, .slice KA keep.length kc]] w1 (StepPostX w w1 g (failD D keep o3 o2) (failD X keep o3 o2) B) := by
  obtain ⟨A, c, A', c', rfl⟩ := h.form
  have HB3 := Lib.hid (b3_any w1 #[.slice A X.l.length c, .slice A' X.row.length c', .int .i64 X.fuse, .bool X.down, .int .i64 X.done] #[.int .i64 o0, .int .i64 o1, .int .i64 o2, .int .i64 o3, .int .i64 o4, .int .u8 o5, .slice KA keep.length kc])
  have H2 := Lib.hid (ps_b3 h #[.slice A X.l.length c, .slice A' X.row.length c', .int .i64 X.fuse, .bool X.down, .int .i64 X.done] #[.int .i64 o0, .int .i64 o1, .int .i64 o2, .int .i64 o3, .int .i64 o4, .int .u8 o5, .slice KA keep.length kc])
  have HBL := Lib.hid h.Blt
  have HMD := Lib.hid h.md
  have hb3 := HB3.out
  obtain ⟨bb, hbb⟩ : ∃ q, w1.heap.size = q := ⟨_, rfl⟩
  have k0 := hb3.k0
  have k1 := hb3.k1
  have k2 := hb3.k2
  rw [hbb] at HB3 H2 k0 k1 k2
  have c0 := (blk_cell k0 0).trans rfl
  have c1 := (blk_cell k0 1).trans rfl
  have c2 := (blk_cell k0 2).trans rfl
  have c3 := (blk_cell k0 3).trans rfl
  have c4 := (blk_cell k0 4).trans rfl
  have d0 := (blk_cell k1 0).trans rfl
  have d1 := (blk_cell k1 1).trans rfl
  have d2 := (blk_cell k1 2).trans rfl
  have d3 := (blk_cell k1 3).trans rfl
  have d4 := (blk_cell k1 4).trans rfl
  have d5 := (blk_cell k1 5).trans rfl
  have d6 := (blk_cell k1 6).trans rfl
  have HK0 := Lib.hid k0
  have HK1 := Lib.hid k1
  have HK2 := Lib.hid k2
  clear k0 k1 k2 hb3 h
  have n0 : (o0 == 0) = false := by simp; omega
  have n1 : (o0 == 1) = false := by simp; omega
  have n2 : (o0 == 2) = false := by simp; omega
  have n3 : (o0 == 3) = true := by simp; omega
  clear ho
  go_enter Try.func23, Try.ntmps23
  go_upto_region 1 with fail
  clear hbb
  generalize ((w1.alloc _).alloc _).alloc _ = w2 at *
  go_wp2_with fail
  refine (prog_fail H2.out hG (by omega) KA kc keep o3 o2 hk).mono ?_
  rintro e w3 ⟨⟨v3, rfl⟩, h3, p3⟩
  have H3 := Lib.hid h3
  have P3 := Lib.hid p3
  clear h3 p3
  clear c0 c1 c2 c3 c4 d0 d1 d2 d3 d4 d5 d6
  have j0 := P3.out.blk HK0.out (.inr (.inl rfl))
  have j1 := P3.out.blk HK1.out (.inr (.inr (.inl rfl)))
  have j2 := P3.out.blk HK2.out (.inr (.inr (.inr rfl)))
  have c0 := (blk_cell j0 0).trans rfl
  have c1 := (blk_cell j0 1).trans rfl
  have c2 := (blk_cell j0 2).trans rfl
  have c3 := (blk_cell j0 3).trans rfl
  have c4 := (blk_cell j0 4).trans rfl
  have d0 := (blk_cell j1 0).trans rfl
  have d1 := (blk_cell j1 1).trans rfl
  have d2 := (blk_cell j1 2).trans rfl
  have d3 := (blk_cell j1 3).trans rfl
  have d4 := (blk_cell j1 4).trans rfl
  have d5 := (blk_cell j1 5).trans rfl
  have d6 := (blk_cell j1 6).trans rfl
  have t0 := (blk_cell j2 0).trans rfl
  have t1 := (blk_cell j2 1).trans rfl
  have t2 := (blk_cell j2 2).trans rfl
  have t3 := (blk_cell j2 3).trans rfl
  have t4 := (blk_cell j2 4).trans rfl
  have g0 := blk_frozen j2 0
  have g1 := blk_frozen j2 1
  have g2 := blk_frozen j2 2
  have g3 := blk_frozen j2 3
  have g4 := blk_frozen j2 4
  have J2 := Lib.hid j2
  clear j0 j1 j2
  go_wp2_with fail
  refine (ref_fail H3.out hX (by omega) KA kc keep o3 o2 hk).mono ?_
  rintro e w4 ⟨x4, rfl, h4, p4⟩
  obtain ⟨A5, q5, A6, q6, rfl⟩ := h4.form
  have H4 := Lib.hid h4
  have P4 := Lib.hid (P3.out.trans p4)
  clear h4 p4
  clear c0 c1 c2 c3 c4 d0 d1 d2 d3 d4 d5 d6 t0 t1 t2 t3 t4 g0 g1 g2 g3 g4
  clear J2
  have j0 := P4.out.blk HK0.out (.inr (.inl rfl))
  have j1 := P4.out.blk HK1.out (.inr (.inr (.inl rfl)))
  have j2 := P4.out.blk HK2.out (.inr (.inr (.inr rfl)))
  have c0 := (blk_cell j0 0).trans rfl
  have c1 := (blk_cell j0 1).trans rfl
  have c2 := (blk_cell j0 2).trans rfl
  have c3 := (blk_cell j0 3).trans rfl
  have c4 := (blk_cell j0 4).trans rfl
  have d0 := (blk_cell j1 0).trans rfl
  have d1 := (blk_cell j1 1).trans rfl
  have d2 := (blk_cell j1 2).trans rfl
  have d3 := (blk_cell j1 3).trans rfl
  have d4 := (blk_cell j1 4).trans rfl
  have d5 := (blk_cell j1 5).trans rfl
  have d6 := (blk_cell j1 6).trans rfl
  have t0 := (blk_cell j2 0).trans rfl
  have t1 := (blk_cell j2 1).trans rfl
  have t2 := (blk_cell j2 2).trans rfl
  have t3 := (blk_cell j2 3).trans rfl
  have t4 := (blk_cell j2 4).trans rfl
  have g0 := blk_frozen j2 0
  have g1 := blk_frozen j2 1
  have g2 := blk_frozen j2 2
  have g3 := blk_frozen j2 3
  have g4 := blk_frozen j2 4
  have J2 := Lib.hid j2
  clear j0 j1 j2
  generalize hDD : failD X keep o3 o2 = DD at *
  go_wp2
  obtain ⟨e1, e2⟩ := step_end HB3.out HBL.out HMD.out H4.out P4.out (.slice A5 DD.l.length q5) (.slice A6 DD.row.length q6) (.int .i64 DD.fuse) (.bool DD.down) (.int .i64 DD.done)
  refine bodyPost_ret (results_rowtmp rfl _ _ (bb + 1 + 1) 49 #[.slice A5 DD.l.length q5, .slice A6 DD.row.length q6, .int .i64 DD.fuse, .bool DD.down, .int .i64 DD.done] (0, 0) _ rfl (put5_blk (.slice A5 DD.l.length q5) (.slice A6 DD.row.length q6) (.int .i64 DD.fuse) (.bool DD.down) (.int .i64 DD.done) J2.out) Try.underlying49 rfl (by kernel_rfl)) rfl ⟨_, _, rfl, e1, e2⟩
set_option maxRecDepth 100000 in
set_option maxHeartbeats 2000000 in
theorem stepx_4 {w w1 : World} {g : Nat} {D X : DK} {x : Value} {b : Nat} {B : Nat → Prop} (h : PS w w1 g D x X B) (hG : Good D b) (hX : Good X b) (hb : b ≤ 900) (o0 o1 o2 o3 o4 o5 : Int) (keep : List Bool) (KA : Option Addr) (kc : Nat) (hk : Kd.C Kd.bool w KA keep.length keep) (hkc : keep.length ≤ kc) (ho : o0 = 4) :
    Calls Try.prog 23 #[.pointer (some ⟨g, 0, none⟩), x, .agg #[.int .i64 o0, .int .i64 o1, .int .i64 o2, .int .i64 o3, .int .i64 o4, .int .u8 o5, .slice KA keep.length kc]] w1 (StepPostX w w1 g (startD D) (startD X) B) := by
  obtain ⟨A, c, A', c', rfl⟩ := h.form
  have HB3 := Lib.hid (b3_any w1 #[.slice A X.l.length c, .slice A' X.row.length c', .int .i64 X.fuse, .bool X.down, .int .i64 X.done] #[.int .i64 o0, .int .i64 o1, .int .i64 o2, .int .i64 o3, .int .i64 o4, .int .u8 o5, .slice KA keep.length kc])
  have H2 := Lib.hid (ps_b3 h #[.slice A X.l.length c, .slice A' X.row.length c', .int .i64 X.fuse, .bool X.down, .int .i64 X.done] #[.int .i64 o0, .int .i64 o1, .int .i64 o2, .int .i64 o3, .int .i64 o4, .int .u8 o5, .slice KA keep.length kc])
  have HBL := Lib.hid h.Blt
  have HMD := Lib.hid h.md
  have hb3 := HB3.out
  obtain ⟨bb, hbb⟩ : ∃ q, w1.heap.size = q := ⟨_, rfl⟩
  have k0 := hb3.k0
  have k1 := hb3.k1
  have k2 := hb3.k2
  rw [hbb] at HB3 H2 k0 k1 k2
  have c0 := (blk_cell k0 0).trans rfl
  have c1 := (blk_cell k0 1).trans rfl
  have c2 := (blk_cell k0 2).trans rfl
  have c3 := (blk_cell k0 3).trans rfl
  have c4 := (blk_cell k0 4).trans rfl
  have d0 := (blk_cell k1 0).trans rfl
  have d1 := (blk_cell k1 1).trans rfl
  have d2 := (blk_cell k1 2).trans rfl
  have d3 := (blk_cell k1 3).trans rfl
  have d4 := (blk_cell k1 4).trans rfl
  have d5 := (blk_cell k1 5).trans rfl
  have d6 := (blk_cell k1 6).trans rfl
  have HK0 := Lib.hid k0
  have HK1 := Lib.hid k1
  have HK2 := Lib.hid k2
  clear k0 k1 k2 hb3 h
  have n0 : (o0 == 0) = false := by simp; omega
  have n1 : (o0 == 1) = false := by simp; omega
  have n2 : (o0 == 2) = false := by simp; omega
  have n3 : (o0 == 3) = false := by simp; omega
  have n4 : (o0 == 4) = true := by simp; omega
  clear ho
  go_enter Try.func23, Try.ntmps23
  go_upto_region 1 with fail
  clear hbb
  generalize ((w1.alloc _).alloc _).alloc _ = w2 at *
  go_wp2_with fail
  refine (prog_start H2.out).mono ?_
  rintro e w3 ⟨⟨v3, rfl⟩, h3, p3⟩
  have H3 := Lib.hid h3
  have P3 := Lib.hid p3
  clear h3 p3
  clear c0 c1 c2 c3 c4 d0 d1 d2 d3 d4 d5 d6
  have j0 := P3.out.blk HK0.out (.inr (.inl rfl))
  have j1 := P3.out.blk HK1.out (.inr (.inr (.inl rfl)))
  have j2 := P3.out.blk HK2.out (.inr (.inr (.inr rfl)))
  have c0 := (blk_cell j0 0).trans rfl
  have c1 := (blk_cell j0 1).trans rfl
  have c2 := (blk_cell j0 2).trans rfl
  have c3 := (blk_cell j0 3).trans rfl
  have c4 := (blk_cell j0 4).trans rfl
  have d0 := (blk_cell j1 0).trans rfl
  have d1 := (blk_cell j1 1).trans rfl
  have d2 := (blk_cell j1 2).trans rfl
  have d3 := (blk_cell j1 3).trans rfl
  have d4 := (blk_cell j1 4).trans rfl
  have d5 := (blk_cell j1 5).trans rfl
  have d6 := (blk_cell j1 6).trans rfl
  have t0 := (blk_cell j2 0).trans rfl
  have t1 := (blk_cell j2 1).trans rfl
  have t2 := (blk_cell j2 2).trans rfl
  have t3 := (blk_cell j2 3).trans rfl
  have t4 := (blk_cell j2 4).trans rfl
  have g0 := blk_frozen j2 0
  have g1 := blk_frozen j2 1
  have g2 := blk_frozen j2 2
  have g3 := blk_frozen j2 3
  have g4 := blk_frozen j2 4
  have J2 := Lib.hid j2
  clear j0 j1 j2
  go_wp2_with fail
  refine (ref_start H3.out).mono ?_
  rintro e w4 ⟨x4, rfl, h4, p4⟩
  obtain ⟨A5, q5, A6, q6, rfl⟩ := h4.form
  have H4 := Lib.hid h4
  have P4 := Lib.hid (P3.out.trans p4)
  clear h4 p4
  clear c0 c1 c2 c3 c4 d0 d1 d2 d3 d4 d5 d6 t0 t1 t2 t3 t4 g0 g1 g2 g3 g4
  clear J2
  have j0 := P4.out.blk HK0.out (.inr (.inl rfl))
  have j1 := P4.out.blk HK1.out (.inr (.inr (.inl rfl)))
  have j2 := P4.out.blk HK2.out (.inr (.inr (.inr rfl)))
  have c0 := (blk_cell j0 0).trans rfl
  have c1 := (blk_cell j0 1).trans rfl
  have c2 := (blk_cell j0 2).trans rfl
  have c3 := (blk_cell j0 3).trans rfl
  have c4 := (blk_cell j0 4).trans rfl
  have d0 := (blk_cell j1 0).trans rfl
  have d1 := (blk_cell j1 1).trans rfl
  have d2 := (blk_cell j1 2).trans rfl
  have d3 := (blk_cell j1 3).trans rfl
  have d4 := (blk_cell j1 4).trans rfl
  have d5 := (blk_cell j1 5).trans rfl
  have d6 := (blk_cell j1 6).trans rfl
  have t0 := (blk_cell j2 0).trans rfl
  have t1 := (blk_cell j2 1).trans rfl
  have t2 := (blk_cell j2 2).trans rfl
  have t3 := (blk_cell j2 3).trans rfl
  have t4 := (blk_cell j2 4).trans rfl
  have g0 := blk_frozen j2 0
  have g1 := blk_frozen j2 1
  have g2 := blk_frozen j2 2
  have g3 := blk_frozen j2 3
  have g4 := blk_frozen j2 4
  have J2 := Lib.hid j2
  clear j0 j1 j2
  generalize hDD : startD X = DD at *
  go_wp2
  obtain ⟨e1, e2⟩ := step_end HB3.out HBL.out HMD.out H4.out P4.out (.slice A5 DD.l.length q5) (.slice A6 DD.row.length q6) (.int .i64 DD.fuse) (.bool DD.down) (.int .i64 DD.done)
  refine bodyPost_ret (results_rowtmp rfl _ _ (bb + 1 + 1) 49 #[.slice A5 DD.l.length q5, .slice A6 DD.row.length q6, .int .i64 DD.fuse, .bool DD.down, .int .i64 DD.done] (0, 0) _ rfl (put5_blk (.slice A5 DD.l.length q5) (.slice A6 DD.row.length q6) (.int .i64 DD.fuse) (.bool DD.down) (.int .i64 DD.done) J2.out) Try.underlying49 rfl (by kernel_rfl)) rfl ⟨_, _, rfl, e1, e2⟩
set_option maxRecDepth 100000 in
set_option maxHeartbeats 2000000 in
theorem stepx_5 {w w1 : World} {g : Nat} {D X : DK} {x : Value} {b : Nat} {B : Nat → Prop} (h : PS w w1 g D x X B) (hG : Good D b) (hX : Good X b) (hb : b ≤ 900) (o0 o1 o2 o3 o4 o5 : Int) (keep : List Bool) (KA : Option Addr) (kc : Nat) (hk : Kd.C Kd.bool w KA keep.length keep) (hkc : keep.length ≤ kc) (ho : ¬ (o0 = 0 ∨ o0 = 1 ∨ o0 = 2 ∨ o0 = 3 ∨ o0 = 4)) :
    Calls Try.prog 23 #[.pointer (some ⟨g, 0, none⟩), x, .agg #[.int .i64 o0, .int .i64 o1, .int .i64 o2, .int .i64 o3, .int .i64 o4, .int .u8 o5, .slice KA keep.length kc]] w1 (StepPostX w w1 g D X B) := by
  obtain ⟨A, c, A', c', rfl⟩ := h.form
  have HB3 := Lib.hid (b3_any w1 #[.slice A X.l.length c, .slice A' X.row.length c', .int .i64 X.fuse, .bool X.down, .int .i64 X.done] #[.int .i64 o0, .int .i64 o1, .int .i64 o2, .int .i64 o3, .int .i64 o4, .int .u8 o5, .slice KA keep.length kc])
  have H2 := Lib.hid (ps_b3 h #[.slice A X.l.length c, .slice A' X.row.length c', .int .i64 X.fuse, .bool X.down, .int .i64 X.done] #[.int .i64 o0, .int .i64 o1, .int .i64 o2, .int .i64 o3, .int .i64 o4, .int .u8 o5, .slice KA keep.length kc])
  have HBL := Lib.hid h.Blt
  have HMD := Lib.hid h.md
  have hb3 := HB3.out
  obtain ⟨bb, hbb⟩ : ∃ q, w1.heap.size = q := ⟨_, rfl⟩
  have k0 := hb3.k0
  have k1 := hb3.k1
  have k2 := hb3.k2
  rw [hbb] at HB3 H2 k0 k1 k2
  have c0 := (blk_cell k0 0).trans rfl
  have c1 := (blk_cell k0 1).trans rfl
  have c2 := (blk_cell k0 2).trans rfl
  have c3 := (blk_cell k0 3).trans rfl
  have c4 := (blk_cell k0 4).trans rfl
  have d0 := (blk_cell k1 0).trans rfl
  have d1 := (blk_cell k1 1).trans rfl
  have d2 := (blk_cell k1 2).trans rfl
  have d3 := (blk_cell k1 3).trans rfl
  have d4 := (blk_cell k1 4).trans rfl
  have d5 := (blk_cell k1 5).trans rfl
  have d6 := (blk_cell k1 6).trans rfl
  have HK0 := Lib.hid k0
  have HK1 := Lib.hid k1
  have HK2 := Lib.hid k2
  clear k0 k1 k2 hb3 h
  have n0 : (o0 == 0) = false := by simp; omega
  have n1 : (o0 == 1) = false := by simp; omega
  have n2 : (o0 == 2) = false := by simp; omega
  have n3 : (o0 == 3) = false := by simp; omega
  have n4 : (o0 == 4) = false := by simp; omega
  clear ho
  go_enter Try.func23, Try.ntmps23
  go_upto_region 1 with fail
  clear hbb
  generalize ((w1.alloc _).alloc _).alloc _ = w2 at *
  go_wp2_with fail
  refine (prog_read H2.out hG (by omega) o1).mono ?_
  rintro e w3 ⟨rfl, h3, p3⟩
  have H3 := Lib.hid h3
  have P3 := Lib.hid p3
  clear h3 p3
  clear c0 c1 c2 c3 c4 d0 d1 d2 d3 d4 d5 d6
  have j0 := P3.out.blk HK0.out (.inr (.inl rfl))
  have j1 := P3.out.blk HK1.out (.inr (.inr (.inl rfl)))
  have j2 := P3.out.blk HK2.out (.inr (.inr (.inr rfl)))
  have c0 := (blk_cell j0 0).trans rfl
  have c1 := (blk_cell j0 1).trans rfl
  have c2 := (blk_cell j0 2).trans rfl
  have c3 := (blk_cell j0 3).trans rfl
  have c4 := (blk_cell j0 4).trans rfl
  have d0 := (blk_cell j1 0).trans rfl
  have d1 := (blk_cell j1 1).trans rfl
  have d2 := (blk_cell j1 2).trans rfl
  have d3 := (blk_cell j1 3).trans rfl
  have d4 := (blk_cell j1 4).trans rfl
  have d5 := (blk_cell j1 5).trans rfl
  have d6 := (blk_cell j1 6).trans rfl
  have t0 := (blk_cell j2 0).trans rfl
  have t1 := (blk_cell j2 1).trans rfl
  have t2 := (blk_cell j2 2).trans rfl
  have t3 := (blk_cell j2 3).trans rfl
  have t4 := (blk_cell j2 4).trans rfl
  have g0 := blk_frozen j2 0
  have g1 := blk_frozen j2 1
  have g2 := blk_frozen j2 2
  have g3 := blk_frozen j2 3
  have g4 := blk_frozen j2 4
  have J2 := Lib.hid j2
  clear j0 j1 j2
  go_wp2_with fail
  refine (ref_read H3.out hX (by omega) o1).mono ?_
  rintro e w4 ⟨rfl, h4, p4⟩
  have H4 := Lib.hid h4
  have P4 := Lib.hid (P3.out.trans p4)
  clear h4 p4
  clear c0 c1 c2 c3 c4 d0 d1 d2 d3 d4 d5 d6 t0 t1 t2 t3 t4 g0 g1 g2 g3 g4
  clear J2
  have j0 := P4.out.blk HK0.out (.inr (.inl rfl))
  have j1 := P4.out.blk HK1.out (.inr (.inr (.inl rfl)))
  have j2 := P4.out.blk HK2.out (.inr (.inr (.inr rfl)))
  have c0 := (blk_cell j0 0).trans rfl
  have c1 := (blk_cell j0 1).trans rfl
  have c2 := (blk_cell j0 2).trans rfl
  have c3 := (blk_cell j0 3).trans rfl
  have c4 := (blk_cell j0 4).trans rfl
  have d0 := (blk_cell j1 0).trans rfl
  have d1 := (blk_cell j1 1).trans rfl
  have d2 := (blk_cell j1 2).trans rfl
  have d3 := (blk_cell j1 3).trans rfl
  have d4 := (blk_cell j1 4).trans rfl
  have d5 := (blk_cell j1 5).trans rfl
  have d6 := (blk_cell j1 6).trans rfl
  have t0 := (blk_cell j2 0).trans rfl
  have t1 := (blk_cell j2 1).trans rfl
  have t2 := (blk_cell j2 2).trans rfl
  have t3 := (blk_cell j2 3).trans rfl
  have t4 := (blk_cell j2 4).trans rfl
  have g0 := blk_frozen j2 0
  have g1 := blk_frozen j2 1
  have g2 := blk_frozen j2 2
  have g3 := blk_frozen j2 3
  have g4 := blk_frozen j2 4
  have J2 := Lib.hid j2
  clear j0 j1 j2
  generalize readS D o1 = rs at *
  generalize canE D o1 = ce at *
  generalize readS X o1 = rs2 at *
  generalize canE X o1 = ce2 at *
  generalize hDD : X = DD at *
  go_wp2
  all_goals
    obtain ⟨e1, e2⟩ := step_end HB3.out HBL.out HMD.out H4.out P4.out (.slice A DD.l.length c) (.slice A' DD.row.length c') (.int .i64 DD.fuse) (.bool DD.down) (.int .i64 DD.done)
    refine bodyPost_ret (results_rowtmp rfl _ _ (bb + 1 + 1) 49 #[.slice A DD.l.length c, .slice A' DD.row.length c', .int .i64 DD.fuse, .bool DD.down, .int .i64 DD.done] (0, 0) _ rfl (put5_blk (.slice A DD.l.length c) (.slice A' DD.row.length c') (.int .i64 DD.fuse) (.bool DD.down) (.int .i64 DD.done) J2.out) Try.underlying49 rfl (by kernel_rfl)) rfl ⟨_, _, rfl, e1, e2⟩
set_option maxRecDepth 100000 in
set_option maxHeartbeats 2000000 in
theorem stepx_1 {w w1 : World} {g : Nat} {D X : DK} {x : Value} {b : Nat} {B : Nat → Prop} (h : PS w w1 g D x X B) (hG : Good D b) (hX : Good X b) (hb : b ≤ 900) (o0 o1 o2 o3 o4 o5 : Int) (keep : List Bool) (KA : Option Addr) (kc : Nat) (hk : Kd.C Kd.bool w KA keep.length keep) (hkc : keep.length ≤ kc) (ho : o0 = 1) :
    Calls Try.prog 23 #[.pointer (some ⟨g, 0, none⟩), x, .agg #[.int .i64 o0, .int .i64 o1, .int .i64 o2, .int .i64 o3, .int .i64 o4, .int .u8 o5, .slice KA keep.length kc]] w1 (StepPostX w w1 g (barD D) (barD X) B) := by
  obtain ⟨A, c, A', c', rfl⟩ := h.form
  have HB3 := Lib.hid (b3_any w1 #[.slice A X.l.length c, .slice A' X.row.length c', .int .i64 X.fuse, .bool X.down, .int .i64 X.done] #[.int .i64 o0, .int .i64 o1, .int .i64 o2, .int .i64 o3, .int .i64 o4, .int .u8 o5, .slice KA keep.length kc])
  have H2 := Lib.hid (ps_b3 h #[.slice A X.l.length c, .slice A' X.row.length c', .int .i64 X.fuse, .bool X.down, .int .i64 X.done] #[.int .i64 o0, .int .i64 o1, .int .i64 o2, .int .i64 o3, .int .i64 o4, .int .u8 o5, .slice KA keep.length kc])
  have HBL := Lib.hid h.Blt
  have HMD := Lib.hid h.md
  have hb3 := HB3.out
  obtain ⟨bb, hbb⟩ : ∃ q, w1.heap.size = q := ⟨_, rfl⟩
  have k0 := hb3.k0
  have k1 := hb3.k1
  have k2 := hb3.k2
  rw [hbb] at HB3 H2 k0 k1 k2
  have c0 := (blk_cell k0 0).trans rfl
  have c1 := (blk_cell k0 1).trans rfl
  have c2 := (blk_cell k0 2).trans rfl
  have c3 := (blk_cell k0 3).trans rfl
  have c4 := (blk_cell k0 4).trans rfl
  have d0 := (blk_cell k1 0).trans rfl
  have d1 := (blk_cell k1 1).trans rfl
  have d2 := (blk_cell k1 2).trans rfl
  have d3 := (blk_cell k1 3).trans rfl
  have d4 := (blk_cell k1 4).trans rfl
  have d5 := (blk_cell k1 5).trans rfl
  have d6 := (blk_cell k1 6).trans rfl
  have HK0 := Lib.hid k0
  have HK1 := Lib.hid k1
  have HK2 := Lib.hid k2
  clear k0 k1 k2 hb3 h
  have n0 : (o0 == 0) = false := by simp; omega
  have n1 : (o0 == 1) = true := by simp; omega
  clear ho
  go_enter Try.func23, Try.ntmps23
  go_upto_region 1 with fail
  clear hbb
  generalize ((w1.alloc _).alloc _).alloc _ = w2 at *
  go_wp2_with fail
  refine (ref_bar H2.out hX (by omega)).mono ?_
  rintro e w3 ⟨x3, rfl, h3, p3⟩
  obtain ⟨A5, q5, A6, q6, rfl⟩ := h3.form
  clear c0 c1 c2 c3 c4 d0 d1 d2 d3 d4 d5 d6
  generalize hDD : barD X = DD at *
  have h4 := h3.box (.cells #[.slice A5 DD.l.length q5, .slice A6 DD.row.length q6, .int .i64 DD.fuse, .bool DD.down, .int .i64 DD.done] 49)
  have k10 := blk_new w3 (.cells #[.slice A5 DD.l.length q5, .slice A6 DD.row.length q6, .int .i64 DD.fuse, .bool DD.down, .int .i64 DD.done] 49)
  have m4 := (Mod.refl [] w3).alloc (.cells #[.slice A5 DD.l.length q5, .slice A6 DD.row.length q6, .int .i64 DD.fuse, .bool DD.down, .int .i64 DD.done] 49)
  have hlt3 := h3.Blt
  have j1 := blk_old (p3.blk HK1.out (.inr (.inr (.inl rfl)))) (.cells #[.slice A5 DD.l.length q5, .slice A6 DD.row.length q6, .int .i64 DD.fuse, .bool DD.down, .int .i64 DD.done] 49)
  have j2 := blk_old (p3.blk HK2.out (.inr (.inr (.inr rfl)))) (.cells #[.slice A5 DD.l.length q5, .slice A6 DD.row.length q6, .int .i64 DD.fuse, .bool DD.down, .int .i64 DD.done] 49)
  have P4 := Lib.hid (show KeepB (BB B bb) w2 (w3.alloc (.cells #[.slice A5 DD.l.length q5, .slice A6 DD.row.length q6, .int .i64 DD.fuse, .bool DD.down, .int .i64 DD.done] 49)) from p3.trans (fun k hk => m4.block k (hlt3 k hk) (by simp)))
  have y0 := (blk_cell k10 0).trans rfl
  have y1 := (blk_cell k10 1).trans rfl
  have y2 := (blk_cell k10 2).trans rfl
  have y3 := (blk_cell k10 3).trans rfl
  have y4 := (blk_cell k10 4).trans rfl
  have J2 := Lib.hid j2
  have HJ10 := Lib.hid k10
  clear j1 j2 k10 p3 h3 m4 hlt3
  generalize barE X = be2 at *
  go_upto_region 7 with fail
  generalize w3.alloc _ = w4 at *
  generalize w3.heap.size = b10 at *
  have HX := Lib.hid (h4.mod (Mod.refl [] w4).drew).1
  have HXK := Lib.hid (h4.mod (Mod.refl [] w4).drew).2
  refine start_ (n := 7) (S := fun w' => w'.cell? ⟨b10, 0, none⟩ = some (.slice A5 DD.l.length q5) ∧ w'.cell? ⟨b10, 1, none⟩ = some (.slice A6 DD.row.length q6) ∧ w'.cell? ⟨b10, 2, none⟩ = some (.int .i64 DD.fuse) ∧ w'.cell? ⟨b10, 3, none⟩ = some (.bool DD.down) ∧ w'.cell? ⟨b10, 4, none⟩ = some (.int .i64 DD.done)) (ds := [5]) #[false, false, false, false, false, false, false] (by kernel_rfl) rfl rfl ⟨y0, y1, y2, y3, y4⟩ (fun hHeld => ?_)
  refine pure_ (i := 1) (N := some 46) (v := ?_) (a' := ?_) #[false, true, false, false, false, false, false] rfl rfl (by kernel_rfl) (fun _ _ _ h => h) (Or.inl ⟨by rfl, ?_⟩) ?_ ?_
  rotate_left
  · intro w'
    go_simp
    with_reducible rfl
  rotate_left
  · simp only [Act.put, List.setIfInBounds_toArray, List.set_cons_zero, List.set_cons_succ, i64_w, i32_w]
    rfl
  refine pure_ (i := 3) (N := some 48) (v := ?_) (a' := ?_) #[false, true, false, true, false, false, false] rfl rfl (by kernel_rfl) (fun _ _ _ h => h) (Or.inl ⟨by rfl, ?_⟩) ?_ ?_
  rotate_left
  · intro w'
    go_simp
    with_reducible rfl
  rotate_left
  · simp only [Act.put, List.setIfInBounds_toArray, List.set_cons_zero, List.set_cons_succ, i64_w, i32_w]
    rfl
  refine take_ (i := 0) (N := some 45) (v := ?_) (a' := ?_) #[true, true, false, true, false, false, false] rfl rfl (by kernel_rfl) (fun _ _ _ h => h) (Or.inl ⟨by rfl, ?_⟩) hHeld ?_ ?_
  rotate_left
  · rintro w' ⟨s0, s1, s2, s3, s4⟩
    go_simp
    with_reducible rfl
  rotate_left
  · simp only [Act.put, List.setIfInBounds_toArray, List.set_cons_zero, List.set_cons_succ, i64_w, i32_w]
    rfl
  refine one_ (i := 2) (N := some 47) #[true, true, true, true, false, false, false] rfl rfl (by kernel_rfl) (by decide) (fun K hK => ?_)
  refine goes_ Try.func12 (by kernel_rfl) rfl #[.pointer (some ⟨g, 0, none⟩)] (by rfl) rfl rfl (by simp only [List.map_toArray, List.map_cons, List.map_nil]; rfl) ?_
  with_reducible refine (prog_bar HX.out hG (by omega)).mono ?_
  rintro e w5 ⟨rfl, h5, p5⟩
  refine ⟨_, rfl, ?_⟩
  have H5 := Lib.hid h5
  have P5 := Lib.hid p5
  have j10 := p5.blk HJ10.out (.inr rfl)
  have j2 := p5.blk J2.out (.inl (.inr (.inr (.inr rfl))))
  have t0 := (blk_cell j2 0).trans rfl
  have t1 := (blk_cell j2 1).trans rfl
  have t2 := (blk_cell j2 2).trans rfl
  have t3 := (blk_cell j2 3).trans rfl
  have t4 := (blk_cell j2 4).trans rfl
  have g0 := blk_frozen j2 0
  have g1 := blk_frozen j2 1
  have g2 := blk_frozen j2 2
  have g3 := blk_frozen j2 3
  have g4 := blk_frozen j2 4
  have J52 := Lib.hid j2
  clear h5 p5 j2
  generalize barE D = be at *
  refine hK.out _ _ ⟨(blk_cell j10 0).trans rfl, (blk_cell j10 1).trans rfl, (blk_cell j10 2).trans rfl, (blk_cell j10 3).trans rfl, (blk_cell j10 4).trans rfl⟩ (fun hHeld => ?_)
  clear hK K
  refine norm_ (a' := ?_) ?_ ?_
  rotate_left
  · show Act.put _ (some 47) _ = _
    simp only [Act.put, List.setIfInBounds_toArray, List.set_cons_zero, List.set_cons_succ, i64_w, i32_w]
    rfl
  refine pure_ (i := 4) (N := some 49) (v := ?_) (a' := ?_) #[true, true, true, true, true, false, false] rfl rfl (by kernel_rfl) (fun _ _ _ h => h) (Or.inl ⟨by rfl, ?_⟩) ?_ ?_
  rotate_left
  · intro w'
    go_simp
    with_reducible rfl
  rotate_left
  · simp only [Act.put, List.setIfInBounds_toArray, List.set_cons_zero, List.set_cons_succ, i64_w, i32_w]
    rfl
  refine last_ (i := 5) (N := none) #[true, true, true, true, true, true, false] rfl rfl (by kernel_rfl) (by decide) (fun K hK => ?_)
  refine skip_ (w1 := ?_) (by rfl) rfl ?_ ?_
  rotate_left
  · go_simp
    rfl
  refine hK.out _ _ ?_
  clear hK K
  refine pure_ (i := 6) (N := some 7) (v := ?_) (a' := ?_) #[true, true, true, true, true, true, true] rfl rfl (by kernel_rfl) (fun _ _ _ h => h) (Or.inl ⟨by rfl, ?_⟩) ?_ ?_
  rotate_left
  · intro w'
    go_simp
    with_reducible rfl
  rotate_left
  · simp only [Act.put, List.setIfInBounds_toArray, List.set_cons_zero, List.set_cons_succ, i64_w, i32_w]
    rfl
  refine done_ (by kernel_rfl) ?_
  go_wp2
  have P6 := Lib.hid (P4.out.trans (fun k hk => (P5.out k (.inl hk)).trans (HXK.out k (.inl hk))))
  obtain ⟨e1, e2⟩ := step_end HB3.out HBL.out HMD.out (PS.weak H5.out (fun k hk => .inl hk)) P6.out (.slice A5 DD.l.length q5) (.slice A6 DD.row.length q6) (.int .i64 DD.fuse) (.bool DD.down) (.int .i64 DD.done)
  refine bodyPost_ret (results_rowtmp rfl _ _ (bb + 1 + 1) 49 #[.slice A5 DD.l.length q5, .slice A6 DD.row.length q6, .int .i64 DD.fuse, .bool DD.down, .int .i64 DD.done] (0, 0) _ rfl (put5_blk (.slice A5 DD.l.length q5) (.slice A6 DD.row.length q6) (.int .i64 DD.fuse) (.bool DD.down) (.int .i64 DD.done) J52.out) Try.underlying49 rfl (by kernel_rfl)) rfl ⟨_, _, rfl, e1, e2⟩
set_option maxRecDepth 100000 in
set_option maxHeartbeats 2000000 in
theorem stepx_0 {w w1 : World} {g : Nat} {D X : DK} {x : Value} {b : Nat} {B : Nat → Prop} (h : PS w w1 g D x X B) (hG : Good D b) (hX : Good X b) (hb : b ≤ 900) (o0 o1 o2 o3 o4 o5 : Int) (keep : List Bool) (KA : Option Addr) (kc : Nat) (hk : Kd.C Kd.bool w KA keep.length keep) (hkc : keep.length ≤ kc) (ho : o0 = 0) :
    Calls Try.prog 23 #[.pointer (some ⟨g, 0, none⟩), x, .agg #[.int .i64 o0, .int .i64 o1, .int .i64 o2, .int .i64 o3, .int .i64 o4, .int .u8 o5, .slice KA keep.length kc]] w1 (StepPostX w w1 g (writeD D o1 (FIL o4 o5)) (writeD X o1 (FIL o4 o5)) B) := by
  obtain ⟨A, c, A', c', rfl⟩ := h.form
  have HB3 := Lib.hid (b3_any w1 #[.slice A X.l.length c, .slice A' X.row.length c', .int .i64 X.fuse, .bool X.down, .int .i64 X.done] #[.int .i64 o0, .int .i64 o1, .int .i64 o2, .int .i64 o3, .int .i64 o4, .int .u8 o5, .slice KA keep.length kc])
  have H2 := Lib.hid (ps_b3 h #[.slice A X.l.length c, .slice A' X.row.length c', .int .i64 X.fuse, .bool X.down, .int .i64 X.done] #[.int .i64 o0, .int .i64 o1, .int .i64 o2, .int .i64 o3, .int .i64 o4, .int .u8 o5, .slice KA keep.length kc])
  have HBL := Lib.hid h.Blt
  have HMD := Lib.hid h.md
  have hb3 := HB3.out
  obtain ⟨bb, hbb⟩ : ∃ q, w1.heap.size = q := ⟨_, rfl⟩
  have k0 := hb3.k0
  have k1 := hb3.k1
  have k2 := hb3.k2
  rw [hbb] at HB3 H2 k0 k1 k2
  have c0 := (blk_cell k0 0).trans rfl
  have c1 := (blk_cell k0 1).trans rfl
  have c2 := (blk_cell k0 2).trans rfl
  have c3 := (blk_cell k0 3).trans rfl
  have c4 := (blk_cell k0 4).trans rfl
  have d0 := (blk_cell k1 0).trans rfl
  have d1 := (blk_cell k1 1).trans rfl
  have d2 := (blk_cell k1 2).trans rfl
  have d3 := (blk_cell k1 3).trans rfl
  have d4 := (blk_cell k1 4).trans rfl
  have d5 := (blk_cell k1 5).trans rfl
  have d6 := (blk_cell k1 6).trans rfl
  have HK0 := Lib.hid k0
  have HK1 := Lib.hid k1
  have HK2 := Lib.hid k2
  clear k0 k1 k2 hb3 h
  have n0 : (o0 == 0) = true := by simp; omega
  clear ho
  go_enter Try.func23, Try.ntmps23
  go_upto_region 1 with fail
  clear hbb
  generalize ((w1.alloc _).alloc _).alloc _ = w2 at *
  go_upto_region 3 with fail
  generalize hDD : writeD X o1 (FIL o4 o5) = DD at *
  clear c0 c1 c2 c3 c4 d0 d1 d2 d3 d4 d5 d6
  go_cut [8, 9] (fun t8 t9 wx => ∃ b8 A5 q5 A6 q6, t8 = .pointer (some ⟨b8, 0, none⟩) ∧ t9 = .int .i64 (writeE X o1 (FIL o4 o5)) ∧ wx.heap[b8]? = some (.cells #[.slice A5 DD.l.length q5, .slice A6 DD.row.length q6, .int .i64 DD.fuse, .bool DD.down, .int .i64 DD.done] 49 (0, 0)) ∧ PS w wx g D (.agg #[.slice A5 DD.l.length q5, .slice A6 DD.row.length q6, .int .i64 DD.fuse, .bool DD.down, .int .i64 DD.done]) DD (fun k => BB B bb k ∨ k = b8) ∧ KeepB (BB B bb) w2 wx)
  case first =>
    have E0 : ∀ w' : World, S3 bb #[.slice A X.l.length c, .slice A' X.row.length c', .int .i64 X.fuse, .bool X.down, .int .i64 X.done] #[.int .i64 o0, .int .i64 o1, .int .i64 o2, .int .i64 o3, .int .i64 o4, .int .u8 o5, .slice KA keep.length kc] w' → w'.cell? ⟨bb, 0, none⟩ = some (.slice A X.l.length c) := fun w' h => (blk_cell h.1 0).trans rfl
    have E1 : ∀ w' : World, S3 bb #[.slice A X.l.length c, .slice A' X.row.length c', .int .i64 X.fuse, .bool X.down, .int .i64 X.done] #[.int .i64 o0, .int .i64 o1, .int .i64 o2, .int .i64 o3, .int .i64 o4, .int .u8 o5, .slice KA keep.length kc] w' → w'.cell? ⟨bb, 1, none⟩ = some (.slice A' X.row.length c') := fun w' h => (blk_cell h.1 1).trans rfl
    have E2 : ∀ w' : World, S3 bb #[.slice A X.l.length c, .slice A' X.row.length c', .int .i64 X.fuse, .bool X.down, .int .i64 X.done] #[.int .i64 o0, .int .i64 o1, .int .i64 o2, .int .i64 o3, .int .i64 o4, .int .u8 o5, .slice KA keep.length kc] w' → w'.cell? ⟨bb, 2, none⟩ = some (.int .i64 X.fuse) := fun w' h => (blk_cell h.1 2).trans rfl
    have E3 : ∀ w' : World, S3 bb #[.slice A X.l.length c, .slice A' X.row.length c', .int .i64 X.fuse, .bool X.down, .int .i64 X.done] #[.int .i64 o0, .int .i64 o1, .int .i64 o2, .int .i64 o3, .int .i64 o4, .int .u8 o5, .slice KA keep.length kc] w' → w'.cell? ⟨bb, 3, none⟩ = some (.bool X.down) := fun w' h => (blk_cell h.1 3).trans rfl
    have E4 : ∀ w' : World, S3 bb #[.slice A X.l.length c, .slice A' X.row.length c', .int .i64 X.fuse, .bool X.down, .int .i64 X.done] #[.int .i64 o0, .int .i64 o1, .int .i64 o2, .int .i64 o3, .int .i64 o4, .int .u8 o5, .slice KA keep.length kc] w' → w'.cell? ⟨bb, 4, none⟩ = some (.int .i64 X.done) := fun w' h => (blk_cell h.1 4).trans rfl
    have F0 : ∀ w' : World, S3 bb #[.slice A X.l.length c, .slice A' X.row.length c', .int .i64 X.fuse, .bool X.down, .int .i64 X.done] #[.int .i64 o0, .int .i64 o1, .int .i64 o2, .int .i64 o3, .int .i64 o4, .int .u8 o5, .slice KA keep.length kc] w' → w'.cell? ⟨bb + 1, 0, none⟩ = some (.int .i64 o0) := fun w' h => (blk_cell h.2 0).trans rfl
    have F1 : ∀ w' : World, S3 bb #[.slice A X.l.length c, .slice A' X.row.length c', .int .i64 X.fuse, .bool X.down, .int .i64 X.done] #[.int .i64 o0, .int .i64 o1, .int .i64 o2, .int .i64 o3, .int .i64 o4, .int .u8 o5, .slice KA keep.length kc] w' → w'.cell? ⟨bb + 1, 1, none⟩ = some (.int .i64 o1) := fun w' h => (blk_cell h.2 1).trans rfl
    have F2 : ∀ w' : World, S3 bb #[.slice A X.l.length c, .slice A' X.row.length c', .int .i64 X.fuse, .bool X.down, .int .i64 X.done] #[.int .i64 o0, .int .i64 o1, .int .i64 o2, .int .i64 o3, .int .i64 o4, .int .u8 o5, .slice KA keep.length kc] w' → w'.cell? ⟨bb + 1, 2, none⟩ = some (.int .i64 o2) := fun w' h => (blk_cell h.2 2).trans rfl
    have F3 : ∀ w' : World, S3 bb #[.slice A X.l.length c, .slice A' X.row.length c', .int .i64 X.fuse, .bool X.down, .int .i64 X.done] #[.int .i64 o0, .int .i64 o1, .int .i64 o2, .int .i64 o3, .int .i64 o4, .int .u8 o5, .slice KA keep.length kc] w' → w'.cell? ⟨bb + 1, 3, none⟩ = some (.int .i64 o3) := fun w' h => (blk_cell h.2 3).trans rfl
    have F4 : ∀ w' : World, S3 bb #[.slice A X.l.length c, .slice A' X.row.length c', .int .i64 X.fuse, .bool X.down, .int .i64 X.done] #[.int .i64 o0, .int .i64 o1, .int .i64 o2, .int .i64 o3, .int .i64 o4, .int .u8 o5, .slice KA keep.length kc] w' → w'.cell? ⟨bb + 1, 4, none⟩ = some (.int .i64 o4) := fun w' h => (blk_cell h.2 4).trans rfl
    have F5 : ∀ w' : World, S3 bb #[.slice A X.l.length c, .slice A' X.row.length c', .int .i64 X.fuse, .bool X.down, .int .i64 X.done] #[.int .i64 o0, .int .i64 o1, .int .i64 o2, .int .i64 o3, .int .i64 o4, .int .u8 o5, .slice KA keep.length kc] w' → w'.cell? ⟨bb + 1, 5, none⟩ = some (.int .u8 o5) := fun w' h => (blk_cell h.2 5).trans rfl
    have F6 : ∀ w' : World, S3 bb #[.slice A X.l.length c, .slice A' X.row.length c', .int .i64 X.fuse, .bool X.down, .int .i64 X.done] #[.int .i64 o0, .int .i64 o1, .int .i64 o2, .int .i64 o3, .int .i64 o4, .int .u8 o5, .slice KA keep.length kc] w' → w'.cell? ⟨bb + 1, 6, none⟩ = some (.slice KA keep.length kc) := fun w' h => (blk_cell h.2 6).trans rfl
    have HA := Lib.hid (H2.out.mod (Mod.refl [] w2).drew).1
    have KA0 := Lib.hid (H2.out.mod (Mod.refl [] w2).drew).2
    have s0 : S3 bb #[.slice A X.l.length c, .slice A' X.row.length c', .int .i64 X.fuse, .bool X.down, .int .i64 X.done] #[.int .i64 o0, .int .i64 o1, .int .i64 o2, .int .i64 o3, .int .i64 o4, .int .u8 o5, .slice KA keep.length kc] w2.drew := ⟨HK0.out, HK1.out⟩
    have HZ2 := Lib.hid HB3.out.sz
    have hz2 : bb + 3 ≤ w2.heap.size := Nat.le_of_eq HB3.out.sz.symm
    have hz1 := HMD.out.size
    have hbw := HB3.out.hb
    have hBB := BB_lt (B := B) (bb := bb) (fun k hk => by have := HBL.out k hk; omega)
    have HDD := Lib.hid hDD
    clear hDD
    have s00 : S3 bb #[.slice A X.l.length c, .slice A' X.row.length c', .int .i64 X.fuse, .bool X.down, .int .i64 X.done] #[.int .i64 o0, .int .i64 o1, .int .i64 o2, .int .i64 o3, .int .i64 o4, .int .u8 o5, .slice KA keep.length kc] w2 := ⟨HK0.out, HK1.out⟩
    have HAB := Lib.hid ((H2.out.box (.cells #[.slice none 0 0, .slice none 0 0, .int .i64 0, .bool false, .int .i64 0] 49)).mod (Mod.refl [] _).drew).1
    have X80 := Lib.hid (show ((w2.alloc (.cells #[.slice none 0 0, .slice none 0 0, .int .i64 0, .bool false, .int .i64 0] 49)).drew).heap[w2.heap.size]? = some (.cells #[.slice none 0 0, .slice none 0 0, .int .i64 0, .bool false, .int .i64 0] 49 (0, 0)) from blk_new w2 _)
    have KAB := Lib.hid (show KeepB (BB B bb) w2 ((w2.alloc (.cells #[.slice none 0 0, .slice none 0 0, .int .i64 0, .bool false, .int .i64 0] 49)).drew) from KeepB.box (fun k hk' => Nat.lt_of_lt_of_le (hBB k hk') hz2) (.cells #[.slice none 0 0, .slice none 0 0, .int .i64 0, .bool false, .int .i64 0] 49))
    go_region_held3 (fun w' => S3 bb #[.slice A X.l.length c, .slice A' X.row.length c', .int .i64 X.fuse, .bool X.down, .int .i64 X.done] #[.int .i64 o0, .int .i64 o1, .int .i64 o2, .int .i64 o3, .int .i64 o4, .int .u8 o5, .slice KA keep.length kc] w') (first | with_reducible exact s0 | with_reducible assumption | with_reducible exact S3.boxD s00 _ | with_reducible exact S3.box (by with_reducible assumption) _ | with_reducible exact S3.put (by with_reducible assumption) (by first | omega | (simp; omega)) _ _ _ _ _)
      (first
        | (go_at_call 15; first
            | (refine (filled_any o0 o1 o2 o3 o4 o5 KA kc keep _ (Kd.C_below hk HA.out.md.below0) hkc).mono ?_; rintro e w3 ⟨rfl, hm3⟩; have h3 := (HA.out.mod hm3).1; have k3 := KA0.out.trans (HA.out.mod hm3).2; have s3 := S3.mod s0 hm3; have z3 : bb + 3 ≤ w3.heap.size := Nat.le_trans hz2 hm3.size)
            | (refine (filled_any o0 o1 o2 o3 o4 o5 KA kc keep _ (Kd.C_below hk HAB.out.md.below0) hkc).mono ?_; rintro e w3 ⟨rfl, hm3⟩; have h3 := (HAB.out.mod hm3).1; have k3 := KAB.out.trans (fun k hk' => (HAB.out.mod hm3).2 k (.inl hk')); have s3 := S3.mod (S3.boxD s00 _) hm3; have x8 := hm3.blk X80.out (by simp); have z3 : bb + 3 ≤ w3.heap.size := Nat.le_trans hz2 (Nat.le_trans (by simp) hm3.size)))
        | (go_at_call 32; first
            | (refine (ref_put h3 hX (by omega) o1 (FIL o4 o5)).mono ?_; rintro e w4 ⟨x4, rfl, h4, p4⟩; obtain ⟨A5, q5, A6, q6, rfl⟩ := h4.form; (first | (have k4 := k3.trans p4; have s4 := S3.keepB s3 p4 (.inr (.inl rfl)) (.inr (.inr (.inl rfl)))) | (have k4 := k3.trans (fun k hk' => p4 k (.inl hk')); have s4 := S3.keepB s3 p4 (.inl (.inr (.inl rfl))) (.inl (.inr (.inr (.inl rfl)))); have x8 := p4.blk x8 (.inr rfl); have y0 := (blk_cell x8 0).trans rfl; have y1 := (blk_cell x8 1).trans rfl; have y2 := (blk_cell x8 2).trans rfl; have y3 := (blk_cell x8 3).trans rfl; have y4 := (blk_cell x8 4).trans rfl; have r0 := blk_frozen x8 0; have r1 := blk_frozen x8 1; have r2 := blk_frozen x8 2; have r3 := blk_frozen x8 3; have r4 := blk_frozen x8 4)); have z4 : bb + 3 ≤ w4.heap.size := Nat.le_of_lt_succ (Nat.lt_succ_of_le (Nat.le_of_not_lt (fun hh => by have := h4.Blt (bb + 1 + 1) (by first | exact .inr (.inr (.inr rfl)) | exact .inl (.inr (.inr (.inr rfl)))); omega))))
            | (refine (ref_put (h3.box (.cells #[.slice none 0 0, .slice none 0 0, .int .i64 0, .bool false, .int .i64 0] 49)) hX (by omega) o1 (FIL o4 o5)).mono ?_; rintro e w4 ⟨x4, rfl, h4, p4⟩; obtain ⟨A5, q5, A6, q6, rfl⟩ := h4.form; have k4 := (k3.trans (KeepB.box (fun k hk' => Nat.lt_of_lt_of_le (hBB k hk') z3) (.cells #[.slice none 0 0, .slice none 0 0, .int .i64 0, .bool false, .int .i64 0] 49))).trans (fun k hk' => p4 k (.inl hk')); have s4 := S3.keepB (S3.box s3 (.cells #[.slice none 0 0, .slice none 0 0, .int .i64 0, .bool false, .int .i64 0] 49)) p4 (.inl (.inr (.inl rfl))) (.inl (.inr (.inr (.inl rfl)))); have x8 := p4.blk (blk_new w3 (.cells #[.slice none 0 0, .slice none 0 0, .int .i64 0, .bool false, .int .i64 0] 49)) (.inr rfl); have y0 := (blk_cell x8 0).trans rfl; have y1 := (blk_cell x8 1).trans rfl; have y2 := (blk_cell x8 2).trans rfl; have y3 := (blk_cell x8 3).trans rfl; have y4 := (blk_cell x8 4).trans rfl; have r0 := blk_frozen x8 0; have r1 := blk_frozen x8 1; have r2 := blk_frozen x8 2; have r3 := blk_frozen x8 3; have r4 := blk_frozen x8 4; have z4 : bb + 3 ≤ w4.heap.size := Nat.le_of_not_lt (fun hh => by have := h4.Blt (bb + 1 + 1) (.inl (.inr (.inr (.inr rfl)))); omega))))
    all_goals
      have hd := HDD.out
      subst hd
      go_wp2
      go_meet
      first
        | (obtain ⟨l1, l2, l3⟩ := leaf3 h4 x8 k4 (by omega) hBB (by omega) (.slice A5 (writeD X o1 (FIL o4 o5)).l.length q5) (.slice A6 (writeD X o1 (FIL o4 o5)).row.length q6) (.int .i64 (writeD X o1 (FIL o4 o5)).fuse) (.bool (writeD X o1 (FIL o4 o5)).down) (.int .i64 (writeD X o1 (FIL o4 o5)).done); exact ⟨_, A5, q5, A6, q6, rfl, rfl, l1, l2, l3⟩)
        | (exact ⟨_, A5, q5, A6, q6, rfl, rfl, blk_new _ _, h4.box _, k4.trans (KeepB.box (fun k hk' => Nat.lt_of_lt_of_le (hBB k hk') z4) _)⟩)
        | (obtain ⟨l1, l2, l3⟩ := leaf3 (h4.box (.cells #[.slice none 0 0, .slice none 0 0, .int .i64 0, .bool false, .int .i64 0] 49)) (blk_new w4 _) (k4.trans (KeepB.box (fun k hk' => Nat.lt_of_lt_of_le (hBB k hk') z4) _)) z4 hBB (by omega) (.slice A5 (writeD X o1 (FIL o4 o5)).l.length q5) (.slice A6 (writeD X o1 (FIL o4 o5)).row.length q6) (.int .i64 (writeD X o1 (FIL o4 o5)).fuse) (.bool (writeD X o1 (FIL o4 o5)).down) (.int .i64 (writeD X o1 (FIL o4 o5)).done); exact ⟨_, A5, q5, A6, q6, rfl, rfl, l1, l2, l3⟩)
  case rest =>
    obtain ⟨b8, A5, q5, A6, q6, rfl, rfl, k8, hP, hKB⟩ := hcut
    have k1 := hKB.blk HK1.out (.inr (.inr (.inl rfl)))
    have k2 := hKB.blk HK2.out (.inr (.inr (.inr rfl)))
    have y0 := (blk_cell k8 0).trans rfl
    have y1 := (blk_cell k8 1).trans rfl
    have y2 := (blk_cell k8 2).trans rfl
    have y3 := (blk_cell k8 3).trans rfl
    have y4 := (blk_cell k8 4).trans rfl
    have z0 := (blk_cell k1 0).trans rfl
    have z1 := (blk_cell k1 1).trans rfl
    have z2 := (blk_cell k1 2).trans rfl
    have z3 := (blk_cell k1 3).trans rfl
    have z4 := (blk_cell k1 4).trans rfl
    have z5 := (blk_cell k1 5).trans rfl
    have z6 := (blk_cell k1 6).trans rfl
    have J1 := Lib.hid k1
    have J2 := Lib.hid k2
    have HJ8 := Lib.hid k8
    have HKB := Lib.hid hKB
    have HPS := Lib.hid hP
    clear k8 k1 k2 hP hKB
    generalize writeE X o1 (FIL o4 o5) = we2 at *
    go_upto_region 4 with fail
    have HX := Lib.hid (HPS.out.mod (Mod.refl [] wc).drew).1
    have HXK := Lib.hid (HPS.out.mod (Mod.refl [] wc).drew).2
    refine start_ (n := 11) (S := fun w' => w'.cell? ⟨b8, 0, none⟩ = some (.slice A5 DD.l.length q5) ∧ w'.cell? ⟨b8, 1, none⟩ = some (.slice A6 DD.row.length q6) ∧ w'.cell? ⟨b8, 2, none⟩ = some (.int .i64 DD.fuse) ∧ w'.cell? ⟨b8, 3, none⟩ = some (.bool DD.down) ∧ w'.cell? ⟨b8, 4, none⟩ = some (.int .i64 DD.done) ∧ w'.cell? ⟨bb + 1, 0, none⟩ = some (.int .i64 o0) ∧ w'.cell? ⟨bb + 1, 1, none⟩ = some (.int .i64 o1) ∧ w'.cell? ⟨bb + 1, 2, none⟩ = some (.int .i64 o2) ∧ w'.cell? ⟨bb + 1, 3, none⟩ = some (.int .i64 o3) ∧ w'.cell? ⟨bb + 1, 4, none⟩ = some (.int .i64 o4) ∧ w'.cell? ⟨bb + 1, 5, none⟩ = some (.int .u8 o5) ∧ w'.cell? ⟨bb + 1, 6, none⟩ = some (.slice KA keep.length kc)) (ds := [9]) #[false, false, false, false, false, false, false, false, false, false, false] (by kernel_rfl) rfl rfl ⟨y0, y1, y2, y3, y4, z0, z1, z2, z3, z4, z5, z6⟩ (fun hHeld => ?_)
    refine pure_ (i := 1) (N := some 30) (v := ?_) (a' := ?_) #[false, true, false, false, false, false, false, false, false, false, false] rfl rfl (by kernel_rfl) (fun _ _ _ h => h) (Or.inl ⟨by rfl, ?_⟩) ?_ ?_
    rotate_left
    · intro w'
      go_simp
      with_reducible rfl
    rotate_left
    · simp only [Act.put, List.setIfInBounds_toArray, List.set_cons_zero, List.set_cons_succ, i64_w, i32_w]
      rfl
    refine pure_ (i := 2) (N := some 31) (v := ?_) (a' := ?_) #[false, true, true, false, false, false, false, false, false, false, false] rfl rfl (by kernel_rfl) (fun _ _ _ h => h) (Or.inl ⟨by rfl, ?_⟩) ?_ ?_
    rotate_left
    · intro w'
      go_simp
      with_reducible rfl
    rotate_left
    · simp only [Act.put, List.setIfInBounds_toArray, List.set_cons_zero, List.set_cons_succ, i64_w, i32_w]
      rfl
    refine pure_ (i := 7) (N := some 36) (v := ?_) (a' := ?_) #[false, true, true, false, false, false, false, true, false, false, false] rfl rfl (by kernel_rfl) (fun _ _ _ h => h) (Or.inl ⟨by rfl, ?_⟩) ?_ ?_
    rotate_left
    · intro w'
      go_simp
      with_reducible rfl
    rotate_left
    · simp only [Act.put, List.setIfInBounds_toArray, List.set_cons_zero, List.set_cons_succ, i64_w, i32_w]
      rfl
    refine take_ (i := 0) (N := some 29) (v := ?_) (a' := ?_) #[true, true, true, false, false, false, false, true, false, false, false] rfl rfl (by kernel_rfl) (fun _ _ _ h => h) (Or.inl ⟨by rfl, ?_⟩) hHeld ?_ ?_
    rotate_left
    · rintro w' ⟨s0, s1, s2, s3, s4, s5, s6, s7, s8, s9, s10, s11⟩
      go_simp
      with_reducible rfl
    rotate_left
    · simp only [Act.put, List.setIfInBounds_toArray, List.set_cons_zero, List.set_cons_succ, i64_w, i32_w]
      rfl
    refine take_ (i := 3) (N := some 32) (v := ?_) (a' := ?_) #[true, true, true, true, false, false, false, true, false, false, false] rfl rfl (by kernel_rfl) (fun _ _ _ h => h) (Or.inl ⟨by rfl, ?_⟩) hHeld ?_ ?_
    rotate_left
    · rintro w' ⟨s0, s1, s2, s3, s4, s5, s6, s7, s8, s9, s10, s11⟩
      go_simp
      with_reducible rfl
    rotate_left
    · simp only [Act.put, List.setIfInBounds_toArray, List.set_cons_zero, List.set_cons_succ, i64_w, i32_w]
      rfl
    refine take_ (i := 4) (N := some 33) (v := ?_) (a' := ?_) #[true, true, true, true, true, false, false, true, false, false, false] rfl rfl (by kernel_rfl) (fun _ _ _ h => h) (Or.inl ⟨by rfl, ?_⟩) hHeld ?_ ?_
    rotate_left
    · rintro w' ⟨s0, s1, s2, s3, s4, s5, s6, s7, s8, s9, s10, s11⟩
      go_simp
      with_reducible rfl
    rotate_left
    · simp only [Act.put, List.setIfInBounds_toArray, List.set_cons_zero, List.set_cons_succ, i64_w, i32_w]
      rfl
    refine one_ (i := 5) (N := some 34) #[true, true, true, true, true, true, false, true, false, false, false] rfl rfl (by kernel_rfl) (by decide) (fun K hK => ?_)
    refine goes_ Try.func15 (by kernel_rfl) rfl #[.agg #[.int .i64 o0, .int .i64 o1, .int .i64 o2, .int .i64 o3, .int .i64 o4, .int .u8 o5, .slice KA keep.length kc]] (by rfl) rfl rfl (by simp only [List.map_toArray, List.map_cons, List.map_nil]; rfl) ?_
    with_reducible refine (filled_any o0 o1 o2 o3 o4 o5 KA kc keep _ (Kd.C_below hk HX.out.md.below0) hkc).mono ?_
    rintro e w6 ⟨rfl, hm6⟩
    refine ⟨_, rfl, ?_⟩
    have h6 := (HX.out.mod hm6).1
    have p6 := (HX.out.mod hm6).2
    have H6 := Lib.hid h6
    have P6 := Lib.hid p6
    have j8 := p6.blk HJ8.out (.inr rfl)
    have j1 := p6.blk J1.out (.inl (.inr (.inr (.inl rfl))))
    clear h6 p6 hm6
    refine hK.out _ _ ⟨(blk_cell j8 0).trans rfl, (blk_cell j8 1).trans rfl, (blk_cell j8 2).trans rfl, (blk_cell j8 3).trans rfl, (blk_cell j8 4).trans rfl, (blk_cell j1 0).trans rfl, (blk_cell j1 1).trans rfl, (blk_cell j1 2).trans rfl, (blk_cell j1 3).trans rfl, (blk_cell j1 4).trans rfl, (blk_cell j1 5).trans rfl, (blk_cell j1 6).trans rfl⟩ (fun hHeld => ?_)
    clear hK K
    refine norm_ (a' := ?_) ?_ ?_
    rotate_left
    · show Act.put _ (some 34) _ = _
      simp only [Act.put, List.setIfInBounds_toArray, List.set_cons_zero, List.set_cons_succ, i64_w, i32_w]
      rfl
    refine one_ (i := 6) (N := some 35) #[true, true, true, true, true, true, true, true, false, false, false] rfl rfl (by kernel_rfl) (by decide) (fun K hK => ?_)
    refine goes_ Try.func14 (by kernel_rfl) rfl #[.pointer (some ⟨g, 0, none⟩), .int .i64 o1, .string (FIL o4 o5)] (by rfl) rfl rfl (by simp only [List.map_toArray, List.map_cons, List.map_nil]; rfl) ?_
    with_reducible refine (prog_write H6.out hG (by omega) o1 (FIL o4 o5) (by rw [FIL_size]; have := opLen_le o4; omega)).mono ?_
    rintro e w7 ⟨rfl, h7, p7⟩
    refine ⟨_, rfl, ?_⟩
    have H7 := Lib.hid h7
    have P7 := Lib.hid p7
    have i8 := p7.blk j8 (.inr rfl)
    have i1 := p7.blk j1 (.inl (.inr (.inr (.inl rfl))))
    have j2 := p7.blk (P6.out.blk J2.out (.inl (.inr (.inr (.inr rfl))))) (.inl (.inr (.inr (.inr rfl))))
    have t0 := (blk_cell j2 0).trans rfl
    have t1 := (blk_cell j2 1).trans rfl
    have t2 := (blk_cell j2 2).trans rfl
    have t3 := (blk_cell j2 3).trans rfl
    have t4 := (blk_cell j2 4).trans rfl
    have g0 := blk_frozen j2 0
    have g1 := blk_frozen j2 1
    have g2 := blk_frozen j2 2
    have g3 := blk_frozen j2 3
    have g4 := blk_frozen j2 4
    have J72 := Lib.hid j2
    clear h7 p7 j2 j1 j8
    generalize writeE D o1 (FIL o4 o5) = we at *
    refine hK.out _ _ ⟨(blk_cell i8 0).trans rfl, (blk_cell i8 1).trans rfl, (blk_cell i8 2).trans rfl, (blk_cell i8 3).trans rfl, (blk_cell i8 4).trans rfl, (blk_cell i1 0).trans rfl, (blk_cell i1 1).trans rfl, (blk_cell i1 2).trans rfl, (blk_cell i1 3).trans rfl, (blk_cell i1 4).trans rfl, (blk_cell i1 5).trans rfl, (blk_cell i1 6).trans rfl⟩ (fun hHeld => ?_)
    clear hK K
    refine norm_ (a' := ?_) ?_ ?_
    rotate_left
    · show Act.put _ (some 35) _ = _
      simp only [Act.put, List.setIfInBounds_toArray, List.set_cons_zero, List.set_cons_succ, i64_w, i32_w]
      rfl
    refine pure_ (i := 8) (N := some 37) (v := ?_) (a' := ?_) #[true, true, true, true, true, true, true, true, true, false, false] rfl rfl (by kernel_rfl) (fun _ _ _ h => h) (Or.inl ⟨by rfl, ?_⟩) ?_ ?_
    rotate_left
    · intro w'
      go_simp
      with_reducible rfl
    rotate_left
    · simp only [Act.put, List.setIfInBounds_toArray, List.set_cons_zero, List.set_cons_succ, i64_w, i32_w]
      rfl
    refine last_ (i := 9) (N := none) #[true, true, true, true, true, true, true, true, true, true, false] rfl rfl (by kernel_rfl) (by decide) (fun K hK => ?_)
    refine skip_ (w1 := ?_) (by rfl) rfl ?_ ?_
    rotate_left
    · go_simp
      rfl
    refine hK.out _ _ ?_
    clear hK K
    refine pure_ (i := 10) (N := some 7) (v := ?_) (a' := ?_) #[true, true, true, true, true, true, true, true, true, true, true] rfl rfl (by kernel_rfl) (fun _ _ _ h => h) (Or.inl ⟨by rfl, ?_⟩) ?_ ?_
    rotate_left
    · intro w'
      go_simp
      with_reducible rfl
    rotate_left
    · simp only [Act.put, List.setIfInBounds_toArray, List.set_cons_zero, List.set_cons_succ, i64_w, i32_w]
      rfl
    refine done_ (by kernel_rfl) ?_
    go_wp2
    have P9 := Lib.hid (HKB.out.trans (fun k hk => (P7.out k (.inl hk)).trans ((P6.out k (.inl hk)).trans (HXK.out k (.inl hk)))))
    obtain ⟨e1, e2⟩ := step_end HB3.out HBL.out HMD.out (PS.weak H7.out (fun k hk => .inl hk)) P9.out (.slice A5 DD.l.length q5) (.slice A6 DD.row.length q6) (.int .i64 DD.fuse) (.bool DD.down) (.int .i64 DD.done)
    refine bodyPost_ret (results_rowtmp rfl _ _ (bb + 1 + 1) 49 #[.slice A5 DD.l.length q5, .slice A6 DD.row.length q6, .int .i64 DD.fuse, .bool DD.down, .int .i64 DD.done] (0, 0) _ rfl (put5_blk (.slice A5 DD.l.length q5) (.slice A6 DD.row.length q6) (.int .i64 DD.fuse) (.bool DD.down) (.int .i64 DD.done) J72.out) Try.underlying49 rfl (by kernel_rfl)) rfl ⟨_, _, rfl, e1, e2⟩
theorem stepx_any {w w1 : World} {g : Nat} {D X : DK} {x : Value} {b : Nat} {B : Nat → Prop} (h : PS w w1 g D x X B) (hG : Good D b) (hX : Good X b) (hb : b ≤ 900) (o : S25) (KA : Option Addr) (kc : Nat) (hk : Kd.C Kd.bool w KA o.f6.length o.f6) (hkc : o.f6.length ≤ kc) :
    Calls Try.prog 23 #[.pointer (some ⟨g, 0, none⟩), x, .agg #[.int .i64 o.f0, .int .i64 o.f1, .int .i64 o.f2, .int .i64 o.f3, .int .i64 o.f4, .int .u8 o.f5, .slice KA o.f6.length kc]] w1 (StepPostX w w1 g (stepO o D) (stepO o X) B) := by
  obtain ⟨o0, o1, o2, o3, o4, o5, keep⟩ := o
  dsimp only at *
  unfold stepO
  dsimp only
  by_cases h0 : o0 = 0
  · rw [if_pos h0, if_pos h0]; exact stepx_0 h hG hX hb o0 o1 o2 o3 o4 o5 keep KA kc hk hkc h0
  · rw [if_neg h0, if_neg h0]
    by_cases h1 : o0 = 1
    · rw [if_pos h1, if_pos h1]; exact stepx_1 h hG hX hb o0 o1 o2 o3 o4 o5 keep KA kc hk hkc h1
    · rw [if_neg h1, if_neg h1]
      by_cases h2 : o0 = 2
      · rw [if_pos h2, if_pos h2]; exact stepx_2 h hG hX hb o0 o1 o2 o3 o4 o5 keep KA kc hk hkc h2
      · rw [if_neg h2, if_neg h2]
        by_cases h3 : o0 = 3
        · rw [if_pos h3, if_pos h3]; exact stepx_3 h hG hX hb o0 o1 o2 o3 o4 o5 keep KA kc hk hkc h3
        · rw [if_neg h3, if_neg h3]
          by_cases h4 : o0 = 4
          · rw [if_pos h4, if_pos h4]; exact stepx_4 h hG hX hb o0 o1 o2 o3 o4 o5 keep KA kc hk hkc h4
          · rw [if_neg h4, if_neg h4]; exact stepx_5 h hG hX hb o0 o1 o2 o3 o4 o5 keep KA kc hk hkc (by omega)
end Go.Proofs.Ytcohfbmfmlmblaa
