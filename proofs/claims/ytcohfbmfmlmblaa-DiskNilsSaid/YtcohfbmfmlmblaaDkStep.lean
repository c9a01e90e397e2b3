/- A step on both disks. -/
import Derived.Test.YtcohfbmfmlmblaaDkRefS
set_option linter.unusedVariables false
set_option linter.unusedSimpArgs false
namespace Go.Proofs.Ytcohfbmfmlmblaa
open Go.RowKit Go.Proofs.YtcohfbmfmlmblaaW.PrintWords Go.Proofs.Ytcohfbmfmlmblaa.PDiskPlays Go.Proofs.YtcohfbmfmlmblaaW.PrintMore Go.Proofs.YtcohfbmfmlmblaaW.PrintLast
/-- What a step makes of a disk. -/
def stepO (o : S25) (D : DK) : DK :=
  if o.f0 = 0 then writeD D o.f1 (FIL o.f4 o.f5) else if o.f0 = 1 then barD D else if o.f0 = 2 then fuseD D o.f2 else if o.f0 = 3 then failD D o.f6 o.f3 o.f2 else if o.f0 = 4 then startD D else D
abbrev put5 (w : World) (b : Nat) (v0 v1 v2 v3 v4 : Value) : World := ((((w.setCell ⟨b, 0, none⟩ v0).setCell ⟨b, 1, none⟩ v1).setCell ⟨b, 2, none⟩ v2).setCell ⟨b, 3, none⟩ v3).setCell ⟨b, 4, none⟩ v4
theorem put5_blk {w : World} {b : Nat} {t : TypeId} {u0 u1 u2 u3 u4 : Value} (v0 v1 v2 v3 v4 : Value) (h : w.heap[b]? = some (.cells #[u0, u1, u2, u3, u4] t (0, 0))) : (put5 w b v0 v1 v2 v3 v4).heap[b]? = some (.cells #[v0, v1, v2, v3, v4] t (0, 0)) :=
  blk_put (blk_put (blk_put (blk_put (blk_put h 0 v0 rfl) 1 v1 rfl) 2 v2 rfl) 3 v3 rfl) 4 v4 rfl
theorem put5_other {w : World} {b k : Nat} (v0 v1 v2 v3 v4 : Value) (h : k ≠ b) : (put5 w b v0 v1 v2 v3 v4).heap[k]? = w.heap[k]? := by
  have e : ∀ (W : World) (i : Nat) (v : Value), (W.setCell ⟨b, i, none⟩ v).heap[k]? = W.heap[k]? := fun W i v => Below.heap_setCell W _ _ k h
  simp only [put5, e]
theorem PS.put5 {w w1 : World} {g : Nat} {D X : DK} {x : Value} {B : Nat → Prop} (h : PS w w1 g D x X B) {b : Nat} (hb : B b) (hw : w.heap.size ≤ b) (v0 v1 v2 v3 v4 : Value) : PS w (Ytcohfbmfmlmblaa.put5 w1 b v0 v1 v2 v3 v4) g D x X B :=
  ((((h.set (p := ⟨b, 0, none⟩) hb hw v0).set (p := ⟨b, 1, none⟩) hb hw v1).set (p := ⟨b, 2, none⟩) hb hw v2).set (p := ⟨b, 3, none⟩) hb hw v3).set (p := ⟨b, 4, none⟩) hb hw v4
theorem PS.form {w w1 : World} {g : Nat} {D X : DK} {x : Value} {B : Nat → Prop} (h : PS w w1 g D x X B) : ∃ A c A' c', x = .agg #[.slice A X.l.length c, .slice A' X.row.length c', .int .i64 X.fuse, .bool X.down, .int .i64 X.done] := by
  obtain ⟨fp, fq, a1, a2, a3, a4, a5, ⟨L, R, rfl, a7, a8⟩, a9⟩ := h
  obtain ⟨A, c, rfl⟩ := Kd.R_slice a7
  obtain ⟨A', c', rfl⟩ := Kd.R_slice a8
  rw [show (rows X.row).length = X.row.length by simp [rows]]
  exact ⟨A, c, A', c', rfl⟩
theorem results_rowtmp {P : Program} {fn : Func} {p u : Tmp} {ty : TypeId} (h : fn.results = #[.cell p ty, .tmp u]) (tmps : Array Value) (w : World) (g : Nat) (t : TypeId) (cs : Array Value) (fr : Nat × Nat) (d : TypeDesc)
    (hp : tmps.getD p undef = .pointer (some ⟨g, 0, none⟩)) (hg : w.heap[g]? = some (.cells cs t fr))
    (hu : P.underlying ty = some d) (hd : (match d with | .struct _ | .array _ _ => true | _ => false) = true) (hi : (P.info? ty).map (·.size) = some cs.size) :
    (results fn tmps).run P w = .ok (.tuple #[.agg cs, tmps.getD u undef]) w := by
  rw [results_cell_tmp h, hp]
  simp [asAddr, run_loadVar_row w g t ty cs fr d hg hu hd hi]
/-- The three boxes of a step. -/
structure B3 (w1 w2 : World) (b : Nat) (x5 o7 : Array Value) : Prop where
  hb : w1.heap.size = b
  md : Mod [] w1 w2
  sz : w2.heap.size = b + 3
  k0 : w2.heap[b]? = some (.cells x5 49 (0, 0))
  k1 : w2.heap[b + 1]? = some (.cells o7 25 (0, 0))
  k2 : w2.heap[b + 1 + 1]? = some (.cells #[.slice none 0 0, .slice none 0 0, .int .i64 0, .bool false, .int .i64 0] 49 (0, 0))
theorem b3_any (w1 : World) (x5 o7 : Array Value) : B3 w1 (((w1.alloc (.cells x5 49)).alloc (.cells o7 25)).alloc (.cells #[.slice none 0 0, .slice none 0 0, .int .i64 0, .bool false, .int .i64 0] 49)) w1.heap.size x5 o7 := by
  refine ⟨rfl, (((Mod.refl [] w1).alloc _).alloc _).alloc _, by simp, blk_old (blk_old (blk_new w1 _) _) _, ?_, ?_⟩
  · have := blk_old (blk_new (w1.alloc (.cells x5 49)) (.cells o7 25)) (.cells #[.slice none 0 0, .slice none 0 0, .int .i64 0, .bool false, .int .i64 0] 49)
    rwa [World.size_alloc] at this
  · have := blk_new ((w1.alloc (.cells x5 49)).alloc (.cells o7 25)) (.cells #[.slice none 0 0, .slice none 0 0, .int .i64 0, .bool false, .int .i64 0] 49)
    rwa [World.size_alloc, World.size_alloc] at this
/-- The step's own boxes, and what was there. -/
def BB (B : Nat → Prop) (b : Nat) : Nat → Prop := fun k => B k ∨ k = b ∨ k = b + 1 ∨ k = b + 1 + 1
theorem ps_b3 {w w1 : World} {g : Nat} {D X : DK} {x : Value} {B : Nat → Prop} (h : PS w w1 g D x X B) (x5 o7 : Array Value) : PS w (((w1.alloc (.cells x5 49)).alloc (.cells o7 25)).alloc (.cells #[.slice none 0 0, .slice none 0 0, .int .i64 0, .bool false, .int .i64 0] 49)) g D x X (BB B w1.heap.size) := by
  refine (((h.box (.cells x5 49)).box (.cells o7 25)).box _).weak (fun k hk => ?_)
  simp only [World.size_alloc]
  rcases hk with h | h | h | h
  · exact .inl (.inl (.inl h))
  · exact .inl (.inl (.inr h))
  · exact .inl (.inr h)
  · exact .inr h
/-- The step's end. -/
theorem step_end {w w1 w2 w4 : World} {g b : Nat} {D X : DK} {x : Value} {B : Nat → Prop} {x5 o7 : Array Value} (hB3 : B3 w1 w2 b x5 o7) (hlt : ∀ k, B k → k < w1.heap.size) (hmw : Mod [] w w1) (h4 : PS w w4 g D x X (BB B b)) (hk : KeepB (BB B b) w2 w4) (v0 v1 v2 v3 v4 : Value) :
    PS w (put5 w4 (b + 1 + 1) v0 v1 v2 v3 v4) g D x X B ∧ KeepB B w1 (put5 w4 (b + 1 + 1) v0 v1 v2 v3 v4) := by
  have hz := hmw.size
  have hb := hB3.hb
  refine ⟨(h4.put5 (.inr (.inr (.inr rfl))) (by omega) v0 v1 v2 v3 v4).weak (fun k hk => .inl hk), fun k hk' => ?_⟩
  have hl := hlt k hk'
  rw [put5_other _ _ _ _ _ (by omega), hk k (.inl hk'), hB3.md.block k hl (by simp)]
def StepPost (w w1 : World) (g : Nat) (D' : DK) (B : Nat → Prop) (e : Ending) (w' : World) : Prop :=
  ∃ x', e = .returned (.tuple #[x', .bool true]) ∧ PS w w' g D' x' D' B ∧ KeepB B w1 w'
theorem PS.Blt {w w1 : World} {g : Nat} {D X : DK} {x : Value} {B : Nat → Prop} (h : PS w w1 g D x X B) : ∀ k, B k → k < w1.heap.size := by
  obtain ⟨fp, fq, a1, a2, a3, a4, a5, a6, a9⟩ := h
  exact fun k hk => (a9 k hk).1
set_option maxRecDepth 100000 in
set_option maxHeartbeats 2000000 in
theorem step_2 {w w1 : World} {g : Nat} {D : DK} {x : Value} {b : Nat} {B : Nat → Prop} (h : PS w w1 g D x D B) (hG : Good D b) (hb : b ≤ 900) (o0 o1 o2 o3 o4 o5 : Int) (keep : List Bool) (KA : Option Addr) (kc : Nat) (hk : Kd.C Kd.bool w KA keep.length keep) (hkc : keep.length ≤ kc) (ho : o0 = 2) :
    Calls Try.prog 23 #[.pointer (some ⟨g, 0, none⟩), x, .agg #[.int .i64 o0, .int .i64 o1, .int .i64 o2, .int .i64 o3, .int .i64 o4, .int .u8 o5, .slice KA keep.length kc]] w1 (StepPost w w1 g (fuseD D o2) B) := by
  obtain ⟨A, c, A', c', rfl⟩ := h.form
  have HB3 := Lib.hid (b3_any w1 #[.slice A D.l.length c, .slice A' D.row.length c', .int .i64 D.fuse, .bool D.down, .int .i64 D.done] #[.int .i64 o0, .int .i64 o1, .int .i64 o2, .int .i64 o3, .int .i64 o4, .int .u8 o5, .slice KA keep.length kc])
  have H2 := Lib.hid (ps_b3 h #[.slice A D.l.length c, .slice A' D.row.length c', .int .i64 D.fuse, .bool D.down, .int .i64 D.done] #[.int .i64 o0, .int .i64 o1, .int .i64 o2, .int .i64 o3, .int .i64 o4, .int .u8 o5, .slice KA keep.length kc])
  have HBL := Lib.hid h.Blt
  have HMD := Lib.hid h.md
  have hb3 := HB3.out
  obtain ⟨bb, hbb⟩ : ∃ q, w1.heap.size = q := ⟨_, rfl⟩
  have k0 := hb3.k0
  have k1 := hb3.k1
  have k2 := hb3.k2
  rw [hbb] at HB3 H2 k0 k1 k2
  have c0 := (blk_cell k0 0).trans rfl
  have c1 := (blk_cell k0 1).trans rfl
  have c2 := (blk_cell k0 2).trans rfl
  have c3 := (blk_cell k0 3).trans rfl
  have c4 := (blk_cell k0 4).trans rfl
  have d0 := (blk_cell k1 0).trans rfl
  have d1 := (blk_cell k1 1).trans rfl
  have d2 := (blk_cell k1 2).trans rfl
  have d3 := (blk_cell k1 3).trans rfl
  have d4 := (blk_cell k1 4).trans rfl
  have d5 := (blk_cell k1 5).trans rfl
  have d6 := (blk_cell k1 6).trans rfl
  have HK0 := Lib.hid k0
  have HK1 := Lib.hid k1
  have HK2 := Lib.hid k2
  clear k0 k1 k2 hb3 h
  have n0 : (o0 == 0) = false := by simp; omega
  have n1 : (o0 == 1) = false := by simp; omega
  have n2 : (o0 == 2) = true := by simp; omega
  clear ho
  go_enter Try.func23, Try.ntmps23
  go_upto_region 1 with fail
  clear hbb
  generalize ((w1.alloc _).alloc _).alloc _ = w2 at *
  go_wp2_with fail
  refine (prog_fuse H2.out o2).mono ?_
  rintro e w3 ⟨⟨v3, rfl⟩, h3, p3⟩
  have H3 := Lib.hid h3
  have P3 := Lib.hid p3
  clear h3 p3
  clear c0 c1 c2 c3 c4 d0 d1 d2 d3 d4 d5 d6
  have j0 := P3.out.blk HK0.out (.inr (.inl rfl))
  have j1 := P3.out.blk HK1.out (.inr (.inr (.inl rfl)))
  have j2 := P3.out.blk HK2.out (.inr (.inr (.inr rfl)))
  have c0 := (blk_cell j0 0).trans rfl
  have c1 := (blk_cell j0 1).trans rfl
  have c2 := (blk_cell j0 2).trans rfl
  have c3 := (blk_cell j0 3).trans rfl
  have c4 := (blk_cell j0 4).trans rfl
  have d0 := (blk_cell j1 0).trans rfl
  have d1 := (blk_cell j1 1).trans rfl
  have d2 := (blk_cell j1 2).trans rfl
  have d3 := (blk_cell j1 3).trans rfl
  have d4 := (blk_cell j1 4).trans rfl
  have d5 := (blk_cell j1 5).trans rfl
  have d6 := (blk_cell j1 6).trans rfl
  have t0 := (blk_cell j2 0).trans rfl
  have t1 := (blk_cell j2 1).trans rfl
  have t2 := (blk_cell j2 2).trans rfl
  have t3 := (blk_cell j2 3).trans rfl
  have t4 := (blk_cell j2 4).trans rfl
  have g0 := blk_frozen j2 0
  have g1 := blk_frozen j2 1
  have g2 := blk_frozen j2 2
  have g3 := blk_frozen j2 3
  have g4 := blk_frozen j2 4
  have J2 := Lib.hid j2
  clear j0 j1 j2
  go_wp2_with fail
  refine (ref_fuse H3.out o2).mono ?_
  rintro e w4 ⟨x4, rfl, h4, p4⟩
  obtain ⟨A5, q5, A6, q6, rfl⟩ := h4.form
  have H4 := Lib.hid h4
  have P4 := Lib.hid (P3.out.trans p4)
  clear h4 p4
  clear c0 c1 c2 c3 c4 d0 d1 d2 d3 d4 d5 d6 t0 t1 t2 t3 t4 g0 g1 g2 g3 g4
  clear J2
  have j0 := P4.out.blk HK0.out (.inr (.inl rfl))
  have j1 := P4.out.blk HK1.out (.inr (.inr (.inl rfl)))
  have j2 := P4.out.blk HK2.out (.inr (.inr (.inr rfl)))
  have c0 := (blk_cell j0 0).trans rfl
  have c1 := (blk_cell j0 1).trans rfl
  have c2 := (blk_cell j0 2).trans rfl
  have c3 := (blk_cell j0 3).trans rfl
  have c4 := (blk_cell j0 4).trans rfl
  have d0 := (blk_cell j1 0).trans rfl
  have d1 := (blk_cell j1 1).trans rfl
  have d2 := (blk_cell j1 2).trans rfl
  have d3 := (blk_cell j1 3).trans rfl
  have d4 := (blk_cell j1 4).trans rfl
  have d5 := (blk_cell j1 5).trans rfl
  have d6 := (blk_cell j1 6).trans rfl
  have t0 := (blk_cell j2 0).trans rfl
  have t1 := (blk_cell j2 1).trans rfl
  have t2 := (blk_cell j2 2).trans rfl
  have t3 := (blk_cell j2 3).trans rfl
  have t4 := (blk_cell j2 4).trans rfl
  have g0 := blk_frozen j2 0
  have g1 := blk_frozen j2 1
  have g2 := blk_frozen j2 2
  have g3 := blk_frozen j2 3
  have g4 := blk_frozen j2 4
  have J2 := Lib.hid j2
  clear j0 j1 j2
  generalize hDD : fuseD D o2 = DD at *
  go_wp2
  obtain ⟨e1, e2⟩ := step_end HB3.out HBL.out HMD.out H4.out P4.out (.slice A5 DD.l.length q5) (.slice A6 DD.row.length q6) (.int .i64 DD.fuse) (.bool DD.down) (.int .i64 DD.done)
  refine bodyPost_ret (results_rowtmp rfl _ _ (bb + 1 + 1) 49 #[.slice A5 DD.l.length q5, .slice A6 DD.row.length q6, .int .i64 DD.fuse, .bool DD.down, .int .i64 DD.done] (0, 0) _ rfl (put5_blk (.slice A5 DD.l.length q5) (.slice A6 DD.row.length q6) (.int .i64 DD.fuse) (.bool DD.down) (.int .i64 DD.done) J2.out) Try.underlying49 rfl (by kernel_rfl)) rfl ⟨_, rfl, e1, e2⟩
set_option maxRecDepth 100000 in
set_option maxHeartbeats 2000000 in
theorem step_3 {w w1 : World} {g : Nat} {D : DK} {x : Value} {b : Nat} {B : Nat → Prop} (h : PS w w1 g D x D B) (hG : Good D b) (hb : b ≤ 900) (o0 o1 o2 o3 o4 o5 : Int) (keep : List Bool) (KA : Option Addr) (kc : Nat) (hk : Kd.C Kd.bool w KA keep.length keep) (hkc : keep.length ≤ kc) (ho : o0 = 3) :
    Calls Try.prog 23 #[.pointer (some ⟨g, 0, none⟩), x, .agg #[.int .i64 o0, .int .i64 o1, .int .i64 o2, .int .i64 o3, .int .i64 o4, .int .u8 o5, .slice KA keep.length kc]] w1 (StepPost w w1 g (failD D keep o3 o2) B) := by
  obtain ⟨A, c, A', c', rfl⟩ := h.form
  have HB3 := Lib.hid (b3_any w1 #[.slice A D.l.length c, .slice A' D.row.length c', .int .i64 D.fuse, .bool D.down, .int .i64 D.done] #[.int .i64 o0, .int .i64 o1, .int .i64 o2, .int .i64 o3, .int .i64 o4, .int .u8 o5, .slice KA keep.length kc])
  have H2 := Lib.hid (ps_b3 h #[.slice A D.l.length c, .slice A' D.row.length c', .int .i64 D.fuse, .bool D.down, .int .i64 D.done] #[.int .i64 o0, .int .i64 o1, .int .i64 o2, .int .i64 o3, .int .i64 o4, .int .u8 o5, .slice KA keep.length kc])
  have HBL := Lib.hid h.Blt
  have HMD := Lib.hid h.md
  have hb3 := HB3.out
  obtain ⟨bb, hbb⟩ : ∃ q, w1.heap.size = q := ⟨_, rfl⟩
  have k0 := hb3.k0
  have k1 := hb3.k1
  have k2 := hb3.k2
  rw [hbb] at HB3 H2 k0 k1 k2
  have c0 := (blk_cell k0 0).trans rfl
  have c1 := (blk_cell k0 1).trans rfl
  have c2 := (blk_cell k0 2).trans rfl
  have c3 := (blk_cell k0 3).trans rfl
  have c4 := (blk_cell k0 4).trans rfl
  have d0 := (blk_cell k1 0).trans rfl
  have d1 := (blk_cell k1 1).trans rfl
  have d2 := (blk_cell k1 2).trans rfl
  have d3 := (blk_cell k1 3).trans rfl
  have d4 := (blk_cell k1 4).trans rfl
  have d5 := (blk_cell k1 5).trans rfl
  have d6 := (blk_cell k1 6).trans rfl
  have HK0 := Lib.hid k0
  have HK1 := Lib.hid k1
  have HK2 := Lib.hid k2
  clear k0 k1 k2 hb3 h
  have n0 : (o0 == 0) = false := by simp; omega
  have n1 : (o0 == 1) = false := by simp; omega
  have n2 : (o0 == 2) = false := by simp; omega
  have n3 : (o0 == 3) = true := by simp; omega
  clear ho
  go_enter Try.func23, Try.ntmps23
  go_upto_region 1 with fail
  clear hbb
  generalize ((w1.alloc _).alloc _).alloc _ = w2 at *
  go_wp2_with fail
  refine (prog_fail H2.out hG (by omega) KA kc keep o3 o2 hk).mono ?_
  rintro e w3 ⟨⟨v3, rfl⟩, h3, p3⟩
  have H3 := Lib.hid h3
  have P3 := Lib.hid p3
  clear h3 p3
  clear c0 c1 c2 c3 c4 d0 d1 d2 d3 d4 d5 d6
  have j0 := P3.out.blk HK0.out (.inr (.inl rfl))
  have j1 := P3.out.blk HK1.out (.inr (.inr (.inl rfl)))
  have j2 := P3.out.blk HK2.out (.inr (.inr (.inr rfl)))
  have c0 := (blk_cell j0 0).trans rfl
  have c1 := (blk_cell j0 1).trans rfl
  have c2 := (blk_cell j0 2).trans rfl
  have c3 := (blk_cell j0 3).trans rfl
  have c4 := (blk_cell j0 4).trans rfl
  have d0 := (blk_cell j1 0).trans rfl
  have d1 := (blk_cell j1 1).trans rfl
  have d2 := (blk_cell j1 2).trans rfl
  have d3 := (blk_cell j1 3).trans rfl
  have d4 := (blk_cell j1 4).trans rfl
  have d5 := (blk_cell j1 5).trans rfl
  have d6 := (blk_cell j1 6).trans rfl
  have t0 := (blk_cell j2 0).trans rfl
  have t1 := (blk_cell j2 1).trans rfl
  have t2 := (blk_cell j2 2).trans rfl
  have t3 := (blk_cell j2 3).trans rfl
  have t4 := (blk_cell j2 4).trans rfl
  have g0 := blk_frozen j2 0
  have g1 := blk_frozen j2 1
  have g2 := blk_frozen j2 2
  have g3 := blk_frozen j2 3
  have g4 := blk_frozen j2 4
  have J2 := Lib.hid j2
  clear j0 j1 j2
  go_wp2_with fail
  refine (ref_fail H3.out hG (by omega) KA kc keep o3 o2 hk).mono ?_
  rintro e w4 ⟨x4, rfl, h4, p4⟩
  obtain ⟨A5, q5, A6, q6, rfl⟩ := h4.form
  have H4 := Lib.hid h4
  have P4 := Lib.hid (P3.out.trans p4)
  clear h4 p4
  clear c0 c1 c2 c3 c4 d0 d1 d2 d3 d4 d5 d6 t0 t1 t2 t3 t4 g0 g1 g2 g3 g4
  clear J2
  have j0 := P4.out.blk HK0.out (.inr (.inl rfl))
  have j1 := P4.out.blk HK1.out (.inr (.inr (.inl rfl)))
  have j2 := P4.out.blk HK2.out (.inr (.inr (.inr rfl)))
  have c0 := (blk_cell j0 0).trans rfl
  have c1 := (blk_cell j0 1).trans rfl
  have c2 := (blk_cell j0 2).trans rfl
  have c3 := (blk_cell j0 3).trans rfl
  have c4 := (blk_cell j0 4).trans rfl
  have d0 := (blk_cell j1 0).trans rfl
  have d1 := (blk_cell j1 1).trans rfl
  have d2 := (blk_cell j1 2).trans rfl
  have d3 := (blk_cell j1 3).trans rfl
  have d4 := (blk_cell j1 4).trans rfl
  have d5 := (blk_cell j1 5).trans rfl
  have d6 := (blk_cell j1 6).trans rfl
  have t0 := (blk_cell j2 0).trans rfl
  have t1 := (blk_cell j2 1).trans rfl
  have t2 := (blk_cell j2 2).trans rfl
  have t3 := (blk_cell j2 3).trans rfl
  have t4 := (blk_cell j2 4).trans rfl
  have g0 := blk_frozen j2 0
  have g1 := blk_frozen j2 1
  have g2 := blk_frozen j2 2
  have g3 := blk_frozen j2 3
  have g4 := blk_frozen j2 4
  have J2 := Lib.hid j2
  clear j0 j1 j2
  generalize hDD : failD D keep o3 o2 = DD at *
  go_wp2
  obtain ⟨e1, e2⟩ := step_end HB3.out HBL.out HMD.out H4.out P4.out (.slice A5 DD.l.length q5) (.slice A6 DD.row.length q6) (.int .i64 DD.fuse) (.bool DD.down) (.int .i64 DD.done)
  refine bodyPost_ret (results_rowtmp rfl _ _ (bb + 1 + 1) 49 #[.slice A5 DD.l.length q5, .slice A6 DD.row.length q6, .int .i64 DD.fuse, .bool DD.down, .int .i64 DD.done] (0, 0) _ rfl (put5_blk (.slice A5 DD.l.length q5) (.slice A6 DD.row.length q6) (.int .i64 DD.fuse) (.bool DD.down) (.int .i64 DD.done) J2.out) Try.underlying49 rfl (by kernel_rfl)) rfl ⟨_, rfl, e1, e2⟩
set_option maxRecDepth 100000 in
set_option maxHeartbeats 2000000 in
theorem step_4 {w w1 : World} {g : Nat} {D : DK} {x : Value} {b : Nat} {B : Nat → Prop} (h : PS w w1 g D x D B) (hG : Good D b) (hb : b ≤ 900) (o0 o1 o2 o3 o4 o5 : Int) (keep : List Bool) (KA : Option Addr) (kc : Nat) (hk : Kd.C Kd.bool w KA keep.length keep) (hkc : keep.length ≤ kc) (ho : o0 = 4) :
    Calls Try.prog 23 #[.pointer (some ⟨g, 0, none⟩), x, .agg #[.int .i64 o0, .int .i64 o1, .int .i64 o2, .int .i64 o3, .int .i64 o4, .int .u8 o5, .slice KA keep.length kc]] w1 (StepPost w w1 g (startD D) B) := by
  obtain ⟨A, c, A', c', rfl⟩ := h.form
  have HB3 := Lib.hid (b3_any w1 #[.slice A D.l.length c, .slice A' D.row.length c', .int .i64 D.fuse, .bool D.down, .int .i64 D.done] #[.int .i64 o0, .int .i64 o1, .int .i64 o2, .int .i64 o3, .int .i64 o4, .int .u8 o5, .slice KA keep.length kc])
  have H2 := Lib.hid (ps_b3 h #[.slice A D.l.length c, .slice A' D.row.length c', .int .i64 D.fuse, .bool D.down, .int .i64 D.done] #[.int .i64 o0, .int .i64 o1, .int .i64 o2, .int .i64 o3, .int .i64 o4, .int .u8 o5, .slice KA keep.length kc])
  have HBL := Lib.hid h.Blt
  have HMD := Lib.hid h.md
  have hb3 := HB3.out
  obtain ⟨bb, hbb⟩ : ∃ q, w1.heap.size = q := ⟨_, rfl⟩
  have k0 := hb3.k0
  have k1 := hb3.k1
  have k2 := hb3.k2
  rw [hbb] at HB3 H2 k0 k1 k2
  have c0 := (blk_cell k0 0).trans rfl
  have c1 := (blk_cell k0 1).trans rfl
  have c2 := (blk_cell k0 2).trans rfl
  have c3 := (blk_cell k0 3).trans rfl
  have c4 := (blk_cell k0 4).trans rfl
  have d0 := (blk_cell k1 0).trans rfl
  have d1 := (blk_cell k1 1).trans rfl
  have d2 := (blk_cell k1 2).trans rfl
  have d3 := (blk_cell k1 3).trans rfl
  have d4 := (blk_cell k1 4).trans rfl
  have d5 := (blk_cell k1 5).trans rfl
  have d6 := (blk_cell k1 6).trans rfl
  have HK0 := Lib.hid k0
  have HK1 := Lib.hid k1
  have HK2 := Lib.hid k2
  clear k0 k1 k2 hb3 h
  have n0 : (o0 == 0) = false := by simp; omega
  have n1 : (o0 == 1) = false := by simp; omega
  have n2 : (o0 == 2) = false := by simp; omega
  have n3 : (o0 == 3) = false := by simp; omega
  have n4 : (o0 == 4) = true := by simp; omega
  clear ho
  go_enter Try.func23, Try.ntmps23
  go_upto_region 1 with fail
  clear hbb
  generalize ((w1.alloc _).alloc _).alloc _ = w2 at *
  go_wp2_with fail
  refine (prog_start H2.out).mono ?_
  rintro e w3 ⟨⟨v3, rfl⟩, h3, p3⟩
  have H3 := Lib.hid h3
  have P3 := Lib.hid p3
  clear h3 p3
  clear c0 c1 c2 c3 c4 d0 d1 d2 d3 d4 d5 d6
  have j0 := P3.out.blk HK0.out (.inr (.inl rfl))
  have j1 := P3.out.blk HK1.out (.inr (.inr (.inl rfl)))
  have j2 := P3.out.blk HK2.out (.inr (.inr (.inr rfl)))
  have c0 := (blk_cell j0 0).trans rfl
  have c1 := (blk_cell j0 1).trans rfl
  have c2 := (blk_cell j0 2).trans rfl
  have c3 := (blk_cell j0 3).trans rfl
  have c4 := (blk_cell j0 4).trans rfl
  have d0 := (blk_cell j1 0).trans rfl
  have d1 := (blk_cell j1 1).trans rfl
  have d2 := (blk_cell j1 2).trans rfl
  have d3 := (blk_cell j1 3).trans rfl
  have d4 := (blk_cell j1 4).trans rfl
  have d5 := (blk_cell j1 5).trans rfl
  have d6 := (blk_cell j1 6).trans rfl
  have t0 := (blk_cell j2 0).trans rfl
  have t1 := (blk_cell j2 1).trans rfl
  have t2 := (blk_cell j2 2).trans rfl
  have t3 := (blk_cell j2 3).trans rfl
  have t4 := (blk_cell j2 4).trans rfl
  have g0 := blk_frozen j2 0
  have g1 := blk_frozen j2 1
  have g2 := blk_frozen j2 2
  have g3 := blk_frozen j2 3
  have g4 := blk_frozen j2 4
  have J2 := Lib.hid j2
  clear j0 j1 j2
  go_wp2_with fail
  refine (ref_start H3.out).mono ?_
  rintro e w4 ⟨x4, rfl, h4, p4⟩
  obtain ⟨A5, q5, A6, q6, rfl⟩ := h4.form
  have H4 := Lib.hid h4
  have P4 := Lib.hid (P3.out.trans p4)
  clear h4 p4
  clear c0 c1 c2 c3 c4 d0 d1 d2 d3 d4 d5 d6 t0 t1 t2 t3 t4 g0 g1 g2 g3 g4
  clear J2
  have j0 := P4.out.blk HK0.out (.inr (.inl rfl))
  have j1 := P4.out.blk HK1.out (.inr (.inr (.inl rfl)))
  have j2 := P4.out.blk HK2.out (.inr (.inr (.inr rfl)))
  have c0 := (blk_cell j0 0).trans rfl
  have c1 := (blk_cell j0 1).trans rfl
  have c2 := (blk_cell j0 2).trans rfl
  have c3 := (blk_cell j0 3).trans rfl
  have c4 := (blk_cell j0 4).trans rfl
  have d0 := (blk_cell j1 0).trans rfl
  have d1 := (blk_cell j1 1).trans rfl
  have d2 := (blk_cell j1 2).trans rfl
  have d3 := (blk_cell j1 3).trans rfl
  have d4 := (blk_cell j1 4).trans rfl
  have d5 := (blk_cell j1 5).trans rfl
  have d6 := (blk_cell j1 6).trans rfl
  have t0 := (blk_cell j2 0).trans rfl
  have t1 := (blk_cell j2 1).trans rfl
  have t2 := (blk_cell j2 2).trans rfl
  have t3 := (blk_cell j2 3).trans rfl
  have t4 := (blk_cell j2 4).trans rfl
  have g0 := blk_frozen j2 0
  have g1 := blk_frozen j2 1
  have g2 := blk_frozen j2 2
  have g3 := blk_frozen j2 3
  have g4 := blk_frozen j2 4
  have J2 := Lib.hid j2
  clear j0 j1 j2
  generalize hDD : startD D = DD at *
  go_wp2
  obtain ⟨e1, e2⟩ := step_end HB3.out HBL.out HMD.out H4.out P4.out (.slice A5 DD.l.length q5) (.slice A6 DD.row.length q6) (.int .i64 DD.fuse) (.bool DD.down) (.int .i64 DD.done)
  refine bodyPost_ret (results_rowtmp rfl _ _ (bb + 1 + 1) 49 #[.slice A5 DD.l.length q5, .slice A6 DD.row.length q6, .int .i64 DD.fuse, .bool DD.down, .int .i64 DD.done] (0, 0) _ rfl (put5_blk (.slice A5 DD.l.length q5) (.slice A6 DD.row.length q6) (.int .i64 DD.fuse) (.bool DD.down) (.int .i64 DD.done) J2.out) Try.underlying49 rfl (by kernel_rfl)) rfl ⟨_, rfl, e1, e2⟩
end Go.Proofs.Ytcohfbmfmlmblaa
