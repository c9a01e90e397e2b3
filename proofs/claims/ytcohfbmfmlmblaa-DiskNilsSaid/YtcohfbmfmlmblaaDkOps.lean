/- What Start and Barrier do to a disk. -/
import Derived.Test.YtcohfbmfmlmblaaDkWrite
set_option linter.unusedVariables false
set_option linter.unusedSimpArgs false
namespace Go.Proofs.Ytcohfbmfmlmblaa
open Go.RowKit Go.Proofs.YtcohfbmfmlmblaaW.PrintWords Go.Proofs.Ytcohfbmfmlmblaa.PDiskPlays Go.Proofs.YtcohfbmfmlmblaaW.PrintLast
def startD (D : DK) : DK := if D.down then { D with row := [], fuse := -1, down := false } else D
theorem start_any (w : World) (fp : Nat → Prop) (g : Nat) (D : DK) (h : Dsk w fp g D) :
    Calls Try.prog 17 #[.pointer (some ⟨g, 0, none⟩)] w fun e w' => (∃ v, e = .returned v) ∧ Fr fp w w' ∧ w'.heap.size = w.heap.size ∧ Dsk w' fp g (startD D) := by
  have hsame := h
  obtain ⟨L, R, h1, h2, h3, h4, h5⟩ := h
  have c3 := (blk_cell h1 3).trans rfl
  obtain ⟨l, row, f, d, m⟩ := D
  dsimp only at *
  unfold startD
  cases d
  · rw [if_neg (by simp)]
    clear h1 h2 h3
    go_enter Try.func17, Try.ntmps17
    go_wp2
    go_end0
    exact ⟨⟨_, rfl⟩, Fr.refl _ _, rfl, hsame⟩
  · rw [if_pos rfl]
    have c1 := (blk_cell h1 1).trans rfl
    have f1 := blk_frozen h1 1
    have c2 := (blk_cell h1 2).trans rfl
    have f2 := blk_frozen h1 2
    have f3 := blk_frozen h1 3
    have b1 := blk_put h1 1 (.slice none 0 0) rfl
    have b2 := blk_put b1 2 (.int .i64 (-1)) rfl
    have b3 := blk_put b2 3 (.bool false) rfl
    have hm := (((Mod.refl [g] w).setCell (p := ⟨g, 1, none⟩) (by simp) (.slice none 0 0)).setCell (p := ⟨g, 2, none⟩) (by simp) (.int .i64 (-1))).setCell (p := ⟨g, 3, none⟩) (by simp) (.bool false)
    have H1 := Lib.hid h1
    have B3 := Lib.hid b3
    clear h1 b1 b2 b3
    go_enter Try.func17, Try.ntmps17
    go_wp2
    go_end0
    exact ⟨⟨_, rfl⟩, Fr.of_head h4 hm, by simp, Dsk.head H1.out h2 (Kd.R_nil k65 65 w 0 fp) h4 h5 hm B3.out⟩
def applyAll (l : List ByteArray) (row : List S65) : List ByteArray := row.foldl (fun l x => l.set x.f0.toNat x.f1) l
theorem applyAll_len (row : List S65) : ∀ l, (applyAll l row).length = l.length := by
  induction row with
  | nil => intro l; rfl
  | cons x t ih => intro l; show (applyAll (l.set x.f0.toNat x.f1) t).length = _; rw [ih, List.length_set]
theorem applyAll_snoc (l : List ByteArray) (row : List S65) (k : Nat) (h : k < row.length) : applyAll l (row.take (k + 1)) = (applyAll l (row.take k)).set (row[k].f0.toNat) row[k].f1 := by
  rw [List.take_add_one, List.getElem?_eq_getElem h]
  show List.foldl _ l (row.take k ++ [row[k]]) = _
  rw [List.foldl_append]
  rfl
theorem rd65 (row : List S65) (k : Nat) (h : k < row.length) : rd_T65 row (k : Int) = row[k] := by
  simp [rd_T65, List.getD_eq_getElem?_getD, h]
def barE (D : DK) : Int := if canE D 0 = 0 then burnE D else canE D 0
def barD (D : DK) : DK := if canE D 0 = 0 then (if burnE D = 0 then { burnD D with l := applyAll D.l D.row, row := [] } else burnD D) else D
theorem burn_l (D : DK) : (burnD D).l = D.l := by unfold burnD; split <;> rfl
/-- What the bringing out keeps: the head, the writes; the sectors are set. -/
structure Outs (w1 wr : World) (fp : Nat → Prop) (g gl : Nat) (cl : Nat) (l : List ByteArray) (R : Value) (row : List S65) (cs : Array Value) : Prop where
  fr : Fr (fun k => k = gl) w1 wr
  hd : wr.heap[g]? = some (.cells cs 67 (0, 0))
  hl : Kd.R Kd.string 9 wr 0 fp (.slice (some ⟨gl, 0, none⟩) l.length cl) l
  hr : Kd.R k65 65 wr 0 fp R row
theorem Outs.box {w1 wr : World} {fp : Nat → Prop} {g gl cl : Nat} {l : List ByteArray} {R : Value} {row : List S65} {cs : Array Value} (h : Outs w1 wr fp g gl cl l R row cs) (o : Obj) : Outs w1 (wr.alloc o) fp g gl cl l R row cs :=
  ⟨h.fr.alloc o, blk_old h.hd o, Kd.R_alloc h.hl o, Kd.R_alloc h.hr o⟩
theorem Outs.drew {w1 wr : World} {fp : Nat → Prop} {g gl cl : Nat} {l : List ByteArray} {R : Value} {row : List S65} {cs : Array Value} (h : Outs w1 wr fp g gl cl l R row cs) : Outs w1 wr.drew fp g gl cl l R row cs :=
  ⟨h.fr.drew, h.hd, Kd.R_drew h.hl, Kd.R_drew h.hr⟩
theorem Outs.put {w1 wr : World} {fp : Nat → Prop} {g gl cl : Nat} {l : List ByteArray} {R : Value} {row : List S65} {cs : Array Value} (h : Outs w1 wr fp g gl cl l R row cs) (i : Int) (s : ByteArray) (hn : some gl ≠ R.ownBlock) (hg : g ≠ gl) :
    Outs w1 (wr.setCell ⟨gl, i.toNat, none⟩ (.string s)) fp g gl cl (l.set i.toNat s) R row cs := by
  have hp := Kd.R_putg (enc := Value.string) (h1 := fun _ => rfl) h.hl i s
  refine ⟨h.fr.setCell (p := ⟨gl, i.toNat, none⟩) (.inl rfl) _, (Below.heap_setCell wr _ _ g (by simpa using hg)).trans h.hd, by rw [List.length_set]; exact hp.1, ?_⟩
  exact Kd.R_mono (Kd.R_grown (Kd.R_mono (ok' := fun k => fp k ∧ some k ≠ some gl) (rows_apart' h.hl h.hr) (fun k hk => hk)) hp.2 (fun k hk => hk.2)) (fun k hk => hk.1)
/-- The writes are away, the head was set. -/
theorem outs_post {w w1 wr w3 : World} {fp : Nat → Prop} {g gl cl : Nat} {l : List ByteArray} {R : Value} {row : List S65} {cs : Array Value} {f n : Int} {d : Bool}
    (hF1 : Fr fp w w1) (hs1 : w1.heap.size = w.heap.size) (ho : Outs w1 wr fp g gl cl l R row cs) (hfl : fp gl) (h4 : fp g) (h5 : ∀ k, fp k → k < w1.heap.size) (hm : Mod [g] wr w3)
    (hb3 : w3.heap[g]? = some (.cells #[.slice (some ⟨gl, 0, none⟩) l.length cl, .slice none 0 0, .int .i64 f, .bool d, .int .i64 n] 67 (0, 0))) : DskPost w fp g ⟨l, [], f, d, n⟩ w3 := by
  have hz := ho.fr.size
  have hD := Dsk.head (fp := fp) ho.hd ho.hl (Kd.R_nil k65 65 wr 0 fp) h4 (fun k hk => Nat.lt_of_lt_of_le (h5 k hk) hz) hm hb3
  have hF : Fr fp w w3 := (hF1.trans_ (ho.fr.weak (fun k hk => .inl (by rw [hk]; exact hfl)))).trans_ (Fr.of_head h4 hm)
  exact ⟨hF, hD.same hF⟩
set_option maxRecDepth 100000 in
set_option maxHeartbeats 2000000 in
theorem bar_any (w : World) (fp : Nat → Prop) (g : Nat) (D : DK) (h : Dsk w fp g D) (hf : D.fuse ≤ 9223372036854775807) (hd : 0 ≤ D.done ∧ D.done ≤ 1000000) (hl : D.row.length ≤ 1000) (hat : ∀ x ∈ D.row, 0 ≤ x.f0 ∧ x.f0 < D.l.length) :
    Calls Try.prog 12 #[.pointer (some ⟨g, 0, none⟩)] w fun e w' => e = .returned (.int .i64 (barE D)) ∧ DskPost w fp g (barD D) w' := by
  have hc := can_any w fp g D 0 h
  have hb := burn_any w fp g D h hf hd
  have hsame := h.same (Fr.refl fp w)
  by_cases e0 : canE D 0 = 0
  · rw [e0] at hc
    have hlp : 0 < D.l.length := by have := canE_ok e0; omega
    by_cases f0 : burnE D = 0
    · have HE := Lib.hid (show barE D = 0 by rw [barE, if_pos e0, f0])
      have HD := Lib.hid (show barD D = { burnD D with l := applyAll (burnD D).l (burnD D).row, row := [] } by rw [barD, if_pos e0, if_pos f0, burn_l, burn_row])
      rw [HE.out, HD.out]
      rw [f0] at hb
      rw [← burn_l D] at hlp
      have hrl : (burnD D).row.length ≤ 1000 := by rw [burn_row]; exact hl
      have hat1 : ∀ x ∈ (burnD D).row, 0 ≤ x.f0 ∧ x.f0 < (burnD D).l.length := by rw [burn_row, burn_l]; exact hat
      clear HE HD h hsame f0 e0 hat hl
      generalize burnD D = D1 at *
      obtain ⟨l, row, f, d, n⟩ := D1
      dsimp only at *
      go_enter Try.func12, Try.ntmps12
      go_wp2_with fail
      refine hc.mono ?_
      rintro e w1 ⟨rfl, rfl⟩
      clear hc
      go_wp2_with fail
      refine hb.mono ?_
      rintro e w1 ⟨rfl, hF1, hs1, hD1⟩
      clear hb
      have HS1 := Lib.hid hs1
      clear hs1
      obtain ⟨L, R, h1, h2, h3, h4, h5⟩ := hD1
      obtain ⟨A, cap, rfl, hcap, hrC⟩ := Kd.R_reads h3
      obtain ⟨gl, cl, rfl, _, hgl, _⟩ := Kd.R_form h2 hlp
      have c1 := (blk_cell h1 1).trans rfl
      have hgg : g ≠ gl := fun e => Kd.R_ne h2 h1 (by decide) (by rw [e]; rfl)
      have hfl : fp gl := h2.1 gl rfl
      have hgl2 : some gl ≠ (Value.slice A row.length cap).ownBlock := by
        obtain ⟨_, _, he, _, _, cells, hcl⟩ := Kd.R_form h2 hlp
        injection he with he1
        injection he1 with he1
        injection he1 with he1
        rw [← he1] at hcl
        exact Kd.R_ne h3 hcl (by decide)
      have HO := Lib.hid (show Outs w1 w1 fp g gl cl l (.slice A row.length cap) row #[.slice (some ⟨gl, 0, none⟩) l.length cl, .slice A row.length cap, .int .i64 f, .bool d, .int .i64 n] from ⟨Fr.refl _ _, h1, h2, h3⟩)
      clear h1 h2 h3 hrC
      go_wp2_with fail
      go_loopw [22] (fun iv wr => ∃ k : Nat, iv = .int .i64 (k : Int) ∧ k ≤ row.length ∧ Outs w1 wr fp g gl cl (applyAll l (row.take k)) (.slice A row.length cap) row #[.slice (some ⟨gl, 0, none⟩) l.length cl, .slice A row.length cap, .int .i64 f, .bool d, .int .i64 n]) (fun iv _ => row.length - (intOf iv).toNat)
      case atStart => exact ⟨0, rfl, Nat.zero_le _, HO.out⟩
      case round =>
        obtain ⟨k, rfl, hk, ho⟩ := hrel
        by_cases hlt : k < row.length
        · have hlt2 : (k : Int) < (row.length : Int) := by omega
          have hk0 : (0 : Int) ≤ (k : Int) := by omega
          obtain ⟨A', c', hA, _, hrC⟩ := Kd.R_reads ho.hr
          injection hA with hA1 hA2 hA3
          subst hA1
          obtain ⟨ad, rfl, p0, p1⟩ := at_T65 hrC (k : Int) hk0 hlt2
          rw [Int.toNat_natCast, rd65 row k hlt] at p0 p1
          have hxm : row[k] ∈ row := List.getElem_mem hlt
          have hx := hat1 _ hxm
          have hsn := Lib.hid (applyAll_snoc l row k hlt)
          have hal := applyAll_len (row.take k) l
          generalize row[k] = x at *
          generalize applyAll l (row.take k) = lk at *
          have hoB := ho.box (.cells #[.int .i64 x.f0, .string x.f1] 65)
          have y0 := (blk_cell (blk_new wr (.cells #[.int .i64 x.f0, .string x.f1] 65)) 0).trans rfl
          have y1 := (blk_cell (blk_new wr (.cells #[.int .i64 x.f0, .string x.f1] 65)) 1).trans rfl
          have u0 := (blk_cell hoB.hd 0).trans rfl
          obtain ⟨e1, e2⟩ := Kd.R_celln (⟨#[]⟩ : ByteArray) hoB.hl x.f0 hx.1 (by rw [hal]; exact hx.2)
          have hoP := Lib.hid ((hoB.put x.f0 x.f1 hgl2 hgg).drew)
          clear hA2 hA3 hrC hxm ho hoB
          go_upto_region 10 with fail
          generalize wr.alloc _ = W at *
          generalize wr.heap.size = b at *
          refine start_ (n := 10) (S := fun w' => w'.cell? ⟨g, 0, none⟩ = some (.slice (some ⟨gl, 0, none⟩) l.length cl) ∧ w'.cell? ⟨b, 0, none⟩ = some (.int .i64 x.f0) ∧ w'.cell? ⟨b, 1, none⟩ = some (.string x.f1)) (ds := [9]) #[false, false, false, false, false, false, false, false, false, false] (by kernel_rfl) rfl rfl ⟨u0, y0, y1⟩ (fun hHeld => ?_)
          refine pure_ (i := 0) (N := some 26) (v := ?_) (a' := ?_) #[true, false, false, false, false, false, false, false, false, false] rfl rfl (by kernel_rfl) (fun _ _ _ h => h) (Or.inl ⟨by rfl, ?_⟩) ?_ ?_
          rotate_left
          · intro w'
            go_simp
            with_reducible rfl
          rotate_left
          · simp only [Act.put, List.setIfInBounds_toArray, List.set_cons_zero, List.set_cons_succ, i64_w, i32_w]
            rfl
          refine pure_ (i := 1) (N := some 27) (v := ?_) (a' := ?_) #[true, true, false, false, false, false, false, false, false, false] rfl rfl (by kernel_rfl) (fun _ _ _ h => h) (Or.inl ⟨by rfl, ?_⟩) ?_ ?_
          rotate_left
          · intro w'
            go_simp
            with_reducible rfl
          rotate_left
          · simp only [Act.put, List.setIfInBounds_toArray, List.set_cons_zero, List.set_cons_succ, i64_w, i32_w]
            rfl
          refine pure_ (i := 2) (N := some 28) (v := ?_) (a' := ?_) #[true, true, true, false, false, false, false, false, false, false] rfl rfl (by kernel_rfl) (fun _ _ _ h => h) (Or.inl ⟨by rfl, ?_⟩) ?_ ?_
          rotate_left
          · intro w'
            go_simp
            with_reducible rfl
          rotate_left
          · simp only [Act.put, List.setIfInBounds_toArray, List.set_cons_zero, List.set_cons_succ, i64_w, i32_w]
            rfl
          refine pure_ (i := 4) (N := some 30) (v := ?_) (a' := ?_) #[true, true, true, false, true, false, false, false, false, false] rfl rfl (by kernel_rfl) (fun _ _ _ h => h) (Or.inl ⟨by rfl, ?_⟩) ?_ ?_
          rotate_left
          · intro w'
            go_simp
            with_reducible rfl
          rotate_left
          · simp only [Act.put, List.setIfInBounds_toArray, List.set_cons_zero, List.set_cons_succ, i64_w, i32_w]
            rfl
          refine pure_ (i := 6) (N := some 32) (v := ?_) (a' := ?_) #[true, true, true, false, true, false, true, false, false, false] rfl rfl (by kernel_rfl) (fun _ _ _ h => h) (Or.inl ⟨by rfl, ?_⟩) ?_ ?_
          rotate_left
          · intro w'
            go_simp
            with_reducible rfl
          rotate_left
          · simp only [Act.put, List.setIfInBounds_toArray, List.set_cons_zero, List.set_cons_succ, i64_w, i32_w]
            rfl
          refine take_ (i := 3) (N := some 29) (v := ?_) (a' := ?_) #[true, true, true, true, true, false, true, false, false, false] rfl rfl (by kernel_rfl) (fun _ _ _ h => h) (Or.inl ⟨by rfl, ?_⟩) hHeld ?_ ?_
          rotate_left
          · rintro w' ⟨s0, s1, s2⟩
            go_simp
            with_reducible rfl
          rotate_left
          · simp only [Act.put, List.setIfInBounds_toArray, List.set_cons_zero, List.set_cons_succ, i64_w, i32_w]
            rfl
          refine take_ (i := 5) (N := some 31) (v := ?_) (a' := ?_) #[true, true, true, true, true, true, true, false, false, false] rfl rfl (by kernel_rfl) (fun _ _ _ h => h) (Or.inl ⟨by rfl, ?_⟩) hHeld ?_ ?_
          rotate_left
          · rintro w' ⟨s0, s1, s2⟩
            go_simp
            with_reducible rfl
          rotate_left
          · simp only [Act.put, List.setIfInBounds_toArray, List.set_cons_zero, List.set_cons_succ, i64_w, i32_w]
            rfl
          refine take_ (i := 7) (N := some 33) (v := ?_) (a' := ?_) #[true, true, true, true, true, true, true, true, false, false] rfl rfl (by kernel_rfl) (fun _ _ _ h => h) (Or.inl ⟨by rfl, ?_⟩) hHeld ?_ ?_
          rotate_left
          · rintro w' ⟨s0, s1, s2⟩
            go_simp
            with_reducible rfl
          rotate_left
          · simp only [Act.put, List.setIfInBounds_toArray, List.set_cons_zero, List.set_cons_succ, i64_w, i32_w]
            rfl
          refine pure_ (i := 8) (N := some 34) (v := ?_) (a' := ?_) #[true, true, true, true, true, true, true, true, true, false] rfl rfl (by kernel_rfl) (fun _ _ _ h => h) (Or.inl ⟨by rfl, ?_⟩) ?_ ?_
          rotate_left
          · intro w'
            go_simp
            with_reducible rfl
          rotate_left
          · simp only [Act.put, List.setIfInBounds_toArray, List.set_cons_zero, List.set_cons_succ, i64_w, i32_w]
            rfl
          refine last_ (i := 9) (N := none) #[true, true, true, true, true, true, true, true, true, true] rfl rfl (by kernel_rfl) (by decide) (fun K hK => ?_)
          refine skip_ (w1 := ?_) (by rfl) rfl ?_ ?_
          rotate_left
          · go_simp
            rfl
          refine hK.out _ _ ?_
          clear hK K
          refine done_ (by kernel_rfl) ?_
          generalize (W.setCell ⟨gl, x.f0.toNat, none⟩ (.string x.f1)).drew = W3 at *
          clear y0 y1 u0 e1 e2 hHeld
          go_wp2
          go_roundw
          case rel => exact ⟨k + 1, by go_num, by omega, by rw [hsn.out]; exact hoP.out⟩
          case measure => simp [intOf]; omega
        · obtain rfl : k = row.length := by omega
          rw [List.take_of_length_le (Nat.le_refl _)] at ho
          have d1 := (blk_cell ho.hd 1).trans rfl
          have df := blk_frozen ho.hd 1
          have HOO := Lib.hid ho
          clear ho
          go_wp2
          go_ret
          exact ⟨rfl, outs_post hF1 HS1.out HOO.out hfl h4 h5 ((Mod.refl [g] wr).setCell (p := ⟨g, 1, none⟩) (by simp) (.slice none 0 0)) (by rw [applyAll_len]; exact blk_put HOO.out.hd 1 (.slice none 0 0) rfl)⟩
    · have hb9 : burnE D = 9 := by unfold burnE at *; split at f0 <;> simp_all
      have HE := Lib.hid (show barE D = 9 by rw [barE, if_pos e0, hb9])
      have HD := Lib.hid (show barD D = burnD D by rw [barD, if_pos e0, if_neg f0])
      rw [HE.out, HD.out]
      rw [hb9] at hb
      clear HE HD h hsame f0 e0 hlp hat
      generalize burnD D = D1 at *
      go_enter Try.func12, Try.ntmps12
      go_wp2_with fail
      refine hc.mono ?_
      rintro e w1 ⟨rfl, rfl⟩
      clear hc
      go_wp2_with fail
      refine hb.mono ?_
      rintro e w1 ⟨rfl, hF1, hs1, hD1⟩
      clear hb
      have HS1 := Lib.hid hs1
      clear hs1
      go_wp2
      go_ret
      exact ⟨rfl, hF1, hD1.same hF1⟩
  · have HE := Lib.hid (show barE D = canE D 0 by rw [barE, if_neg e0])
    have HD := Lib.hid (show barD D = D by rw [barD, if_neg e0])
    rw [HE.out, HD.out]
    have t1 : (canE D 0 == 0) = false := by simpa using e0
    have t2 : (canE D 0 != 0) = true := by simp [e0]
    clear HE HD e0 h hb hat
    generalize canE D 0 = E at *
    go_enter Try.func12, Try.ntmps12
    go_wp2_with fail
    refine hc.mono ?_
    rintro e w1 ⟨rfl, rfl⟩
    clear hc
    go_wp2
    go_ret
    exact ⟨rfl, Fr.refl _ _, hsame⟩
end Go.Proofs.Ytcohfbmfmlmblaa
