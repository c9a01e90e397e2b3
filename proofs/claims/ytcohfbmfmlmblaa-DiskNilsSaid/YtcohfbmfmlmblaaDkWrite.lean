/- What Write, Start and the like do to a disk. -/
import Derived.Test.YtcohfbmfmlmblaaDkRead
set_option linter.unusedVariables false
set_option linter.unusedSimpArgs false
namespace Go.Proofs.Ytcohfbmfmlmblaa
open Go.RowKit Go.Proofs.YtcohfbmfmlmblaaW.PrintWords Go.Proofs.Ytcohfbmfmlmblaa.PDiskPlays
theorem info65 : (Try.prog.info? 65).map (fun i => (i.zero, i.size, i.bytes)) = some (some (.agg #[.int .i64 0, .string ⟨#[]⟩]), 2, 24) := by kernel_rfl
/-- The sectors' row is none of the writes' row. -/
theorem rows_apart {w : World} {fp : Nat → Prop} {L R : Value} {l : List ByteArray} {row : List S65} (h2 : Kd.R Kd.string 9 w 0 fp L l) (h3 : Kd.R k65 65 w 0 fp R row) : Kd.R Kd.string 9 w 0 (fun k => fp k ∧ some k ≠ R.ownBlock) L l :=
  Kd.R_mono (Kd.R_bound h2) (fun k hk => ⟨hk.1, by
    obtain ⟨_, _, _, q, hq, cells, hc⟩ := hk
    have hq9 : q = 9 := by simpa [Kd.string, Kd.scalar] using hq
    subst hq9
    exact Kd.R_ne h3 hc (by decide)⟩)
theorem rows_apart' {w : World} {fp : Nat → Prop} {L R : Value} {l : List ByteArray} {row : List S65} (h2 : Kd.R Kd.string 9 w 0 fp L l) (h3 : Kd.R k65 65 w 0 fp R row) : Kd.R k65 65 w 0 (fun k => fp k ∧ some k ≠ L.ownBlock) R row :=
  Kd.R_mono (Kd.R_bound h3) (fun k hk => ⟨hk.1, by
    obtain ⟨_, _, _, q, hq, cells, hc⟩ := hk
    have hq9 : q = 65 := by simpa [k65, Kd.iso, Kd.pair, Kd.int, Kd.string, Kd.scalar] using hq
    subst hq9
    exact Kd.R_ne h2 hc (by decide)⟩)
def writeE (D : DK) (i : Int) (s : ByteArray) : Int := if canE D i = 0 then (if s.size = 128 then burnE D else 1) else canE D i
def writeD (D : DK) (i : Int) (s : ByteArray) : DK :=
  if canE D i = 0 then (if s.size = 128 then (if burnE D = 0 then { burnD D with row := (burnD D).row ++ [⟨i, s⟩] } else burnD D) else D) else D
def DskPost (w : World) (fp : Nat → Prop) (g : Nat) (D : DK) (w' : World) : Prop := Fr fp w w' ∧ Dsk w' (grow fp w w') g D
theorem burn_row (D : DK) : (burnD D).row = D.row := by unfold burnD; split <;> rfl
/-- A disk whose writes' row has grown, and whose head was set then. -/
theorem app_post {w w1 w2 w3 : World} {fp : Nat → Prop} {g : Nat} {l : List ByteArray} {row : List S65} {L R : Value} {cs : Array Value} {f n : Int} {d : Bool} {P : Nat → Prop}
    (hF1 : Fr fp w w1) (hs1 : w1.heap.size = w.heap.size) (hF2 : Fr (fun k => fp k ∨ w1.heap.size ≤ k) w1 w2) (hm3 : Mod [g] w2 w3)
    (hg2 : w2.heap[g]? = some (.cells cs 67 (0, 0))) (hb3 : w3.heap[g]? = some (.cells #[L, R, .int .i64 f, .bool d, .int .i64 n] 67 (0, 0)))
    (hL2 : Kd.R Kd.string 9 w2 0 (fun k => fp k ∧ P k) L l) (hR2 : Kd.R k65 65 w2 0 (fun k => fp k ∨ w1.heap.size ≤ k) R row) (h4 : fp g) (h5 : ∀ k, fp k → k < w1.heap.size) :
    DskPost w fp g ⟨l, row, f, d, n⟩ w3 := by
  have hz2 := hF2.size
  have hz3 := hm3.size
  have q1 := Kd.R_types (Kd.R_mono (ok' := fp) hL2 (fun k hk => hk.1)) hg2 (fun q hq => by simp [Kd.string, Kd.scalar] at hq; omega)
  have q2 := Kd.R_types hR2 hg2 (fun q hq => by simp [k65, Kd.iso, Kd.pair, Kd.string, Kd.int, Kd.scalar] at hq; omega)
  have p1 := Kd.R_bound (Kd.R_step q1 (fun k hk hlt => hm3.block k hlt (by simp; exact hk.2)))
  have p2 := Kd.R_bound (Kd.R_step q2 (fun k hk hlt => hm3.block k hlt (by simp; exact hk.2)))
  refine ⟨(hF1.trans hF2 (fun k hk => hk.elim .inl (fun h => .inr (by omega)))).trans_ ((Fr.of_mod hm3).weak (fun k hk => .inl (by rw [show k = g from List.mem_singleton.1 hk]; exact h4))), L, R, hb3, ?_, ?_, grow_old h4 (by have := h5 g h4; omega), fun k hk => hk.2⟩
  · exact Kd.R_mono p1 (fun k hk => grow_old hk.1.1 hk.2.2.1)
  · exact Kd.R_mono p2 (fun k hk => ⟨hk.1.1.elim .inl (fun h => .inr (by omega)), hk.2.2.1⟩)
set_option maxRecDepth 100000 in
set_option maxHeartbeats 1000000 in
theorem write_any (w : World) (fp : Nat → Prop) (g : Nat) (D : DK) (i : Int) (s : ByteArray) (h : Dsk w fp g D) (hf : D.fuse ≤ 9223372036854775807) (hd : 0 ≤ D.done ∧ D.done ≤ 1000000) (hl : D.row.length ≤ 1000) (hsz : s.size ≤ 1000000) :
    Calls Try.prog 14 #[.pointer (some ⟨g, 0, none⟩), .int .i64 i, .string s] w fun e w' => e = .returned (.int .i64 (writeE D i s)) ∧ DskPost w fp g (writeD D i s) w' := by
  have hc := can_any w fp g D i h
  have hb := burn_any w fp g D h hf hd
  have hsame := h.same (Fr.refl fp w)
  by_cases e0 : canE D i = 0
  · rw [e0] at hc
    by_cases s0 : s.size = 128
    · have HE := Lib.hid (show writeE D i s = burnE D by rw [writeE, if_pos e0, if_pos s0])
      have t1 : ((s.size : Int) == 128) = true := by simp [s0]
      have t2 : ((s.size : Int) != 128) = false := by simp [s0]
      by_cases f0 : burnE D = 0
      · have HD := Lib.hid (show writeD D i s = { burnD D with row := (burnD D).row ++ [⟨i, s⟩] } by rw [writeD, if_pos e0, if_pos s0, if_pos f0])
        rw [HE.out, HD.out, f0]
        rw [f0] at hb
        have hrl : (burnD D).row.length ≤ 1000 := by rw [burn_row]; exact hl
        clear HE HD h hsame s0 f0 e0
        generalize burnD D = D1 at *
        obtain ⟨l, row, f, d, n⟩ := D1
        dsimp only at *
        go_enter Try.func14, Try.ntmps14
        go_wp2_with fail
        refine hc.mono ?_
        rintro e w1 ⟨rfl, rfl⟩
        clear hc
        go_wp2_with fail
        refine hb.mono ?_
        rintro e w1 ⟨rfl, hF1, hs1, hD1⟩
        clear hb
        have HS1 := Lib.hid hs1
        clear hs1
        obtain ⟨L, R, h1, h2, h3, h4, h5⟩ := hD1
        have c1 := (blk_cell h1 1).trans rfl
        have f1 := blk_frozen h1 1
        obtain ⟨A, cap, rfl, hcap, hrC⟩ := Kd.R_reads h3
        have HO := Lib.hid (Kd.R_mono (ok' := fun k => fp k ∨ w1.heap.size ≤ k) h3 (fun k hk => .inl hk))
        have H2 := Lib.hid (rows_apart h2 h3)
        have H1 := Lib.hid h1
        have hgne : some g ≠ (Value.slice A row.length cap).ownBlock := Kd.R_ne h3 h1 (by decide)
        have HOB := Lib.hid (fun k hk => h3.1 k hk)
        have hgl := h5 g h4
        clear h1 h2 h3 hrC hsz
        go_upto_region 9 with fail
        go_wp2_with (at_builtin; refine Kd.R_append k65 (w0 := w1) 0 rfl (.tmp 27) (.tmp 31) 63 65 (.agg #[.int .i64 0, .string ⟨#[]⟩]) 24 rfl Try.underlying63 info65 rfl (by decide) (by decide) (.slice A row.length cap) row ⟨i, s⟩ [.int .i64 i, .string s] (fun k => fp k ∨ w1.heap.size ≤ k) (fun _ => False) rfl rfl (k65_mkM _ _ _ ⟨i, s⟩) (fun _ hk => hk.elim) (fun k hk => .inr hk) HO.out (Below.refl 0 w1) (Nat.zero_le _) (by omega) ?_; intro v1 w2 hown1 hb1 hgr hat; obtain ⟨A1, k1, rfl⟩ := Kd.R_slice hown1; have hg2 := (hgr.block g hgl hgne).trans H1.out; have d1 := (blk_cell hg2 1).trans rfl; have df := blk_frozen hg2 1; have HG2 := Lib.hid hg2; have HGR := Lib.hid hgr; have HO1 := Lib.hid hown1; clear hg2 hgr hown1 hb1 hat c1 f1)
        go_ret
        refine ⟨rfl, ?_⟩
        have hm3 := (Mod.refl [g] w2).setCell (p := ⟨g, 1, none⟩) (by simp) (.slice A1 (row.length + 1) k1)
        have hb3 := blk_put HG2.out 1 (.slice A1 (row.length + 1) k1) rfl
        have hL2 := Kd.R_grown H2.out HGR.out (fun k hk => hk.2)
        have hF2 : Fr (fun k => fp k ∨ w1.heap.size ≤ k) w1 w2 := (Fr.of_grown HGR.out).weak (fun k hk => .inl (.inl (HOB.out k hk.symm)))
        have HO2 := HO1.out
        rw [List.length_append, List.length_singleton] at HO2
        exact app_post hF1 HS1.out hF2 hm3 HG2.out hb3 hL2 HO2 h4 h5
      · have HD := Lib.hid (show writeD D i s = burnD D by rw [writeD, if_pos e0, if_pos s0, if_neg f0])
        rw [HE.out, HD.out]
        have hb9 : burnE D = 9 := by unfold burnE at *; split at f0 <;> simp_all
        rw [hb9] at hb ⊢
        clear HE HD h hsame s0 f0 e0
        generalize burnD D = D1 at *
        go_enter Try.func14, Try.ntmps14
        go_wp2_with fail
        refine hc.mono ?_
        rintro e w1 ⟨rfl, rfl⟩
        clear hc
        go_wp2_with fail
        refine hb.mono ?_
        rintro e w1 ⟨rfl, hF1, hs1, hD1⟩
        clear hb
        have HS1 := Lib.hid hs1
        clear hs1
        go_wp2
        go_ret
        exact ⟨rfl, hF1, hD1.same hF1⟩
    · have HE := Lib.hid (show writeE D i s = 1 by rw [writeE, if_pos e0, if_neg s0])
      have HD := Lib.hid (show writeD D i s = D by rw [writeD, if_pos e0, if_neg s0])
      rw [HE.out, HD.out]
      have t1 : ((s.size : Int) == 128) = false := by simp; omega
      have t2 : ((s.size : Int) != 128) = true := by simp; omega
      clear HE HD s0 e0 h hb
      go_enter Try.func14, Try.ntmps14
      go_wp2_with fail
      refine hc.mono ?_
      rintro e w1 ⟨rfl, rfl⟩
      clear hc
      go_wp2
      go_ret
      exact ⟨rfl, Fr.refl _ _, hsame⟩
  · have HE := Lib.hid (show writeE D i s = canE D i by rw [writeE, if_neg e0])
    have HD := Lib.hid (show writeD D i s = D by rw [writeD, if_neg e0])
    rw [HE.out, HD.out]
    have t1 : (canE D i == 0) = false := by simpa using e0
    have t2 : (canE D i != 0) = true := by simp [e0]
    clear HE HD e0 h hb
    generalize canE D i = E at *
    go_enter Try.func14, Try.ntmps14
    go_wp2_with fail
    refine hc.mono ?_
    rintro e w1 ⟨rfl, rfl⟩
    clear hc
    go_wp2
    go_ret
    exact ⟨rfl, Fr.refl _ _, hsame⟩
end Go.Proofs.Ytcohfbmfmlmblaa
