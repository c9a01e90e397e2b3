/- A step on both disks, whatever it is; what holds behind it; what alike tells. -/
import Derived.Test.YtcohfbmfmlmblaaDkStepC
set_option linter.unusedVariables false
set_option linter.unusedSimpArgs false
namespace Go.Proofs.Ytcohfbmfmlmblaa
open Go.RowKit Go.Proofs.YtcohfbmfmlmblaaW.PrintWords Go.Proofs.Ytcohfbmfmlmblaa.PDiskPlays Go.Proofs.YtcohfbmfmlmblaaW.PrintMore
theorem step_any {w w1 : World} {g : Nat} {D : DK} {x : Value} {b : Nat} {B : Nat → Prop} (h : PS w w1 g D x D B) (hG : Good D b) (hb : b ≤ 900) (o : S25) (KA : Option Addr) (kc : Nat) (hk : Kd.C Kd.bool w KA o.f6.length o.f6) (hkc : o.f6.length ≤ kc) :
    Calls Try.prog 23 #[.pointer (some ⟨g, 0, none⟩), x, .agg #[.int .i64 o.f0, .int .i64 o.f1, .int .i64 o.f2, .int .i64 o.f3, .int .i64 o.f4, .int .u8 o.f5, .slice KA o.f6.length kc]] w1 (StepPost w w1 g (stepO o D) B) := by
  obtain ⟨o0, o1, o2, o3, o4, o5, keep⟩ := o
  dsimp only at *
  unfold stepO
  dsimp only
  by_cases h0 : o0 = 0
  · rw [if_pos h0]; exact step_0 h hG hb o0 o1 o2 o3 o4 o5 keep KA kc hk hkc h0
  · rw [if_neg h0]
    by_cases h1 : o0 = 1
    · rw [if_pos h1]; exact step_1 h hG hb o0 o1 o2 o3 o4 o5 keep KA kc hk hkc h1
    · rw [if_neg h1]
      by_cases h2 : o0 = 2
      · rw [if_pos h2]; exact step_2 h hG hb o0 o1 o2 o3 o4 o5 keep KA kc hk hkc h2
      · rw [if_neg h2]
        by_cases h3 : o0 = 3
        · rw [if_pos h3]; exact step_3 h hG hb o0 o1 o2 o3 o4 o5 keep KA kc hk hkc h3
        · rw [if_neg h3]
          by_cases h4 : o0 = 4
          · rw [if_pos h4]; exact step_4 h hG hb o0 o1 o2 o3 o4 o5 keep KA kc hk hkc h4
          · rw [if_neg h4]; exact step_5 h hG hb o0 o1 o2 o3 o4 o5 keep KA kc hk hkc (by omega)
theorem applyAll_sizes (row : List S65) (hr : ∀ x ∈ row, x.f1.size = 128) : ∀ l : List ByteArray, (∀ s ∈ l, s.size = 128) → ∀ s ∈ applyAll l row, s.size = 128 := by
  induction row with
  | nil => intro l hl; exact hl
  | cons x t ih =>
    intro l hl
    rw [applyAll_cons]
    exact ih (fun y hy => hr y (List.mem_cons_of_mem _ hy)) _ (set_sizes hl _ (hr x List.mem_cons_self))
theorem failTo_sizes (keep : List Bool) (torn : Int) (n : Nat) (l : List ByteArray) (row : List S65) (hn : n ≤ 128) (hl : ∀ s ∈ l, s.size = 128) (hr : ∀ x ∈ row, x.f1.size = 128) (hat : ∀ x ∈ row, 0 ≤ x.f0 ∧ x.f0 < l.length) : ∀ k, k ≤ row.length → ∀ s ∈ failTo keep torn n l row k, s.size = 128
  | 0, _ => hl
  | k + 1, hk => by
    have ih := failTo_sizes keep torn n l row hn hl hr hat k (by omega)
    have hxm : rd_T65 row (k : Int) ∈ row := by rw [rd65 row k (by omega)]; exact List.getElem_mem _
    have hx := hat _ hxm
    rw [failTo, failStep]
    split
    · exact set_sizes ih _ (tear_size (hr _ hxm) (getD_size ih _ (by rw [failTo_len]; omega)) hn)
    · split
      · exact set_sizes ih _ (hr _ hxm)
      · exact ih
theorem Good.burn {D : DK} {b : Nat} (h : Good D b) : Good (burnD D) (b + 1) := by
  have hd := h.dn
  have hf := h.fz
  have hr := h.rl
  unfold burnD
  split
  · exact ⟨h.lp, h.ll, h.fz, ⟨hd.1, by show D.done ≤ _; omega⟩, by show D.row.length ≤ _; omega, h.ats, h.szs, h.szl⟩
  · refine ⟨h.lp, h.ll, ?_, ⟨by show 0 ≤ D.done + 1; omega, by show D.done + 1 ≤ _; omega⟩, by show D.row.length ≤ _; omega, h.ats, h.szs, h.szl⟩
    show (if 0 < D.fuse then D.fuse - 1 else D.fuse) ≤ _
    split <;> omega
theorem Good.up {D : DK} {b : Nat} (h : Good D b) : Good D (b + 1) := ⟨h.lp, h.ll, h.fz, ⟨h.dn.1, by have := h.dn.2; omega⟩, by have := h.rl; omega, h.ats, h.szs, h.szl⟩
theorem Good.step {D : DK} {b : Nat} (h : Good D b) (o : S25) (ho : o.f2 ≤ 9223372036854775807) : Good (stepO o D) (b + 1) := by
  unfold stepO
  split
  · unfold writeD
    split
    · rename_i hc
      split
      · rename_i hs
        split
        · have hB := h.burn
          have hok := canE_ok hc
          refine ⟨hB.lp, hB.ll, hB.fz, hB.dn, ?_, fun x hx => ?_, fun x hx => ?_, hB.szl⟩
          · show ((burnD D).row ++ [_]).length ≤ b + 1
            rw [burn_row, List.length_append]; have := h.rl; simp; omega
          · rcases List.mem_append.1 hx with hx | hx
            · exact hB.ats x hx
            · rw [List.mem_singleton.1 hx]
              show 0 ≤ o.f1 ∧ o.f1 < ((burnD D).l.length : Int)
              rw [burn_l]; exact hok
          · rcases List.mem_append.1 hx with hx | hx
            · exact hB.szs x hx
            · rw [List.mem_singleton.1 hx]; exact hs
        · exact h.burn
      · exact h.up
    · exact h.up
  · split
    · unfold barD
      split
      · split
        · have hB := h.burn
          refine ⟨?_, ?_, hB.fz, hB.dn, Nat.zero_le _, fun x hx => (by cases hx), fun x hx => (by cases hx), applyAll_sizes D.row h.szs D.l h.szl⟩
          · show 0 < (applyAll D.l D.row).length
            rw [applyAll_len]; exact h.lp
          · show (applyAll D.l D.row).length ≤ 2048
            rw [applyAll_len]; exact h.ll
        · exact h.burn
      · exact h.up
    · split
      · have hu := h.up
        refine ⟨hu.lp, hu.ll, ?_, hu.dn, hu.rl, hu.ats, hu.szs, hu.szl⟩
        show (if o.f2 < 0 then -1 else o.f2) ≤ _
        split <;> omega
      · split
        · have hu := h.up
          refine ⟨?_, ?_, by show (-1 : Int) ≤ _; omega, hu.dn, Nat.zero_le _, fun x hx => (by cases hx), fun x hx => (by cases hx), ?_⟩
          · show 0 < (failTo _ _ _ D.l D.row _).length
            rw [failTo_len]; exact h.lp
          · show (failTo _ _ _ D.l D.row _).length ≤ 2048
            rw [failTo_len]; exact h.ll
          · exact failTo_sizes o.f6 o.f3 (clampAt o.f2) D.l D.row (clampAt_le _) h.szl h.szs h.ats D.row.length (Nat.le_refl _)
        · split
          · have hu := h.up
            unfold startD
            split
            · exact ⟨hu.lp, hu.ll, by show (-1 : Int) ≤ _; omega, hu.dn, Nat.zero_le _, fun x hx => (by cases hx), fun x hx => (by cases hx), hu.szl⟩
            · exact hu
          · exact h.up
theorem Good.new (n : Nat) (h0 : 1 ≤ n) (h1 : n ≤ 2048) : Good (newD n) 0 :=
  ⟨by simp [newD]; omega, by simp [newD]; omega, by simp [newD], by simp [newD], by simp [newD], fun x hx => (by cases hx), fun x hx => (by cases hx), fun s hs => by rw [List.eq_of_mem_replicate hs]; exact zero_size⟩
/-- What is out. -/
def outS (D : DK) (i : Int) : ByteArray := if i < 0 ∨ (D.l.length : Int) ≤ i then ⟨#[]⟩ else rdOf ByteArray.empty D.l i
theorem out_any (w : World) (fp : Nat → Prop) (g : Nat) (D : DK) (i : Nat) (h : Dsk w fp g D) (hi : i < D.l.length) : Calls Try.prog 27 #[.pointer (some ⟨g, 0, none⟩), .int .i64 (i : Int)] w fun e w' => e = .returned (.string (rdOf ByteArray.empty D.l (i : Int))) ∧ w = w' := by
  obtain ⟨L, R, h1, h2, h3, h4, h5⟩ := h
  obtain ⟨A, c, rfl, hc, hC⟩ := Kd.R_reads h2
  have c0 := (blk_cell h1 0).trans rfl
  have i0 : (0 : Int) ≤ (i : Int) := by omega
  have i1 : (i : Int) < (D.l.length : Int) := by omega
  obtain ⟨ad, rfl, he⟩ := Kd.at_string hC (i : Int) i0 i1
  rw [Int.toNat_natCast] at he
  clear h2 h3 hC
  generalize rdOf ByteArray.empty D.l (i : Int) = s at *
  go_enter Try.func27, Try.ntmps27
  go_wp2
  go_ret
  exact ⟨rfl, rfl⟩
theorem info3 : (Try.prog.info? 3).map (fun i => (i.zero, i.size, i.bytes)) = some (some (.int .i64 0), 1, 8) := by kernel_rfl
set_option maxRecDepth 100000 in
set_option maxHeartbeats 1000000 in
theorem waiting_any (w : World) (fp : Nat → Prop) (g : Nat) (D : DK) (h : Dsk w fp g D) (hl : D.row.length ≤ 1000) : Calls Try.prog 25 #[.pointer (some ⟨g, 0, none⟩)] w fun e w' => ∃ A c, e = .returned (.slice A D.row.length c) ∧ D.row.length ≤ c ∧ Mod [] w w' ∧ ReadsInt w' .i64 A D.row.length (D.row.map (·.f0)) := by
  have hd := h
  obtain ⟨L, R, h1, h2, h3, h4, h5⟩ := h
  obtain ⟨A, c, rfl, hc, hC⟩ := Kd.R_reads h3
  have c1 := (blk_cell h1 1).trans rfl
  clear h2 h4 h1
  go_enter Try.func25, Try.ntmps25
  go_wp2_with fail
  go_loopw [3, 14] (fun v iv wr => ∃ (k : Nat) (os : List Int), iv = .int .i64 (k : Int) ∧ k ≤ D.row.length ∧ os = (D.row.take k).map (·.f0) ∧ Mod [] w wr ∧ wr.ownsRow w.heap.size 3 1 v os.length (nums .i64 os)) (fun _ iv _ => D.row.length - (intOf iv).toNat)
  case atStart => exact ⟨0, [], rfl, Nat.zero_le _, rfl, Mod.refl _ _, own_nil _ _ _ _⟩
  case round =>
    obtain ⟨k, os, rfl, hk, hos, hm, ho⟩ := hrel
    by_cases hlt : k < D.row.length
    · have hlt2 : (k : Int) < (D.row.length : Int) := by omega
      have hk0 : (0 : Int) ≤ (k : Int) := by omega
      obtain ⟨ad, rfl, p0, p1⟩ := at_T65 (Kd.C_below hC hm.below0) (k : Int) hk0 hlt2
      rw [Int.toNat_natCast, rd65 D.row k hlt] at p0 p1
      have hol : os.length = k := by rw [hos]; simp; omega
      have HOS := Lib.hid (show os ++ [D.row[k].f0] = (D.row.take (k + 1)).map (·.f0) by rw [hos, List.take_add_one, List.getElem?_eq_getElem hlt, List.map_append]; rfl)
      generalize D.row[k] = x at *
      have HOL := Lib.hid hol
      have HO := Lib.hid ho
      have HM := Lib.hid (hm.alloc (.cells #[.int .i64 x.f0, .string x.f1] 65))
      have HO2 := Lib.hid (Mod.own (S := []) ((Mod.refl [] wr).alloc (.cells #[.int .i64 x.f0, .string x.f1] 65)) ho (by simp))
      have hsz := (hm.alloc (.cells #[.int .i64 x.f0, .string x.f1] 65)).size
      have y0 := (blk_cell (blk_new wr (.cells #[.int .i64 x.f0, .string x.f1] 65)) 0).trans rfl
      clear hos hol ho hm hC
      go_upto_region 7 with fail
      generalize wr.alloc _ = W at *
      generalize wr.heap.size = b at *
      go_wp2_with (at_builtin; refine append_one w.heap.size rfl (.tmp 18) (.tmp 21) 40 3 .i64 8 rfl Try.underlying40 info3 (by decide) _ os _ rfl rfl HO2.out HM.out (Nat.le_refl _) hsz (by have := HOL.out; omega) ?_; intro v1 w2 hown1 hm1 hg hat; clear hg hat)
      refine ⟨⟨k + 1, _, by go_num, by omega, HOS.out, hm1, hown1⟩, ?_⟩
      simp [intOf]; omega
    · obtain rfl : k = D.row.length := by omega
      rw [List.take_of_length_le (Nat.le_refl _)] at hos
      have hol : os.length = D.row.length := by rw [hos]; simp
      obtain ⟨A1, c1', rfl, hc1, hr2, hA1⟩ := own_form ho
      rw [hol] at hc1 hr2 ⊢
      have HR := Lib.hid hr2
      have HOS := Lib.hid hos
      have HM := Lib.hid hm
      clear ho hos hr2 hm hol hA1
      go_wp2
      go_ret
      exact ⟨A1, c1', rfl, hc1, HM.out, by rw [← HOS.out]; exact HR.out⟩
set_option maxRecDepth 100000 in
set_option maxHeartbeats 2000000 in
theorem alike_any {w w1 : World} {g : Nat} {D : DK} {x : Value} {b : Nat} {B : Nat → Prop} (h : PS w w1 g D x D B) (hG : Good D b) (hb : b ≤ 900) : Calls Try.prog 24 #[.pointer (some ⟨g, 0, none⟩), x] w1 fun e w' => e = .returned (.bool true) ∧ Mod [] w1 w' := by
  obtain ⟨fp, fq, a1, a2, a3, a4, a5, ⟨L, R, rfl, a7, a8⟩, a9⟩ := h
  obtain ⟨A, c, rfl, hc, hC⟩ := Kd.R_reads a7
  obtain ⟨A', c', rfl, hc', hC'⟩ := Kd.R_reads a8
  have hrl : (rows D.row).length = D.row.length := by simp [rows]
  rw [hrl] at hC' hc' ⊢
  have hrow : D.row.length ≤ 900 := by have := hG.rl; omega
  have hll := hG.ll
  have k3 := blk_new w1 (.cells #[.slice A D.l.length c, .slice A' D.row.length c', .int .i64 D.fuse, .bool D.down, .int .i64 D.done] 49)
  have m3 := (Mod.refl [] w1).alloc (.cells #[.slice A D.l.length c, .slice A' D.row.length c', .int .i64 D.fuse, .bool D.down, .int .i64 D.done] 49)
  have hwt := waiting_any _ fp g D (a5.mod m3) (by omega)
  have HK3 := Lib.hid k3
  have HM3 := Lib.hid m3
  clear k3 m3 a1 a2 a3 a4 a7 a8 a9 hrl hG
  go_enter Try.func24, Try.ntmps24
  go_wp2_with fail
  generalize w1.alloc _ = w2 at *
  generalize w1.heap.size = b3 at *
  refine hwt.mono ?_
  rintro e w3 ⟨AW, cW, rfl, hcW, hmW, hrW⟩
  clear hwt
  have k3 := hmW.blk HK3.out (by simp)
  have HM33 := Lib.hid (HM3.out.trans0 hmW)
  have hD3 := Lib.hid (a5.mod (HM3.out.trans0 hmW))
  have hC3 := Kd.C_below hC (HM33.out).below0
  have hC3' := Kd.C_below hC' (HM33.out).below0
  have c0 := (blk_cell k3 0).trans rfl
  have c1 := (blk_cell k3 1).trans rfl
  have c3 := (blk_cell k3 3).trans rfl
  have c4 := (blk_cell k3 4).trans rfl
  have E0 : ∀ w', Mod [] w3 w' → w'.cell? ⟨b3, 0, none⟩ = some (.slice A D.l.length c) := fun w' h => h.cell c0 (by simp)
  have E1 : ∀ w', Mod [] w3 w' → w'.cell? ⟨b3, 1, none⟩ = some (.slice A' D.row.length c') := fun w' h => h.cell c1 (by simp)
  have E3 : ∀ w', Mod [] w3 w' → w'.cell? ⟨b3, 3, none⟩ = some (.bool D.down) := fun w' h => h.cell c3 (by simp)
  have E4 : ∀ w', Mod [] w3 w' → w'.cell? ⟨b3, 4, none⟩ = some (.int .i64 D.done) := fun w' h => h.cell c4 (by simp)
  have hdw := fun w' (hm : Mod [] w3 w') => down_any w' fp g D (hD3.out.mod hm)
  have hdn := fun w' (hm : Mod [] w3 w') => done_any w' fp g D (hD3.out.mod hm)
  have hsc := fun w' (hm : Mod [] w3 w') => sectors_any w' fp g D (hD3.out.mod hm)
  have hou := fun w' (hm : Mod [] w3 w') (i : Nat) (hi : i < D.l.length) => out_any w' fp g D i (hD3.out.mod hm) hi
  clear c0 c1 c3 c4 k3 hmW hC hC' a5
  go_upto_region 2 with fail
  go_cut [37] (fun t wx => t = .bool false ∧ Mod [] w3 wx)
  case first =>
    go_region_held3 (fun w' => Mod [] w3 w') (first | exact (Mod.refl [] w3).drew | exact Mod.refl [] w3 | assumption)
      (first
        | (go_at_call 13; refine (hdw _ (by first | assumption | exact (Mod.refl [] w3).drew)).mono ?_; rintro e w4 ⟨rfl, rfl⟩)
        | (go_at_call 20; refine (hdn _ (by first | assumption | exact (Mod.refl [] w3).drew)).mono ?_; rintro e w4 ⟨rfl, rfl⟩)
        | (go_at_call 21; refine (hsc _ (by first | assumption | exact (Mod.refl [] w3).drew)).mono ?_; rintro e w4 ⟨rfl, rfl⟩))
    all_goals
      go_wp2
      go_meet
      exact ⟨rfl, by first | assumption | exact (Mod.refl [] w3).drew⟩
  case rest =>
    obtain ⟨rfl, hm4⟩ := hcut
    have HM4 := Lib.hid hm4
    clear hdw hdn hsc hm4
    go_upto_if 37 with fail
    go_wp2_with fail
    go_loopw [6] (fun iv wr => ∃ i : Nat, iv = .int .i64 (i : Int) ∧ i ≤ D.row.length ∧ Mod [] w3 wr) (fun iv _ => D.row.length - (intOf iv).toNat)
    case atStart => exact ⟨0, rfl, Nat.zero_le _, HM4.out⟩
    case round =>
      obtain ⟨i, rfl, hi, hm⟩ := hrel
      by_cases hlt : i < D.row.length
      · have hlt2 : (i : Int) < (D.row.length : Int) := by omega
        have hi0 : (0 : Int) ≤ (i : Int) := by omega
        obtain ⟨adw, rfl, pw⟩ := hrW.at_ (i : Int) hi0 hlt2
        rw [Int.toNat_natCast] at pw
        have hrd : rd (D.row.map (·.f0)) (i : Int) = D.row[i].f0 := by simp [rd, List.getD_eq_getElem?_getD, hlt]
        rw [hrd] at pw
        obtain ⟨ad, rfl, p0, p1⟩ := at_T78 hC3' (i : Int) hi0 hlt2
        rw [Int.toNat_natCast, rd78 D.row i hlt] at p0
        have p0' : w3.cell? (ad.add (i * 2)) = some (.int .i64 D.row[i].f0) := p0
        have P0 : ∀ w', Mod [] w3 w' → w'.cell? (ad.add (i * 2)) = some (.int .i64 D.row[i].f0) := fun w' h => h.cell p0' (by simp)
        have PW : ∀ w', Mod [] w3 w' → w'.cell? (adw.add i) = some (.int .i64 D.row[i].f0) := fun w' h => h.cell pw (by simp)
        generalize D.row[i].f0 = f0 at *
        clear pw p0 p0' p1 hrd
        go_upto_region 7 with fail
        go_region_held3 (fun w' => Mod [] w3 w') (first | exact hm.drew | assumption) (fail)
        have hmd := hm.drew
        go_wp2
        go_roundw
        case rel => exact ⟨i + 1, by go_num, by omega, hmd⟩
        case measure => simp [intOf]; omega
      · obtain rfl : i = D.row.length := by omega
        have hlt2 : ¬ (D.row.length : Int) < (D.row.length : Int) := by omega
        have HM5 := Lib.hid hm
        clear hm
        generalize wr = wq at *
        go_wp2_with fail
        go_loopw [7] (fun iv wr => ∃ i : Nat, iv = .int .i64 (i : Int) ∧ i ≤ D.l.length ∧ Mod [] w3 wr) (fun iv _ => D.l.length - (intOf iv).toNat)
        case atStart => exact ⟨0, rfl, Nat.zero_le _, HM5.out⟩
        case round =>
          obtain ⟨i, rfl, hi, hm⟩ := hrel
          have e0 := E0 _ hm
          by_cases hlt : i < D.l.length
          · have hlt3 : (i : Int) < (D.l.length : Int) := by omega
            have hi0 : (0 : Int) ≤ (i : Int) := by omega
            obtain ⟨ad, rfl, p0⟩ := Kd.at_string hC3 (i : Int) hi0 hlt3
            rw [Int.toNat_natCast] at p0
            have P0 : ∀ w', Mod [] w3 w' → w'.cell? (ad.add i) = some (.string (rdOf ByteArray.empty D.l (i : Int))) := fun w' h => h.cell p0 (by simp)
            have hou2 := fun w' hm => hou w' hm i hlt
            generalize rdOf ByteArray.empty D.l (i : Int) = si at *
            clear p0 hou
            go_upto_region 12 with fail
            go_region_held3 (fun w' => Mod [] w3 w') (first | exact hm.drew | assumption)
              (first | (go_at_call 27; refine (hou2 _ (by first | assumption | exact hm.drew)).mono ?_; rintro e w4 ⟨rfl, rfl⟩))
            have hmd := hm.drew
            go_wp2
            go_roundw
            case rel => exact ⟨i + 1, by go_num, by omega, hmd⟩
            case measure => simp [intOf]; omega
          · obtain rfl : i = D.l.length := by omega
            have hlt3 : ¬ (D.l.length : Int) < (D.l.length : Int) := by omega
            have HM6 := Lib.hid hm
            clear hm
            go_wp2
            go_ret
            exact ⟨rfl, HM33.out.trans0 HM6.out⟩
end Go.Proofs.Ytcohfbmfmlmblaa
