/- The reference's rows of digits: sums and differences. -/
import Derived.Test.YtijhlofmangpgaaFixRow
set_option linter.unusedVariables false
set_option linter.unusedSimpArgs false
namespace Go.Proofs.Ytijhlofmangpgaa
open Go.RowKit Go.Proofs.YtijhlofmangpgaaW.PrintWords Go.Proofs.Ytijhlofmangpgaa.Dig
theorem plus_step {os ps rs : List Int} {k : Nat} {c T : Int} (hl : os.length = k) (h : dv os + 10 ^ k * (c + dv (ps.drop k) + dv (rs.drop k)) = T) :
    dv (os ++ [(ps.getD k 0 + rs.getD k 0 + c) % 10]) + 10 ^ (k + 1) * ((ps.getD k 0 + rs.getD k 0 + c) / 10 + dv (ps.drop (k + 1)) + dv (rs.drop (k + 1))) = T := by
  rw [← h, dv_append, hl, Int.pow_succ, dv_drop ps k, dv_drop rs k, Int.add_assoc, Int.mul_assoc, ← Int.mul_add]
  congr 2
  simp only [dv]
  omega
theorem minus_step {os ps rs : List Int} {k : Nat} {c d s T : Int} (hl : os.length = k) (h : dv os + 10 ^ k * (dv (ps.drop k) - dv (rs.drop k) - c) = T) (hs : s - 10 * d = ps.getD k 0 - rs.getD k 0 - c) :
    dv (os ++ [s]) + 10 ^ (k + 1) * (dv (ps.drop (k + 1)) - dv (rs.drop (k + 1)) - d) = T := by
  rw [← h, dv_append, hl, Int.pow_succ, dv_drop ps k, dv_drop rs k, Int.add_assoc, Int.mul_assoc, ← Int.mul_add]
  congr 2
  simp only [dv]
  omega
def RowPost (w : World) (x : Nat) (e : Ending) (w' : World) : Prop :=
  ∃ A n c, e = .returned (.slice A n c) ∧ n ≤ c ∧ Mod [] w w' ∧ ReadsInt w' .i64 A n (D x) ∧ ∀ a, A = some a → w.heap.size ≤ a.block
theorem info3 : (Try.prog.info? 3).map (fun i => (i.zero, i.size, i.bytes)) = some (some (.int .i64 0), 1, 8) := by kernel_rfl
set_option maxRecDepth 100000 in
set_option maxHeartbeats 1000000 in
theorem plus_any (A B : Option Addr) (n c m d : Nat) (ps rs : List Int) (w : World) (hr : ReadsInt w .i64 A n ps) (hs : ReadsInt w .i64 B m rs) (hn : n ≤ 10000) (hm : m ≤ 10000) (ha : digs ps) (hb : digs rs) :
    Calls Try.prog 34 #[.slice A n c, .slice B m d] w (RowPost w (dv ps + dv rs).toNat) := by
  obtain ⟨T, hT⟩ : ∃ T, dv ps + dv rs = T := ⟨_, rfl⟩
  have HT := Lib.hid hT
  have HAL := Lib.hid hr.1
  have HBL := Lib.hid hs.1
  obtain ⟨M, hM⟩ : ∃ M, max n m = M := ⟨_, rfl⟩
  have hMn : n ≤ M := by omega
  have hMm : m ≤ M := by omega
  have hMM : M ≤ 10000 := by omega
  have hMM' : M = n ∨ M = m := by omega
  rw [hT]
  clear hT hM
  go_enter Try.func34, Try.ntmps34
  go_wp2
  go_loopw [5, 6, 7] (fun v cr i wr => ∃ (k : Nat) (os : List Int) (t : Int), i = .int .i64 k ∧ cr = .int .i64 t ∧ 0 ≤ t ∧ t ≤ 1 ∧ (k ≤ M ∨ k = M + 1 ∧ t = 0) ∧ Mod [] w wr ∧ os.length = k ∧ digs os ∧ wr.ownsRow w.heap.size 3 1 v os.length (nums .i64 os) ∧ dv os + 10 ^ k * (t + dv (ps.drop k) + dv (rs.drop k)) = T) (fun _ _ i _ => M + 2 - (intOf i).toNat)
  case atStart => exact ⟨0, [], 0, rfl, rfl, by omega, by omega, .inl (by omega), Mod.refl _ _, rfl, digs_nil, own_nil _ _ _ _, by simp [dv]; exact HT.out⟩
  case round =>
    obtain ⟨k, os, t, rfl, rfl, ht0, ht1, hk, hmw, hol, hod, hown, hval⟩ := hrel
    have hr1 := hmw.reads hr (by simp)
    have hs1 := hmw.reads hs (by simp)
    by_cases hgo : k < n ∨ k < m ∨ 0 < t
    · have ha1 := digs_getD ha k
      have hb1 := digs_getD hb k
      have HV := Lib.hid (plus_step (ps := ps) (rs := rs) hol hval)
      have hkM : k ≤ M := by omega
      have hA := at_any A n c k ps wr hr1 (by omega) (by omega)
      have hB := at_any B m d k rs wr hs1 (by omega) (by omega)
      generalize hA0 : ps.getD k 0 = a at *
      generalize hB0 : rs.getD k 0 = b at *
      have q1 : IntKind.i64.wrap (a + b) = a + b := IntWalk.i64_in _ (by omega)
      have q2 : IntKind.i64.wrap (a + b + t) = a + b + t := IntWalk.i64_in _ (by omega)
      have HD := Lib.hid (show digs (os ++ [(a + b + t) % 10]) from digs_append.2 ⟨hod, fun x hx => by simp at hx; omega⟩)
      have HS := Lib.hid (show 0 ≤ (a + b + t) / 10 ∧ (a + b + t) / 10 ≤ 1 ∧ (k + 1 ≤ M ∨ k + 1 = M + 1 ∧ (a + b + t) / 10 = 0) by
        refine ⟨by omega, by omega, ?_⟩
        by_cases hkk : k < M
        · exact .inl hkk
        · refine .inr ⟨by omega, ?_⟩
          have e1 : a = 0 := by rw [← hA0, List.getD_eq_getElem?_getD, List.getElem?_eq_none (by rw [HAL.out]; omega)]; rfl
          have e2 : b = 0 := by rw [← hB0, List.getD_eq_getElem?_getD, List.getElem?_eq_none (by rw [HBL.out]; omega)]; rfl
          omega)
      have q3 : (a + b + t).tmod 10 = (a + b + t) % 10 := Int.tmod_eq_emod_of_nonneg (by omega)
      have q4 : (a + b + t).tdiv 10 = (a + b + t) / 10 := Int.tdiv_eq_ediv_of_nonneg (by omega)
      have hsz := hmw.size
      have HO := Lib.hid hown
      have HOL := Lib.hid hol
      have hos : os.length ≤ 10001 := by omega
      clear hval hown hod hA0 hB0 hol hr1 hs1
      have hc : (k < n) ∨ (¬ k < n ∧ k < m) ∨ (¬ k < n ∧ ¬ k < m ∧ 0 < t) := by omega
      obtain t1 | ⟨t1, t2⟩ | ⟨t1, t2, t3⟩ := hc
      all_goals
        go_wp2_with fail
        refine hA.mono ?_
        rintro e w1 ⟨rfl, rfl⟩
        go_wp2_with fail
        refine hB.mono ?_
        rintro e w1 ⟨rfl, rfl⟩
        go_wp2_with (at_builtin; refine append_one w.heap.size rfl (.tmp 34) (.tmp 37) 25 3 .i64 8 rfl Try.underlying25 info3 (by decide) _ os _ rfl rfl HO.out hmw (Nat.le_refl _) hsz (by omega) ?_; intro v1 w2 hown1 hm1 hg hat; clear hg hat)
        refine ⟨⟨k + 1, _, _, by go_num, rfl, HS.out.1, HS.out.2.1, HS.out.2.2, hm1, by rw [List.length_append, HOL.out]; rfl, HD.out, hown1, HV.out⟩, ?_⟩
        simp [intOf]; omega
    · have hnk : n ≤ k := by omega
      have hmk : m ≤ k := by omega
      have h0 : t = 0 := by omega
      subst h0
      have hvo : dv os = T := by
        rw [← hval, List.drop_of_length_le (by rw [HAL.out]; omega), List.drop_of_length_le (by rw [HBL.out]; omega)]
        simp [dv]
      obtain ⟨A1, c1, rfl, hc1, hr2, hA1⟩ := own_form hown
      have hT := trim_any A1 os.length c1 os wr hr2 (by omega) hc1 hod
      have HVO := Lib.hid hvo
      clear hval hown hvo hr1 hs1 hgo hol
      have t1 : ¬ k < n := by omega
      have t2 : ¬ k < m := by omega
      go_wp2_with fail
      refine hT.mono ?_
      rintro e w1 ⟨h2, rfl, h3, h4⟩
      rw [HVO.out] at h2 h3 h4
      subst h2
      go_wp2
      go_ret
      exact ⟨_, _, _, rfl, by omega, hmw, h4, fun a e => (hA1 a e).1⟩
theorem minus_any (A B : Option Addr) (n c m d x y : Nat) (w : World) (hr : ReadsInt w .i64 A n (D x)) (hs : ReadsInt w .i64 B m (D y)) (hn : n ≤ 10000) (hxy : y ≤ x) :
    Calls Try.prog 35 #[.slice A n c, .slice B m d] w (RowPost w (x - y)) := by
  have hmn : m ≤ n := by rw [← hr.1, ← hs.1]; exact D_len_mono hxy
  have HT := Lib.hid (show dv (D x) - dv (D y) = ((x - y : Nat) : Int) by rw [dv_D, dv_D]; omega)
  have HX := Lib.hid hxy
  have ha := digs_D x
  have hb := digs_D y
  generalize D x = ps at *
  generalize D y = rs at *
  obtain ⟨T, hT⟩ : ∃ T, x - y = T := ⟨_, rfl⟩
  rw [hT] at HT ⊢
  have HAL := Lib.hid hr.1
  have HBL := Lib.hid hs.1
  clear hT
  go_enter Try.func35, Try.ntmps35
  go_wp2
  go_loopw [5, 6, 7] (fun v cr i wr => ∃ (k : Nat) (os : List Int) (t : Int), i = .int .i64 k ∧ cr = .int .i64 t ∧ 0 ≤ t ∧ t ≤ 1 ∧ k ≤ n ∧ Mod [] w wr ∧ os.length = k ∧ digs os ∧ wr.ownsRow w.heap.size 3 1 v os.length (nums .i64 os) ∧ dv os + 10 ^ k * (dv (ps.drop k) - dv (rs.drop k) - t) = (T : Int)) (fun _ _ i _ => n - (intOf i).toNat)
  case atStart => exact ⟨0, [], 0, rfl, rfl, by omega, by omega, by omega, Mod.refl _ _, rfl, digs_nil, own_nil _ _ _ _, by simp [dv]; exact HT.out⟩
  case round =>
    obtain ⟨k, os, t, rfl, rfl, ht0, ht1, hk, hmw, hol, hod, hown, hval⟩ := hrel
    have hr1 := hmw.reads hr (by simp)
    have hs1 := hmw.reads hs (by simp)
    by_cases hlt : k < n
    · have ha1 := digs_getD ha k
      have hb1 := digs_getD hb k
      obtain ⟨a0, rfl, hc0⟩ := hr1.at_ k (by omega) (by omega)
      rw [Int.toNat_natCast] at hc0
      have e0 : rd ps (k : Int) = ps.getD k 0 := rfl
      rw [e0] at hc0
      have HV := Lib.hid (fun d s hs => minus_step (ps := ps) (rs := rs) (d := d) (s := s) hol hval hs)
      have hB := fun nq => at_any B m d k rs (wr.drewN nq) (((Mod.refl [] wr).drewN nq).reads hs1 (by simp)) (by omega) (by omega)
      generalize ps.getD k 0 = a at *
      generalize rs.getD k 0 = b at *
      have q1 : IntKind.i64.wrap (a - b) = a - b := IntWalk.i64_in _ (by omega)
      have q2 : IntKind.i64.wrap (a - b - t) = a - b - t := IntWalk.i64_in _ (by omega)
      have q3 : IntKind.i64.wrap (a - b - t + 10) = a - b - t + 10 := IntWalk.i64_in _ (by omega)
      have hsz := hmw.size
      have HO := Lib.hid hown
      have HOL := Lib.hid hol
      have HD0 := Lib.hid hod
      have hos : os.length ≤ 10001 := by omega
      clear hval hown hod hol hr1 hs1 e0 hs hr
      by_cases hz : a - b - t < 0
      · have HV2 := Lib.hid (HV.out 1 (a - b - t + 10) (by omega))
        have HD := Lib.hid (show digs (os ++ [a - b - t + 10]) from digs_append.2 ⟨HD0.out, fun x hx => by simp at hx; omega⟩)
        clear HV
        go_wp2_with fail
        go_quiet ((go_at_call 45; exact Calls.quiet_of_same ((hB _).mono fun _ _ h => ⟨h.1, h.2.symm⟩)))
        have hmq : Mod [] w (wr.drewN nq) := hmw.drewN nq
        go_wp2_with (at_builtin; refine append_one w.heap.size rfl (.tmp 29) (.tmp 31) 25 3 .i64 8 rfl Try.underlying25 info3 (by decide) _ os _ rfl rfl HO.out hmq (Nat.le_refl _) hsz (by omega) ?_; intro v1 w2 hown1 hm1 hg hat; clear hg hat)
        refine ⟨⟨k + 1, _, _, by go_num, rfl, by omega, by omega, by omega, hm1, by rw [List.length_append, HOL.out]; rfl, HD.out, hown1, HV2.out⟩, ?_⟩
        simp [intOf]; omega
      · have HV2 := Lib.hid (HV.out 0 (a - b - t) (by omega))
        have HD := Lib.hid (show digs (os ++ [a - b - t]) from digs_append.2 ⟨HD0.out, fun x hx => by simp at hx; omega⟩)
        clear HV
        go_wp2_with fail
        go_quiet ((go_at_call 45; exact Calls.quiet_of_same ((hB _).mono fun _ _ h => ⟨h.1, h.2.symm⟩)))
        have hmq : Mod [] w (wr.drewN nq) := hmw.drewN nq
        go_wp2_with (at_builtin; refine append_one w.heap.size rfl (.tmp 29) (.tmp 31) 25 3 .i64 8 rfl Try.underlying25 info3 (by decide) _ os _ rfl rfl HO.out hmq (Nat.le_refl _) hsz (by omega) ?_; intro v1 w2 hown1 hm1 hg hat; clear hg hat)
        refine ⟨⟨k + 1, _, _, by go_num, rfl, by omega, by omega, by omega, hm1, by rw [List.length_append, HOL.out]; rfl, HD.out, hown1, HV2.out⟩, ?_⟩
        simp [intOf]; omega
    · have hnk : n = k := by omega
      have hvo : dv os = (T : Int) := by
        rw [List.drop_of_length_le (by rw [HAL.out]; omega), List.drop_of_length_le (by rw [HBL.out]; omega)] at hval
        simp [dv] at hval
        have h1 := dv_lt hod
        rw [hol] at h1
        have ht : t = 0 ∨ t = 1 := by omega
        rcases ht with rfl | rfl
        · simpa using hval
        · omega
      obtain ⟨A1, c1, rfl, hc1, hr2, hA1⟩ := own_form hown
      have hT := trim_any A1 os.length c1 os wr hr2 (by omega) hc1 hod
      have HVO := Lib.hid hvo
      clear hval hown hvo hr1 hs1 hol
      go_wp2_with fail
      refine hT.mono ?_
      rintro e w1 ⟨h2, rfl, h3, h4⟩
      rw [HVO.out, Int.toNat_natCast] at h2 h3 h4
      subst h2
      go_wp2
      go_ret
      exact ⟨_, _, _, rfl, by omega, hmw, h4, fun a e => (hA1 a e).1⟩
end Go.Proofs.Ytijhlofmangpgaa
