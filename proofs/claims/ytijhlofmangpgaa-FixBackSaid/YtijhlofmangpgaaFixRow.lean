/- The reference's rows of digits: what its functions tell. -/
import Derived.Test.YtijhlofmangpgaaMem
import Derived.Test.YtijhlofmangpgaaDig
import Derived.Test.YtijhlofmangpgaaProg
import Derived.LoopTactic
import Derived.Deep.LoopGhost
import Derived.Deep.DeepMust
import Derived.Lib.SlBytesConst
import Derived.WalkSpells
import Derived.Deep.RegionHeld3
import Derived.BigQuiet
import Derived.Deep.QuietTactic
import Derived.Deep.DeepCutAuto
set_option linter.unusedVariables false
set_option linter.unusedSimpArgs false
namespace Go.Proofs.Ytijhlofmangpgaa
open Go.RowKit Go.Proofs.YtijhlofmangpgaaW.PrintWords Go.Proofs.Ytijhlofmangpgaa.Dig
theorem dv_take_zero {ds : List Int} {k : Nat} (hk : k + 1 ≤ ds.length) (h : ds.getD k 0 = 0) : dv (ds.take k) = dv (ds.take (k + 1)) := by
  rw [List.take_succ_eq_append_getElem (by omega), dv_append]
  rw [List.getD_eq_getElem?_getD, List.getElem?_eq_getElem (by omega)] at h
  simp at h
  simp [dv, h]
theorem canon_take {ds : List Int} {k : Nat} (hk : k + 1 ≤ ds.length) (h : ds.getD k 0 ≠ 0) : canon (ds.take (k + 1)) := by
  rw [List.take_succ_eq_append_getElem (by omega), canon, List.getLast?_append]
  rw [List.getD_eq_getElem?_getD, List.getElem?_eq_getElem (by omega)] at h
  simpa using h
def TrimPost (w : World) (A : Option Addr) (n c : Nat) (ds : List Int) (e : Ending) (w' : World) : Prop :=
  e = .returned (.slice A (D (dv ds).toNat).length c) ∧ w = w' ∧ (D (dv ds).toNat).length ≤ n ∧ ReadsInt w .i64 A (D (dv ds).toNat).length (D (dv ds).toNat)
theorem trim_post {w : World} {A : Option Addr} {n c k : Nat} {ds : List Int} (hr : ReadsInt w .i64 A n ds) (hd : digs ds) (hk : k ≤ n) (hv : dv (ds.take k) = dv ds) (hc : canon (ds.take k)) : TrimPost w A n c ds (.returned (.slice A k c)) w := by
  have e := D_unique (digs_take hd k) hc
  rw [hv] at e
  have hl : (D (dv ds).toNat).length = k := by rw [← e, List.length_take, hr.1]; omega
  refine ⟨by rw [hl], rfl, by omega, ?_⟩
  rw [hl, ← e]
  exact hr.take_ k hk
theorem trim_any (A : Option Addr) (n c : Nat) (ds : List Int) (w : World) (hr : ReadsInt w .i64 A n ds) (hn : n ≤ 1000000) (hnc : n ≤ c) (hd : digs ds) :
    Calls Try.prog 32 #[.slice A n c] w (TrimPost w A n c ds) := by
  have HL := Lib.hid hr.1
  go_enter Try.func32, Try.ntmps32
  go_wp2
  go_loop [0] (fun v => ∃ k : Nat, k ≤ n ∧ v = .slice A k c ∧ dv (ds.take k) = dv ds) (fun v => match v with | .slice _ k _ => k | _ => 0)
  case atStart => exact ⟨n, by omega, rfl, by rw [List.take_of_length_le (by rw [HL.out]; omega)]⟩
  case round =>
    obtain ⟨k, hk, rfl, hv⟩ := hrel
    cases k with
    | zero =>
      have HP := Lib.hid (trim_post (c := c) hr hd (Nat.zero_le n) hv (by simp [canon]))
      clear hv
      go_wp2
      go_ret
      exact HP.out
    | succ k =>
      have hkl : k + 1 ≤ ds.length := by rw [HL.out]; exact hk
      obtain ⟨a, rfl, hc⟩ := hr.at_ k (by omega) (by omega)
      rw [Int.toNat_natCast] at hc
      have q1 : IntKind.i64.wrap (((k + 1 : Nat) : Int) - 1) = (k : Int) := by rw [IntWalk.i64_in _ (by omega)]; omega
      have q2 : ((k + 1 : Nat) : Int) - 1 = (k : Int) := by omega
      have hrd : rd ds (k : Int) = ds.getD k 0 := rfl
      by_cases h0 : ds.getD k 0 = 0
      · have HV := Lib.hid ((dv_take_zero hkl h0).trans hv)
        rw [hrd, h0] at hc
        clear hv hrd
        go_wp2
        exact ⟨⟨k, by omega, rfl, HV.out⟩, Nat.lt_succ_self k⟩
      · have HP := Lib.hid (trim_post (c := c) hr hd hk hv (canon_take hkl h0))
        have t1 : (rd ds (k : Int) == 0) = false := by rw [hrd]; simpa using h0
        clear hv hrd
        generalize rd ds (k : Int) = x at *
        go_wp2
        go_ret
        exact HP.out
theorem at_any (A : Option Addr) (n c i : Nat) (ds : List Int) (w : World) (hr : ReadsInt w .i64 A n ds) (hn : n ≤ 1000000) (hi : i ≤ 1000000) :
    Calls Try.prog 45 #[.slice A n c, .int .i64 (i : Int)] w fun e w' => e = .returned (.int .i64 (ds.getD i 0)) ∧ w = w' := by
  by_cases h : i < n
  · obtain ⟨a, rfl, hc⟩ := hr.at_ i (by omega) (by omega)
    rw [Int.toNat_natCast] at hc
    have e : rd ds (i : Int) = ds.getD i 0 := rfl
    rw [e] at hc
    generalize ds.getD i 0 = x at *
    go_enter Try.func45, Try.ntmps45
    go_wp2
    go_ret
    exact ⟨rfl, rfl⟩
  · have e : ds.getD i 0 = 0 := by rw [List.getD_eq_getElem?_getD, List.getElem?_eq_none (by have := hr.1; omega)]; rfl
    rw [e]
    go_enter Try.func45, Try.ntmps45
    go_wp2
    go_ret
    exact ⟨rfl, rfl⟩
def cmpN (x y : Nat) : Int := if x < y then -1 else if y < x then 1 else 0
/-- How two rows of digits stand to one another is how their numbers stand. -/
theorem D_lt_of_len {x y : Nat} (h : (D x).length < (D y).length) : x < y := by
  rcases Nat.lt_or_ge x y with h1 | h1
  · exact h1
  · have := D_len_mono h1; omega
theorem cmp_any (A B : Option Addr) (n c m d x y : Nat) (w : World) (hr : ReadsInt w .i64 A n (D x)) (hs : ReadsInt w .i64 B m (D y)) (hn : n ≤ 1000000) (hm : m ≤ 1000000) :
    Calls Try.prog 33 #[.slice A n c, .slice B m d] w fun e w' => e = .returned (.int .i64 (cmpN x y)) ∧ Mod [] w w' := by
  have hl1 := hr.1
  have hl2 := hs.1
  by_cases hnm : n = m
  · subst hnm
    have HX := Lib.hid (show ∀ k, k < n → (D x).getD k 0 < (D y).getD k 0 → (D x).drop (k + 1) = (D y).drop (k + 1) → cmpN x y = -1 from fun k hk h1 h2 => by
      have h3 := take_lt (digs_D x) k (by omega) (by omega) (digs_D y) h1
      have e : ∀ z, (D z).length = n → (z : Int) = dv ((D z).take (k + 1)) + 10 ^ (k + 1) * dv ((D z).drop (k + 1)) := fun z hz => by
        conv => lhs; rw [← dv_D z, ← List.take_append_drop (k + 1) (D z), dv_append]
        rw [List.length_take, hz, Nat.min_eq_left (by omega)]
      have e1 := e x hl1
      have e2 := e y hl2
      rw [h2] at e1
      unfold cmpN; rw [if_pos (by omega)])
    have HY := Lib.hid (show ∀ k, k < n → (D y).getD k 0 < (D x).getD k 0 → (D x).drop (k + 1) = (D y).drop (k + 1) → cmpN x y = 1 from fun k hk h1 h2 => by
      have h3 := take_lt (digs_D y) k (by omega) (by omega) (digs_D x) h1
      have e : ∀ z, (D z).length = n → (z : Int) = dv ((D z).take (k + 1)) + 10 ^ (k + 1) * dv ((D z).drop (k + 1)) := fun z hz => by
        conv => lhs; rw [← dv_D z, ← List.take_append_drop (k + 1) (D z), dv_append]
        rw [List.length_take, hz, Nat.min_eq_left (by omega)]
      have e1 := e x hl1
      have e2 := e y hl2
      rw [h2] at e1
      unfold cmpN; rw [if_neg (by omega), if_pos (by omega)])
    have HZ := Lib.hid (show (D x).drop 0 = (D y).drop 0 → cmpN x y = 0 from fun h => by
      rw [List.drop_zero, List.drop_zero] at h
      have e := congrArg dv h
      rw [dv_D, dv_D] at e
      unfold cmpN; rw [if_neg (by omega), if_neg (by omega)])
    have HS := Lib.hid (show ∀ k, k < n → (D x).getD k 0 = (D y).getD k 0 → (D x).drop (k + 1) = (D y).drop (k + 1) → (D x).drop k = (D y).drop k from fun k hk h1 h2 => by
      rw [List.getD_eq_getElem?_getD, List.getD_eq_getElem?_getD, List.getElem?_eq_getElem (by omega), List.getElem?_eq_getElem (by omega)] at h1
      rw [List.drop_eq_getElem_cons (l := D x) (i := k) (by omega), List.drop_eq_getElem_cons (l := D y) (i := k) (by omega), h2]
      simp at h1; rw [h1])
    have HE := Lib.hid (show (D x).drop n = (D y).drop n by rw [List.drop_of_length_le (by omega), List.drop_of_length_le (by omega)])
    have q0 : IntKind.i64.wrap ((n : Int) - 1) = (n : Int) - 1 := IntWalk.i64_in _ (by omega)
    generalize cmpN x y = R at *
    generalize D x = xs at *
    generalize D y = ys at *
    clear hl1 hl2
    go_enter Try.func33, Try.ntmps33
    go_wp2
    go_loopw [5] (fun i wr => ∃ k : Nat, k ≤ n ∧ i = .int .i64 ((k : Int) - 1) ∧ Mod [] w wr ∧ xs.drop k = ys.drop k) (fun i _ => (intOf i + 1).toNat)
    case atStart => exact ⟨n, by omega, rfl, Mod.refl _ _, HE.out⟩
    case round =>
      obtain ⟨k, hk, rfl, hmw, hdr⟩ := hrel
      cases k with
      | zero =>
        have HR := Lib.hid (HZ.out hdr)
        clear hdr
        go_wp2
        go_ret
        exact ⟨by rw [HR.out]; rfl, hmw⟩
      | succ k =>
        obtain ⟨a, rfl, hc⟩ := (hmw.reads hr (by simp)).at_ k (by omega) (by omega)
        obtain ⟨b, rfl, hc2⟩ := (hmw.reads hs (by simp)).at_ k (by omega) (by omega)
        rw [Int.toNat_natCast] at hc hc2
        have e1 : rd xs (k : Int) = xs.getD k 0 := rfl
        have e2 : rd ys (k : Int) = ys.getD k 0 := rfl
        rw [e1] at hc
        rw [e2] at hc2
        have H1 := Lib.hid (fun h => HX.out k (by omega) h hdr)
        have H2 := Lib.hid (fun h => HY.out k (by omega) h hdr)
        have H3 := Lib.hid (fun h => HS.out k (by omega) h hdr)
        generalize xs.getD k 0 = u at *
        generalize ys.getD k 0 = v at *
        have e3 : ((k + 1 : Nat) : Int) - 1 = (k : Int) := by omega
        rw [e3]
        have q1 : IntKind.i64.wrap ((k : Int) - 1) = (k : Int) - 1 := IntWalk.i64_in _ (by omega)
        clear e1 e2 e3 hdr hr hs q0
        by_cases huv : u < v
        · have t1 : decide (u < v) = true := by simpa using huv
          have HR := Lib.hid (H1.out huv)
          go_wp2_with fail
          go_quiet (fail)
          go_wp2
          go_ret
          exact ⟨by rw [HR.out]; rfl, hmw.drewN _⟩
        · have t1 : decide (u < v) = false := by simpa using huv
          by_cases hvu : v < u
          · have t2 : decide (v < u) = true := by simpa using hvu
            have HR := Lib.hid (H2.out hvu)
            go_wp2_with fail
            go_quiet (fail)
            go_wp2_with fail
            go_quiet (fail)
            go_wp2
            go_ret
            exact ⟨by rw [HR.out]; rfl, (hmw.drewN _).drewN _⟩
          · have t2 : decide (v < u) = false := by simpa using hvu
            have HR := Lib.hid (H3.out (by omega))
            go_wp2_with fail
            go_quiet (fail)
            go_wp2_with fail
            go_quiet (fail)
            go_wp2
            go_roundw
            case rel => exact ⟨k, by omega, by go_num, hmw.drewN _, HR.out⟩
            case measure => simp [intOf]
  · have t1 : ((n : Int) == m) = false := by simp; omega
    have t2 : (n == m) = false := by simpa using hnm
    by_cases hlt : n < m
    · have HR := Lib.hid (show cmpN x y = -1 by unfold cmpN; rw [if_pos (D_lt_of_len (by omega))])
      clear hl1 hl2
      go_enter Try.func33, Try.ntmps33
      go_wp2
      go_ret
      exact ⟨by rw [HR.out]; rfl, Mod.refl _ _⟩
    · have hlt' : m < n := by omega
      have HR := Lib.hid (show cmpN x y = 1 by unfold cmpN; have := D_lt_of_len (x := y) (y := x) (by omega); rw [if_neg (by omega), if_pos this])
      clear hl1 hl2
      go_enter Try.func33, Try.ntmps33
      go_wp2
      go_ret
      exact ⟨by rw [HR.out]; rfl, Mod.refl _ _⟩
end Go.Proofs.Ytijhlofmangpgaa
