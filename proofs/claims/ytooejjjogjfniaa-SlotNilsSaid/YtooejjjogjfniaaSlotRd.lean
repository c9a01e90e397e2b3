/- A page's functions that only read. -/
import Derived.Test.YtooejjjogjfniaaSlotPg
set_option linter.unusedVariables false
set_option linter.unusedSimpArgs false
namespace Go.Proofs.Ytooejjjogjfniaa
open Go.RowKit Go.Proofs.YtooejjjogjfniaaW.PrintWords Go.Proofs.Ytooejjjogjfniaa.PSlotRoom Go.Proofs.YtooejjjogjfniaaW.PrintLast
theorem ret_int {k : IntKind} {a b : Int} (h : a = b) : Ending.returned (.int k a) = .returned (.int k b) := by rw [h]
theorem szs_need (l : List S42) : szs l ≤ need l := by unfold need; omega
set_option maxRecDepth 100000 in
set_option maxHeartbeats 1000000 in
theorem room_any (w : World) (fp : Nat → Prop) (g : Nat) (l : List S42) (h : Pg w fp g l) (hi : Inv l) :
    Calls Try.prog 7 #[.pointer (some ⟨g, 0, none⟩)] w fun e w' => e = .returned (.int .i64 (room l)) ∧ Mod [] w w' := by
  have HB := bare_any w fp g l h (by have := hi.len; omega)
  have hzn := szs_need l
  have hnd := hi.nd
  have hln := hi.len
  have hb := bare_le l
  have ER := Lib.hid (show room l = if bare l = 64 then -1 else max (-1) (min (512 - (need l : Int) - (if bare l = l.length then 2 else 0)) 480) from rfl)
  by_cases e : bare l = 64
  · have t1 : ((bare l : Int) == 64) = true := by simp; omega
    have t2 : (bare l == 64) = true := by simpa using e
    have E := Lib.hid e
    generalize bare l = b at *
    clear e
    go_enter Try.func7, Try.ntmps7
    go_wp2_with fail
    refine HB.mono ?_
    rintro e w1 ⟨rfl, hm1⟩
    go_wp2
    go_ret
    exact ⟨by rw [ER.out, if_pos E.out]; rfl, hm1⟩
  · have t1 : ((bare l : Int) == 64) = false := by simp; omega
    have t2 : (bare l == 64) = false := by simpa using e
    have hz := fun (w' : World) (A : Option Addr) (c : Nat) (hw' : Kd.C k60 w' A l.length (l.map c60)) (hc : l.length ≤ c) => size_any A c l w' hw' hc (by omega) (by omega)
    have E := Lib.hid e
    by_cases e2 : bare l = l.length
    · have t3 : ((bare l : Int) == (l.length : Int)) = true := by simp; omega
      have t4 : (bare l == l.length) = true := by simpa using e2
      have E2 := Lib.hid e2
      generalize bare l = b at *
      generalize need l = n at *
      clear e e2
      go_enter Try.func7, Try.ntmps7
      go_wp2_with fail
      refine HB.mono ?_
      rintro e w1 ⟨rfl, hm1⟩
      obtain ⟨A, c, h1, hc, _, hr⟩ := (h.mod hm1).open
      have c0 := (blk_cell h1 0).trans rfl
      have C0 := Lib.hid c0
      have HS := hz w1 A c hr hc
      clear h1 hr
      go_wp2_with fail
      refine HS.mono ?_
      rintro e w2 ⟨rfl, hm2⟩
      have c2 := hm2.cell C0.out (by simp)
      clear c0
      go_wp2
      all_goals
        go_ret
        exact ⟨ret_int (by rw [ER.out, if_neg E.out, if_pos E2.out]; omega), hm1.trans0 hm2⟩
    · have t3 : ((bare l : Int) == (l.length : Int)) = false := by simp; omega
      have t4 : (bare l == l.length) = false := by simpa using e2
      have E2 := Lib.hid e2
      generalize bare l = b at *
      generalize need l = n at *
      clear e e2
      go_enter Try.func7, Try.ntmps7
      go_wp2_with fail
      refine HB.mono ?_
      rintro e w1 ⟨rfl, hm1⟩
      obtain ⟨A, c, h1, hc, _, hr⟩ := (h.mod hm1).open
      have c0 := (blk_cell h1 0).trans rfl
      have C0 := Lib.hid c0
      have HS := hz w1 A c hr hc
      clear h1 hr
      go_wp2_with fail
      refine HS.mono ?_
      rintro e w2 ⟨rfl, hm2⟩
      have c2 := hm2.cell C0.out (by simp)
      clear c0
      go_wp2
      all_goals
        go_ret
        exact ⟨ret_int (by rw [ER.out, if_neg E.out, if_neg E2.out]; omega), hm1.trans0 hm2⟩
theorem room_nil (w : World) : Calls Try.prog 7 #[.pointer none] w fun e w' => e = .returned (.int .i64 (-1)) ∧ w = w' := by
  go_enter Try.func7, Try.ntmps7
  go_wp2
  go_ret
  exact ⟨rfl, rfl⟩
theorem has_any (w : World) (fp : Nat → Prop) (g : Nat) (l : List S42) (i : Int) (h : Pg w fp g l) :
    Calls Try.prog 26 #[.pointer (some ⟨g, 0, none⟩), .int .i64 i] w fun e w' => e = .returned (.bool (hasS l i)) ∧ w = w' := by
  have hl := len_any w fp g l h
  obtain ⟨A, c, h1, hc, _, hr⟩ := h.open
  have c0 := (blk_cell h1 0).trans rfl
  by_cases hin : 0 ≤ i ∧ i < (l.length : Int)
  · obtain ⟨k, rfl⟩ := Int.eq_ofNat_of_zero_le hin.1
    have hlt : k < l.length := by omega
    have E := Lib.hid (hasS_mk hlt)
    obtain ⟨ad, rfl, p0, p1⟩ := sl_at hr k hlt
    have hki : (0 : Int) ≤ (k : Int) := by omega
    have hki2 : (k : Int) < (l.length : Int) := by omega
    generalize l[k].f0 = b at *
    generalize l[k].f1 = s at *
    clear hin h1 hr
    go_enter Try.func26, Try.ntmps26
    go_wp2_with (go_at_call 18; refine hl.mono ?_; rintro e w1 ⟨rfl, rfl⟩)
    go_ret
    exact ⟨by rw [E.out]; rfl, rfl⟩
  · have E := Lib.hid (hasS_out (l := l) hin)
    by_cases h0 : 0 ≤ i
    · have hge : ¬ i < (l.length : Int) := fun hh => hin ⟨h0, hh⟩
      clear hin h1 hr
      go_enter Try.func26, Try.ntmps26
      go_wp2_with (go_at_call 18; refine hl.mono ?_; rintro e w1 ⟨rfl, rfl⟩)
      go_ret
      exact ⟨by rw [E.out]; rfl, rfl⟩
    · clear hin h1 hr
      go_enter Try.func26, Try.ntmps26
      go_wp2_with (go_at_call 18; refine hl.mono ?_; rintro e w1 ⟨rfl, rfl⟩)
      go_ret
      exact ⟨by rw [E.out]; rfl, rfl⟩
theorem has_nil (w : World) (i : Int) : Calls Try.prog 26 #[.pointer none, .int .i64 i] w fun e w' => e = .returned (.bool false) ∧ w = w' := by
  by_cases h0 : 0 ≤ i
  · have hge : ¬ i < 0 := by omega
    go_enter Try.func26, Try.ntmps26
    go_wp2_with (go_at_call 18; refine (len_nil w).mono ?_; rintro e w1 ⟨rfl, rfl⟩)
    go_ret
    exact ⟨rfl, rfl⟩
  · go_enter Try.func26, Try.ntmps26
    go_wp2_with (go_at_call 18; refine (len_nil w).mono ?_; rintro e w1 ⟨rfl, rfl⟩)
    go_ret
    exact ⟨rfl, rfl⟩
def getS (l : List S42) (i : Int) : ByteArray := if hasS l i = true then (rd_T42 l i).f1 else ⟨#[]⟩
theorem get_any (w : World) (fp : Nat → Prop) (g : Nat) (l : List S42) (i : Int) (h : Pg w fp g l) :
    Calls Try.prog 14 #[.pointer (some ⟨g, 0, none⟩), .int .i64 i] w fun e w' => e = .returned (.tuple #[.string (getS l i), .bool (hasS l i)]) ∧ w = w' := by
  have hh := has_any w fp g l i h
  obtain ⟨A, c, h1, hc, _, hr⟩ := h.open
  have c0 := (blk_cell h1 0).trans rfl
  by_cases hb : hasS l i = true
  · obtain ⟨a1, a2, a3⟩ := hasS_true hb
    obtain ⟨k, rfl⟩ := Int.eq_ofNat_of_zero_le a1
    have hlt : k < l.length := by simpa using a2
    have E := Lib.hid (show getS l (k : Int) = l[k].f1 by unfold getS; rw [if_pos hb, rd42 l k hlt])
    rw [E.out, hb]
    rw [hb] at hh
    obtain ⟨ad, rfl, p0, p1⟩ := sl_at hr k hlt
    have hki : (0 : Int) ≤ (k : Int) := by omega
    have hki2 : (k : Int) < (l.length : Int) := by omega
    generalize l[k].f1 = s at *
    clear h1 hr hb a1 a2 a3 E
    go_enter Try.func14, Try.ntmps14
    go_wp2_with (go_at_call 26; refine hh.mono ?_; rintro e w1 ⟨rfl, rfl⟩)
    go_ret2
    exact ⟨rfl, rfl⟩
  · have hb' : hasS l i = false := by simpa using hb
    rw [show getS l i = ⟨#[]⟩ by unfold getS; rw [if_neg hb], hb']
    rw [hb'] at hh
    clear h1 hr hb hb'
    go_enter Try.func14, Try.ntmps14
    go_wp2_with (go_at_call 26; refine hh.mono ?_; rintro e w1 ⟨rfl, rfl⟩)
    go_ret2
    exact ⟨rfl, rfl⟩
theorem get_nil (w : World) (i : Int) : Calls Try.prog 14 #[.pointer none, .int .i64 i] w fun e w' => e = .returned (.tuple #[.string ⟨#[]⟩, .bool false]) ∧ w = w' := by
  go_enter Try.func14, Try.ntmps14
  go_wp2_with (go_at_call 26; refine (has_nil w i).mono ?_; rintro e w1 ⟨rfl, rfl⟩)
  go_ret2
  exact ⟨rfl, rfl⟩
end Go.Proofs.Ytooejjjogjfniaa
