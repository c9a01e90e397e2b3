/- The reader of the program: sized bytes, what is left, the end; the chapter's examples. -/
import Derived.Test.YtdkmkiiaklkcgaaEncTk
set_option linter.unusedVariables false
set_option linter.unusedSimpArgs false
namespace Go.Proofs.Ytdkmkiiaklkcgaa
open Go.RowKit Go.Proofs.YtdkmkiiaklkcgaaW.PrintWords
theorem left_any (g : Nat) (A : Option Addr) (c : Nat) (bs : List Int) (p : Nat) (e : Int) (w : World) (h : Rdr w g A c bs p e) :
    Calls Try.prog 30 #[.pointer (some ⟨g, 0, none⟩)] w fun e w' => e = .returned (.int .i64 ((bs.length - p : Nat) : Int)) ∧ Mod [] w w' := by
  go_enter Try.func30, Try.ntmps30
  go_wp2_with fail
  refine (rest_any g A c bs p e w h).mono ?_
  rintro e w1 ⟨rfl, hm⟩
  go_wp2
  go_ret
  exact ⟨rfl, hm⟩
def rend (bs : List Int) (p : Nat) (e : Int) : Int := if e = 0 ∧ p < bs.length then 4 else e
def EndPost (w : World) (g : Nat) (A : Option Addr) (c : Nat) (bs : List Int) (p : Nat) (f : Int) (e : Ending) (w' : World) : Prop :=
  e = .returned (.int .i64 f) ∧ Mod [g] w w' ∧ Rdr w' g A c bs p f
theorem end_any (g : Nat) (A : Option Addr) (c : Nat) (bs : List Int) (p : Nat) (e : Int) (w : World) (h : Rdr w g A c bs p e) :
    Calls Try.prog 33 #[.pointer (some ⟨g, 0, none⟩)] w (EndPost w g A c bs p (rend bs p e)) := by
  by_cases he : e = 0
  · subst he
    by_cases hp : p < bs.length
    · have HF := Lib.hid (show rend bs p 0 = 4 by unfold rend; rw [if_pos ⟨rfl, hp⟩])
      rw [HF.out]
      have hp' : 0 < bs.length - p := by omega
      go_enter Try.func33, Try.ntmps33
      go_wp2_with fail
      refine (ready_any g A c bs p 0 w h).mono ?_
      rintro e w1 ⟨rfl, rfl⟩
      go_wp2_with fail
      refine (rest_any g A c bs p 0 w h).mono ?_
      rintro e w1 ⟨rfl, hm⟩
      have h1 := h.mod hm (by simp) (by simp)
      generalize bs.length - p = m at hp'
      go_wp2_with fail
      refine (fail_ok g A c bs p 4 w1 h1).mono ?_
      rintro e w2 ⟨rfl, hm2, h2⟩
      go_wp2_with fail
      refine (fault_any g A c bs p 4 w2 h2).mono ?_
      rintro e w3 ⟨rfl, rfl⟩
      go_wp2
      go_ret
      exact ⟨rfl, Mod.trans (Mod.weak hm (by simp)) hm2 (by simp), h2⟩
    · have HF := Lib.hid (show rend bs p 0 = 0 by unfold rend; rw [if_neg (fun h => hp h.2)])
      rw [HF.out]
      have hp' : bs.length - p = 0 := by omega
      go_enter Try.func33, Try.ntmps33
      go_wp2_with fail
      refine (ready_any g A c bs p 0 w h).mono ?_
      rintro e w1 ⟨rfl, rfl⟩
      go_wp2_with fail
      refine (rest_any g A c bs p 0 w h).mono ?_
      rintro e w1 ⟨rfl, hm⟩
      have h1 := h.mod hm (by simp) (by simp)
      rw [hp']
      clear hp'
      go_wp2_with fail
      refine (fault_any g A c bs p 0 w1 h1).mono ?_
      rintro e w3 ⟨rfl, rfl⟩
      go_wp2
      go_ret
      exact ⟨rfl, Mod.weak hm (by simp), h1⟩
  · have HF := Lib.hid (show rend bs p e = e by unfold rend; rw [if_neg (fun h => he h.1)])
    rw [HF.out]
    have he' : (e == 0) = false := by simpa using he
    go_enter Try.func33, Try.ntmps33
    go_wp2_with fail
    refine (ready_any g A c bs p e w h).mono ?_
    rintro e' w1 ⟨rfl, rfl⟩
    go_wp2_with fail
    refine (fault_any g A c bs p e w h).mono ?_
    rintro e w3 ⟨rfl, rfl⟩
    go_wp2
    go_ret
    exact ⟨rfl, Mod.refl _ _, h⟩
theorem encLives_any (w : World) : Calls Try.prog 18 #[] w fun e w' => e = .returned (.bool true) ∧ Mod [] w w' := by
  have U1 := Lib.hid (show strOfNums (uput 300) = ⟨#[172, 2]⟩ by rw [uput_hi (by omega), uput_lo (by omega)]; rfl)
  have U2 := Lib.hid (show strOfNums (uput (zz (-1))) = ⟨#[1]⟩ by rw [show zz (-1) = 1 from rfl, uput_lo (by omega)]; rfl)
  go_enter Try.func18, Try.ntmps18
  go_wp2_with fail
  refine (encCount_any none 0 0 300 [] w (reads_nil w .u8) (by omega) (by omega) (by omega)).mono ?_
  rintro e w1 ⟨v, rfl, hm1, hown⟩
  have k1 := own_string (src := 22) (dst := 9) Try.underlying22 Try.underlying5 Try.underlying9 hown
  rw [List.nil_append, show (300 : Int).toNat = 300 from rfl, U1.out] at k1
  clear hown
  go_wp2_with fail
  refine (encWhole_any none 0 0 (-1) [] w1 (reads_nil w1 .u8) (by omega) (by omega) (by omega)).mono ?_
  rintro e w2 ⟨v2, rfl, hm2, hown⟩
  have k2 := own_string (src := 22) (dst := 9) Try.underlying22 Try.underlying5 Try.underlying9 hown
  rw [List.nil_append, U2.out] at k2
  clear hown k1
  have hm12 := hm1.trans0 hm2
  go_wp2_with fail
  refine (read_any none 0 0 [] w2 (reads_nil w2 .u8) (by omega) (by intro b hb; simp at hb)).mono ?_
  rintro e w3 ⟨g, A1, c1, rfl, hm3, hg, h3, hA1⟩
  have hm13 := hm12.trans0 hm3
  have hsz := hm12.size
  clear k2
  go_wp2_with fail
  refine (end_any g A1 c1 [] 0 0 w3 h3).mono ?_
  rintro e w4 ⟨rfl, hm4, h4⟩
  rw [show rend [] 0 0 = 0 from rfl]
  go_wp2
  go_ret
  exact ⟨rfl, hm13.trans hm4 (by simp; omega)⟩
end Go.Proofs.Ytdkmkiiaklkcgaa
