/- The walk of the law CrcBack: for every bytes it comes to true. -/
import Derived.Test.YtdkmkiiaklkcgaaCrc
set_option linter.unusedVariables false
set_option linter.unusedSimpArgs false
namespace Go.Proofs.Ytdkmkiiaklkcgaa
open Go.RowKit Go.Proofs.YtdkmkiiaklkcgaaW.PrintWords
theorem seal_take (bs : List Int) (n : Nat) (h : bs.length = n) : (crcSeal bs).take n = bs := by subst h; simp [crcSeal]
theorem crcback_any (A : Option Addr) (n c : Nat) (bs : List Int) (w : World)
    (hr : ReadsInt w .u8 A n bs) (hbs : Bytes bs) :
    Calls Try.prog 7 #[.slice A n c] w fun e w' => e = .returned (.bool true) ∧ Mod [] w w' := by
  have HL := Lib.hid hr.1
  have hmax := hr.2.1
  by_cases hn : n ≤ 5000
  · have hn' : ¬ (5000 : Int) < n := by omega
    go_enter Try.func7, Try.ntmps7
    go_wp2_with fail
    refine (seal_any A n c bs w hr hbs (by omega)).mono ?_
    rintro e w1 ⟨v, rfl, hm1, hown⟩
    obtain ⟨g, c1, rfl, hgb, hgl⟩ := hown.form (by omega)
    obtain ⟨A1, c1', hv, hc1, hr1, hA1⟩ := own_form hown
    obtain ⟨rfl, _, rfl⟩ := Value.slice.inj hv
    clear hv
    go_wp2_with fail
    refine (open_any _ (n + 4) c1 (crcSeal bs) w1 hr1 (crcSeal_bd hbs) (by omega) hc1 (by omega)).mono ?_
    rintro e w2 ⟨hm2, hpost, _⟩
    have e4 : n + 4 - 4 = n := by omega
    rw [e4, seal_take bs n HL.out] at hpost
    obtain ⟨A2, rfl, hr2, hA2⟩ := hpost rfl
    have hm := hm1.trans0 hm2
    have hrw := hm.reads hr (by simp)
    have k1 := string_of_reads (src := 22) (dst := 9) (c := n) Try.underlying22 Try.underlying5 Try.underlying9 hr2
    have k2 := string_of_reads (src := 22) (dst := 9) (c := c) Try.underlying22 Try.underlying5 Try.underlying9 hrw
    have hown2 := hm2.own hown (by simp)
    have hg2 : ∀ a, A2 = some a → a.block ≠ g := fun a e => by have := hA2 a e; omega
    clear hpost hown hr1 hA1 hm1 hrw
    have HM := Lib.hid hm
    clear hm hm2
    go_wp2
    go_loopw [6] (fun i wr => ∃ k : Nat, k ≤ n + 4 ∧ i = .int .i64 k ∧ Mod [] w wr ∧ ReadsInt wr .u8 A2 n bs ∧ ∃ xs, wr.ownsRow w.heap.size 5 1 (.slice (some ⟨g, 0, none⟩) (n + 4) c1) (n + 4) (nums .u8 xs)) (fun i _ => n + 4 - (intOf i).toNat)
    case atStart => exact ⟨0, by omega, rfl, HM.out, hr2, _, hown2⟩
    case round =>
      clear k1 k2 hown2 hr2
      obtain ⟨k, hk, rfl, hm, hr2, xs, hown⟩ := hrel
      by_cases hlt : k < n + 4
      · have hc := own_at hown (k : Int) (by omega) (by omega)
        simp only [Int.toNat_natCast] at hc
        obtain ⟨hc, hf⟩ := hc
        have hst := own_store hown (k : Int)
        simp only [Int.toNat_natCast] at hst
        have HO := Lib.hid hown
        clear hown
        go_wp2
        go_roundw
        case rel =>
          refine ⟨k + 1, by omega, by go_num, hm.setCell (.inr hgb) _, ?_, _, (hst _).1⟩
          have hm3 := (Mod.refl [g] wr).setCell (p := ⟨g, k, none⟩) (by simp) (.int .u8 (Go.bits .xor .u8 (rd xs k) 255))
          exact hm3.reads hr2 (fun a e _ => by simpa using hg2 a e)
        case measure => simp [intOf]; omega
      · have : k = n + 4 := by omega
        subst this
        have k1 := string_of_reads (src := 22) (dst := 9) (c := n) Try.underlying22 Try.underlying5 Try.underlying9 hr2
        have k2 := string_of_reads (src := 22) (dst := 9) (c := c) Try.underlying22 Try.underlying5 Try.underlying9 (hm.reads hr (by simp))
        clear hown
        go_wp2_with fail
        refine (lives_any _).mono ?_
        rintro e w4 ⟨rfl, hm1⟩
        go_wp2
        go_ret
        exact ⟨rfl, hm.trans0 hm1⟩
  · go_enter Try.func7, Try.ntmps7
    go_wp2_with fail
    refine (lives_any _).mono ?_
    rintro e w1 ⟨rfl, hm1⟩
    go_wp2
    go_ret
    exact ⟨rfl, hm1⟩
theorem crcback_walk (A : Option Addr) (n c : Nat) (bs : List Int) (w : World) (hr : ReadsInt w .u8 A n bs) (_ : n ≤ c) (hb : ∀ x ∈ bs, (Lit.int .u8 x).wf = true) (_ : n * 1 ≤ 140737488351232) :
    Calls Try.prog 7 #[.slice A n c] w fun e w' => e = .returned (.bool true) ∧ Mod [] w w' :=
  crcback_any A n c bs w hr (bytes_wf hb)
end Go.Proofs.Ytdkmkiiaklkcgaa
