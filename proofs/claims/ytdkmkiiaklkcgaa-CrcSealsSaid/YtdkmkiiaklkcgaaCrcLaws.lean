/- The walks of the laws CrcSums and CrcSeals: for every input they come to true. -/
import Derived.Test.YtdkmkiiaklkcgaaCrcRefB
import Derived.Deep.DeepCutAuto
import Derived.OpenShut
import Derived.BigQuiet
import Derived.IntWalk
import Derived.Deep.QuietTactic
set_option linter.unusedVariables false
set_option linter.unusedSimpArgs false
namespace Go.Proofs.Ytdkmkiiaklkcgaa
open Go.RowKit Go.Proofs.YtdkmkiiaklkcgaaW.PrintWords
theorem crcSums_any (A : Option Addr) (n c : Nat) (bs : List Int) (s : Nat) (w : World) (hr : ReadsInt w .u8 A n bs) (hbs : Bytes bs) (hs : s < 4294967296) :
    Calls Try.prog 3 #[.slice A n c, .int .u32 (s : Int)] w fun e w' => e = .returned (.bool true) ∧ Mod [] w w' := by
  have hmax := hr.2.1
  by_cases hn : n ≤ 400
  · have hn' : ¬ (400 : Int) < n := by omega
    go_enter Try.func3, Try.ntmps3
    go_wp2_with fail
    refine (sum_any A n c bs w hr hbs).mono ?_
    rintro e w1 ⟨rfl, hm1⟩
    go_wp2_with fail
    refine (refMore_any 0 A n c bs w1 (by omega) (hm1.reads hr (by simp)) hbs).mono ?_
    rintro e w2 ⟨rfl, hm2⟩
    rw [show ((0 : Nat) : Int) = 0 from rfl]
    have hm12 := hm1.trans0 hm2
    clear hm1 hm2
    go_wp2_with fail
    refine (more_any s A n c bs w2 (hm12.reads hr (by simp)) hbs).mono ?_
    rintro e w3 ⟨rfl, hm3⟩
    have hm13 := hm12.trans0 hm3
    clear hm12 hm3
    go_wp2_with fail
    refine (refMore_any s A n c bs w3 hs (hm13.reads hr (by simp)) hbs).mono ?_
    rintro e w4 ⟨rfl, hm4⟩
    have hm14 := hm13.trans0 hm4
    clear hm13 hm4
    go_wp2_with fail
    refine (lives_any _).mono ?_
    rintro e w5 ⟨rfl, hm5⟩
    go_wp2
    go_ret
    exact ⟨rfl, hm14.trans0 hm5⟩
  · have hn' : (400 : Int) < n := by omega
    go_enter Try.func3, Try.ntmps3
    go_wp2_with fail
    refine (lives_any _).mono ?_
    rintro e w4 ⟨rfl, hm1⟩
    go_wp2
    go_ret
    exact ⟨rfl, hm1⟩
theorem crcSums_walk (A : Option Addr) (n c : Nat) (bs : List Int) (s : Int) (w : World) (hr : ReadsInt w .u8 A n bs) (_ : n ≤ c) (hb : ∀ x ∈ bs, (Lit.int .u8 x).wf = true) (hn : n * 1 ≤ 140737488351232) (h2 : (Lit.int .u32 s).wf = true) :
    Calls Try.prog 3 #[.slice A n c, .int .u32 s] w fun e w' => e = .returned (.bool true) ∧ Mod [] w w' := by
  have hb2 := bounds_u32 h2
  obtain ⟨s, rfl⟩ := Int.eq_ofNat_of_zero_le hb2.1
  exact crcSums_any A n c bs s w hr (bytes_wf hb) (by omega)
theorem crcSeals_any (A : Option Addr) (n c : Nat) (bs : List Int) (w : World) (hr : ReadsInt w .u8 A n bs) (hbs : Bytes bs) (hnc : n ≤ c) :
    Calls Try.prog 6 #[.slice A n c] w fun e w' => e = .returned (.bool true) ∧ Mod [] w w' := by
  have hmax := hr.2.1
  have HL := Lib.hid hr.1
  by_cases hn : n ≤ 400
  · have hn' : ¬ (400 : Int) < n := by omega
    go_enter Try.func6, Try.ntmps6
    go_upto_region 3 with fail
    go_cut [14] (fun t wx => t = .bool false ∧ Mod [] w wx)
    case first =>
      have hm0 := (Mod.refl [] w).drew
      go_region_with (first
        | (go_at_call 25; refine (seal_any A n c bs _ (hm0.reads hr (by simp)) hbs (by omega)).mono ?_; rintro e w1 ⟨v1, rfl, hm1, hown1⟩; have k1 := own_string (src := 22) (dst := 9) Try.underlying22 Try.underlying5 Try.underlying9 hown1; have hm2 := hm0.trans0 hm1)
        | (go_at_call 26; refine (refSeal_any A n c bs _ (hm2.reads hr (by simp)) hbs (by omega)).mono ?_; rintro e w2 ⟨rfl, hm3⟩; have k2 := own_string (src := 22) (dst := 9) Try.underlying22 Try.underlying5 Try.underlying9 (hm3.own hown1 (by simp)); have hm4 := hm2.trans0 hm3))
      all_goals (go_wp2_with fail; go_meet; exact ⟨rfl, hm4⟩)
    case rest =>
      obtain ⟨rfl, hm⟩ := hcut
      by_cases h4 : n < 4
      · have h4' : decide ((n : Int) < 4) = true := by simp; omega
        go_wp2_with fail
        refine (open_short A n c wc h4).mono ?_
        rintro e w1 ⟨rfl, rfl⟩
        go_upto_region 6 with fail
        go_quiet (fail)
        go_wp2_with fail
        refine (lives_any _).mono ?_
        rintro e w4 ⟨rfl, hm1⟩
        go_wp2
        go_ret
        exact ⟨rfl, hm.trans0 (Mod.trans0 ((Mod.refl [] _).drewN _) hm1)⟩
      · have h4' : decide ((n : Int) < 4) = false := by simp; omega
        have h4i : (4 : Int) ≤ n := by omega
        have hc4 : (n : Int) ≤ c := by omega
        go_wp2_with fail
        refine (open_any A n c bs wc (hm.reads hr (by simp)) hbs (by omega) hnc (by omega)).mono ?_
        rintro e w1 ⟨hm1, hpost, hpost'⟩
        have hm01 := hm.trans0 hm1
        have hb4 := bytes_take hbs (n - 4)
        have hrt := hr.take_ (n - 4) (by omega)
        have C1 : ∀ w', Mod [] w1 w' → (convert 22 9 (.slice A n c)).run Try.prog w' = .ok (.string (strOfNums bs)) w' := fun w' h => string_of_reads Try.underlying22 Try.underlying5 Try.underlying9 ((hm01.trans0 h).reads hr (by simp))
        by_cases hs : crcSeal (bs.take (n - 4)) = bs
        · obtain ⟨A2, rfl, hr2, hA2⟩ := hpost hs
          have HS := Lib.hid hs
          have hst := str_same hs
          clear hpost hpost' hs hm1 hm
          go_upto_region 6 with fail
          go_cut [33] (fun t wx => t = .bool false ∧ Mod [] w1 wx)
          case first =>
            have q1 : IntKind.i64.wrap ((n : Int) - 4) = (n : Int) - 4 := IntWalk.i64_in _ (by omega)
            have q2 : (0 : Int) ≤ (n : Int) - 4 := by omega
            have q3 : (n : Int) - 4 ≤ c := by omega
            have q4 : ((n : Int) - 4).toNat = n - 4 := by omega
            go_region_held3 (fun w' => Mod [] w1 w') (first | exact (Mod.refl [] _).drew | exact Mod.trans0 (by assumption) (by assumption) | exact (by assumption)) ((go_at_call 26; refine (refSeal_any A (n - 4) c (bs.take (n - 4)) _ (Mod.reads (S := []) (hm01.trans0 (by assumption)) hrt (by simp)) hb4 (by omega)).mono ?_; rintro e w2 ⟨rfl, hm3⟩))
            all_goals (go_wp2_with fail; go_meet; exact ⟨rfl, by assumption⟩)
          case rest =>
            obtain ⟨rfl, hm2⟩ := hcut
            have hr3 := hm2.reads hr2 (by simp)
            have q1 : IntKind.i64.wrap ((n : Int) - 4) = (n : Int) - 4 := IntWalk.i64_in _ (by omega)
            have q2 : (0 : Int) ≤ (n : Int) - 4 := by omega
            have q3 : (n : Int) - 4 ≤ c := by omega
            have q4 : ((n : Int) - 4).toNat = n - 4 := by omega
            obtain ⟨w9, rfl⟩ : ∃ w9 : World, w9 = wc := ⟨_, rfl⟩
            have K1 : ∀ w', Mod [] w9 w' → (convert 22 9 (.slice A2 (n - 4) (n - 4))).run Try.prog w' = .ok (.string (strOfNums (bs.take (n - 4)))) w' := fun w' h => string_of_reads Try.underlying22 Try.underlying5 Try.underlying9 (h.reads hr3 (by simp))
            have K2 : ∀ w', Mod [] w9 w' → (convert 22 9 (.slice A (n - 4) c)).run Try.prog w' = .ok (.string (strOfNums (bs.take (n - 4)))) w' := fun w' h => string_of_reads Try.underlying22 Try.underlying5 Try.underlying9 (((hm01.trans0 hm2).trans0 h).reads hrt (by simp))
            go_upto_region 8 with fail
            go_region_held3 (fun w' => Mod [] w9 w') (first | exact (Mod.refl [] _).drew | exact Mod.trans0 (by assumption) (by assumption) | exact (by assumption)) ((go_at_call 11; refine (lives_any _).mono ?_; rintro e w2 ⟨rfl, hm3⟩))
            go_wp2
            go_ret
            exact ⟨rfl, (hm01.trans0 hm2).trans0 (by assumption)⟩
        · have hp' := hpost' hs
          subst hp'
          have hst := str_other (crcSeal_bd hb4) hbs hs
          clear hpost hpost' hs hm1 hm
          go_upto_region 6 with fail
          go_cut [33] (fun t wx => t = .bool true ∧ Mod [] w1 wx)
          case first =>
            have q1 : IntKind.i64.wrap ((n : Int) - 4) = (n : Int) - 4 := IntWalk.i64_in _ (by omega)
            have q2 : (0 : Int) ≤ (n : Int) - 4 := by omega
            have q3 : (n : Int) - 4 ≤ c := by omega
            have q4 : ((n : Int) - 4).toNat = n - 4 := by omega
            go_region_held3 (fun w' => Mod [] w1 w') (first | exact (Mod.refl [] _).drew | exact Mod.trans0 (by assumption) (by assumption) | exact (by assumption)) ((go_at_call 26; refine (refSeal_any A (n - 4) c (bs.take (n - 4)) _ (Mod.reads (S := []) (hm01.trans0 (by assumption)) hrt (by simp)) hb4 (by omega)).mono ?_; rintro e w2 ⟨rfl, hm3⟩))
            all_goals (go_wp2_with fail; go_meet; exact ⟨rfl, by assumption⟩)
          case rest =>
            obtain ⟨rfl, hm2⟩ := hcut
            go_wp2_with fail
            refine (lives_any _).mono ?_
            rintro e w4 ⟨rfl, hm3⟩
            go_wp2
            go_ret
            exact ⟨rfl, (hm01.trans0 hm2).trans0 hm3⟩
  · have hn' : (400 : Int) < n := by omega
    go_enter Try.func6, Try.ntmps6
    go_wp2_with fail
    refine (lives_any _).mono ?_
    rintro e w4 ⟨rfl, hm1⟩
    go_wp2
    go_ret
    exact ⟨rfl, hm1⟩
theorem crcSeals_walk (A : Option Addr) (n c : Nat) (bs : List Int) (w : World) (hr : ReadsInt w .u8 A n bs) (hnc : n ≤ c) (hb : ∀ x ∈ bs, (Lit.int .u8 x).wf = true) (hn : n * 1 ≤ 140737488351232) :
    Calls Try.prog 6 #[.slice A n c] w fun e w' => e = .returned (.bool true) ∧ Mod [] w w' :=
  crcSeals_any A n c bs w hr (bytes_wf hb) hnc
end Go.Proofs.Ytdkmkiiaklkcgaa
