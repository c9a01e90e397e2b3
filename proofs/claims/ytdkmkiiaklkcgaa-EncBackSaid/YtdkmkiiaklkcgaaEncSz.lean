/- The reader of the program: sized bytes. -/
import Derived.Test.YtdkmkiiaklkcgaaEncEnd
set_option linter.unusedVariables false
set_option linter.unusedSimpArgs false
namespace Go.Proofs.Ytdkmkiiaklkcgaa
open Go.RowKit Go.Proofs.YtdkmkiiaklkcgaaW.PrintWords
theorem slice_mid {P : Program} {t e : TypeId} {k : IntKind} {i : TypeInfo} (ht : P.underlying t = some (.slice e)) (hi : P.info? e = some i) (hsz : i.size = 1) {w : World} {A : Option Addr} {n c : Nat} {xs : List Int} (hr : ReadsInt w k A n xs) (p q : Nat) (hpq : p ≤ q) (hq : q ≤ n) (hc : n ≤ c) :
    ∃ A', (∀ W : World, (Instr.slice t (.slice A n c) (some (.int .i64 (p : Int))) (some (.int .i64 (q : Int))) none).run P W = .ok (.slice A' (q - p) (c - p)) W) ∧ ∀ w', ReadsInt w' k A n xs → ReadsInt w' k A' (q - p) ((xs.drop p).take (q - p)) := by
  refine ⟨_, fun W => ?_, fun w' hr' => (hr'.drop_ p (by omega) hc).take_ (q - p) (by omega)⟩
  have := cut_mid t e .i64 .i64 ht hi 1 hsz A n c (p : Int) (q : Int) (by omega) (by omega) (by omega) hc W
  simpa using this
def rsized (bs : List Int) (p : Nat) (limit : Int) : List Int × Nat × Nat :=
  if (rcount bs p limit).2.2 ≠ 0 then ([], p, (rcount bs p limit).2.2)
  else if bs.length - (rcount bs p limit).2.1 < (rcount bs p limit).1 then ([], p, 3)
  else ((bs.drop (rcount bs p limit).2.1).take (rcount bs p limit).1, (rcount bs p limit).2.1 + (rcount bs p limit).1, 0)
def SizedPost (w : World) (g : Nat) (A : Option Addr) (c : Nat) (bs : List Int) (r : List Int × Nat × Nat) (e : Ending) (w' : World) : Prop :=
  ∃ A2 n2 c2, e = .returned (.slice A2 n2 c2) ∧ ReadsInt w' .u8 A2 n2 r.1 ∧ Mod [g] w w' ∧ Rdr w' g A c bs r.2.1 (r.2.2 : Int)
theorem rcount_err (bs : List Int) (p : Nat) (limit : Int) (h : (rcount bs p limit).2.2 ≠ 0) : (rcount bs p limit).2.1 = p := by
  unfold rcount at h ⊢
  split
  · rfl
  · split
    · rfl
    · split
      · rfl
      · rename_i h1 h2 h3; rw [if_neg h1, if_neg h2, if_neg h3] at h; exact absurd rfl h
set_option maxRecDepth 100000 in
set_option maxHeartbeats 1000000 in
theorem sized_ready (g : Nat) (A : Option Addr) (c : Nat) (bs : List Int) (p : Nat) (limit : Int) (w : World) (h : Rdr w g A c bs p 0) (hl0 : -9223372036854775808 ≤ limit) (hl1 : limit ≤ 9223372036854775807) :
    Calls Try.prog 45 #[.pointer (some ⟨g, 0, none⟩), .int .i64 limit] w (SizedPost w g A c bs (rsized bs p limit)) := by
  obtain ⟨R, hR⟩ : ∃ R, rsized bs p limit = R := ⟨_, rfl⟩
  rw [hR]
  unfold rsized at hR
  have HE := Lib.hid (rcount_err bs p limit)
  have HC := Lib.hid (count_ready g A c bs p limit w h hl0 hl1)
  obtain ⟨⟨n, p', f⟩, hn⟩ : ∃ r, rcount bs p limit = r := ⟨_, rfl⟩
  rw [hn] at hR HC HE
  have HR := Lib.hid hR
  clear hR hl0 hl1 hn
  have c1 := h.c1
  go_enter Try.func45, Try.ntmps45
  go_wp2_with fail
  refine (ready_any g A c bs p 0 w h).mono ?_
  rintro e w1 ⟨rfl, rfl⟩
  go_wp2_with fail
  refine HC.out.mono ?_
  rintro e w1 ⟨rfl, hm, h1⟩
  simp only at h1 ⊢
  have c2 := h1.c2
  clear c1
  by_cases hf : f = 0
  · subst hf
    have hle := h1.le
    have hmax := h1.max
    have t1 : (((0 : Nat) : Int) != 0) = false := rfl
    go_wp2_with fail
    refine (rest_any g A c bs p' _ w1 h1).mono ?_
    rintro e w2 ⟨rfl, hm2⟩
    have h2 := h1.mod hm2 (by simp) (by simp)
    have hm12 := Mod.trans0 hm hm2
    clear c2 hm hm2 h1
    by_cases hgt : bs.length - p' < n
    · have HF := Lib.hid (show R = ([], p, 3) by rw [← HR.out, if_neg (by simp), if_pos hgt])
      have hp := h.le
      have f1 := h2.fz 1
      have cc1 := h2.c1
      generalize bs.length - p' = m at hgt
      go_wp2_with fail
      have hm3 := (Mod.refl [g] w2).setCell (p := ⟨g, 1, none⟩) (by simp) (.int .i64 (p : Int))
      have h3 : Rdr (w2.setCell ⟨g, 1, none⟩ (.int .i64 (p : Int))) g A c bs p 0 := h2.set hm3 p 0 hp (by rw [blk_set h2.blk]; simp)
      refine (fail_ok g A c bs p 3 _ h3).mono ?_
      rintro e w4 ⟨rfl, hm4, h4⟩
      go_wp2
      go_ret
      exact ⟨none, 0, 0, rfl, by rw [HF.out]; exact reads_nil _ _, (hm12.trans_ hm3).trans_ hm4, by rw [HF.out]; exact h4⟩
    · have HF := Lib.hid (show R = ((bs.drop p').take n, p' + n, 0) by rw [← HR.out, if_neg (by simp), if_neg hgt])
      have hq : p' + n ≤ bs.length := by omega
      have cc1 := h2.c1
      have cc0 := h2.c0
      have f1 := h2.fz 1
      have t2 : decide (((bs.length - p' : Nat) : Int) < (n : Int)) = false := by simp; omega
      clear hgt
      go_upto_region 12 with fail
      obtain ⟨q, hqq⟩ : ∃ q, p' + n = q := ⟨_, rfl⟩
      rw [show (p' : Int) + n = (q : Int) by omega]
      rw [hqq] at HF hq
      have hm3 := (Mod.refl [g] w2).setCell (p := ⟨g, 1, none⟩) (by simp) (.int .i64 (q : Int))
      have h3 : Rdr (w2.setCell ⟨g, 1, none⟩ (.int .i64 (q : Int))) g A c bs q 0 := h2.set hm3 q 0 hq (by rw [blk_set h2.blk]; simp)
      have hm13 := hm12.trans_ hm3
      clear cc1 cc0 f1 hm3 h2 hm12 t2
      generalize w2.setCell ⟨g, 1, none⟩ (.int .i64 (q : Int)) = w3 at h3 hm13 ⊢
      obtain ⟨i5, hi5, hs5⟩ := info5_parts
      obtain ⟨A', hsl, hrd⟩ := slice_mid (t := 22) Try.underlying22 hi5 hs5 h3.reads p' q (by omega) hq h3.cap
      clear hi5 hs5
      have q1 : IntKind.i64.wrap ((q : Int) - n) = p' := by rw [IntWalk.i64_in _ (by omega)]; omega
      have q2 : (p' : Int) ≤ q := by omega
      have d0 := h3.c0
      have d1 := h3.c1
      have HQ := Lib.hid hqq
      have hn' : q - p' ≤ 140737488355000 := by omega
      clear hqq
      have hrr := (h3.mod ((Mod.refl [] w3).drew) (by simp) (by simp)).reads
      go_region_held3 (fun w' => w'.cell? ⟨g, 0, none⟩ = some (.slice A bs.length c) ∧ w'.cell? ⟨g, 1, none⟩ = some (.int .i64 (q : Int))) (first | exact ⟨d0, d1⟩ | exact ⟨Mod.cell (S := []) (by assumption) d0 (by simp), Mod.cell (S := []) (by assumption) d1 (by simp)⟩ | exact (by assumption)) ((go_at_call 41; refine (clone_any A' (q - p') (c - p') ((bs.drop p').take (q - p')) w3.drew (hrd _ hrr) hn').mono ?_; rintro e w4 ⟨v, rfl, hm4, hown⟩; have hm4' : Mod [] w3 w4 := ((Mod.refl [] w3).drew).trans0 hm4))
      obtain ⟨A4, c4, rfl, _, hr4, _⟩ := own_form hown
      go_wp2
      go_ret
      refine ⟨A4, _, c4, rfl, ?_, hm13.trans0 hm4', ?_⟩
      · rw [HF.out]
        have : q - p' = n := by have := HQ.out; omega
        rw [this] at hr4 ⊢
        exact hr4
      · rw [HF.out]; exact h3.mod hm4' (by simp) (by simp)
  · have t1 : ((f : Int) != 0) = true := by simp; omega
    have HF := Lib.hid (show R = ([], p, f) by rw [← HR.out, if_pos hf])
    have he : p' = p := HE.out hf
    subst he
    clear hf
    go_wp2
    go_ret
    exact ⟨none, 0, 0, rfl, by rw [HF.out]; exact reads_nil _ _, hm, by rw [HF.out]; exact h1⟩
end Go.Proofs.Ytdkmkiiaklkcgaa
