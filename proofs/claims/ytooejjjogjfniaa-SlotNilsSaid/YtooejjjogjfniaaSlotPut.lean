/- A record put in another one's place. -/
import Derived.Test.YtooejjjogjfniaaSlotAdd
set_option linter.unusedVariables false
set_option linter.unusedSimpArgs false
namespace Go.Proofs.Ytooejjjogjfniaa
open Go.RowKit Go.Proofs.YtooejjjogjfniaaW.PrintWords Go.Proofs.Ytooejjjogjfniaa.PSlotRoom Go.Proofs.YtooejjjogjfniaaW.PrintLast
def PutPost (w : World) (fp : Nat → Prop) (g : Nat) (er : Int) (ys : List S42) (e : Ending) (w' : World) : Prop :=
  e = .returned (.int .i64 er) ∧ Fr fp w w' ∧ Pg w' (grow fp w w') g ys
theorem put_nil (i : Int) (s : ByteArray) (w : World) : Calls Try.prog 15 #[.pointer none, .int .i64 i, .string s] w fun e w' => e = .returned (.int .i64 1) ∧ w = w' := by
  go_enter Try.func15, Try.ntmps15
  go_wp2
  go_ret
  exact ⟨rfl, rfl⟩
set_option maxRecDepth 100000 in
set_option maxHeartbeats 1000000 in
theorem put_any (w : World) (fp : Nat → Prop) (g : Nat) (l : List S42) (i : Int) (s : ByteArray) (h : Pg w fp g l) (hi : Inv l) (hs : s.size ≤ 100000) :
    Calls Try.prog 15 #[.pointer (some ⟨g, 0, none⟩), .int .i64 i, .string s] w (PutPost w fp g (putS l i s).2 (putS l i s).1) := by
  have HH := has_any w fp g l i h
  unfold putS
  by_cases hb : hasS l i = false
  · rw [if_pos hb]
    rw [hb] at HH
    clear hb
    go_enter Try.func15, Try.ntmps15
    go_wp2_with (go_at_call 26; refine HH.mono ?_; rintro e w1 ⟨rfl, rfl⟩)
    go_ret
    exact ⟨rfl, Fr.refl _ _, h.grow (Mod.refl [] w)⟩
  · have hb' : hasS l i = true := by simpa using hb
    rw [if_neg hb]
    rw [hb'] at HH
    obtain ⟨a1, a2, a3⟩ := hasS_true hb'
    clear hb hb'
    by_cases hl : 480 < s.size
    · rw [if_pos hl]
      have t1 : (480 : Int) < (s.size : Int) := by omega
      clear a3
      go_enter Try.func15, Try.ntmps15
      go_wp2_with (go_at_call 26; refine HH.mono ?_; rintro e w1 ⟨rfl, rfl⟩)
      go_ret
      exact ⟨rfl, Fr.refl _ _, h.grow (Mod.refl [] w)⟩
    · rw [if_neg hl]
      have t1 : ¬ (480 : Int) < (s.size : Int) := by omega
      obtain ⟨k, rfl⟩ := Int.eq_ofNat_of_zero_le a1
      have hlt : k < l.length := by simpa using a2
      have hf0 : l[k].f0 = true := a3 hlt
      simp only [Int.toNat_natCast]
      have hset := szs_set l k ⟨true, s⟩ hlt
      have hne : need (l.set k ⟨true, s⟩) + l[k].f1.size = need l + s.size := by
        unfold need
        rw [List.length_set]
        simp only at hset
        omega
      have hsz1 := szs_mem (List.getElem_mem hlt)
      have hzn := szs_need l
      have hnd := hi.nd
      have hln := hi.len
      obtain ⟨v, h1, h2, h3, h4⟩ := h
      obtain ⟨b, c, rfl, hok, hbl, hfz⟩ := row_form h2 (by omega)
      have c0 := (blk_cell h1 0).trans rfl
      have hrC := R_C h2
      have hcl : l.length ≤ c := by
        obtain ⟨A, c', e1, hc', _⟩ := Kd.R_reads h2
        injection e1 with e2 e3 e4
        rw [List.length_map] at hc'
        omega
      have HZ := fun w' hw' => size_any (some ⟨b, 0, none⟩) c l w' hw' hcl (by omega) (by omega)
      obtain ⟨ad, hA, p0, p1⟩ := sl_at hrC k hlt
      obtain rfl : (⟨b, 0, none⟩ : Addr) = ad := Option.some.inj hA
      simp only [add_plain] at p0 p1
      have hki : (0 : Int) ≤ (k : Int) := by omega
      have hki2 : (k : Int) < (l.length : Int) := by omega
      have f1 := hfz (k * 2 + 1)
      have H1 := Lib.hid h1
      have H2 := Lib.hid h2
      have HC := Lib.hid hrC
      have HF0 := Lib.hid hf0
      have HNE := Lib.hid hne
      have HSS := Lib.hid (show l.set k ⟨l[k].f0, s⟩ = l.set k ⟨true, s⟩ by rw [hf0])
      clear h1 h2 hrC hfz hset hne a1 a2 a3 hf0 hA
      have L0 : ∀ w', Mod [] w w' → w'.cell? ⟨g, 0, none⟩ = some (.slice (some ⟨b, 0, none⟩) l.length c) := fun w' h => h.cell c0 (by simp)
      have L1 : ∀ w', Mod [] w w' → w'.cell? ⟨b, k * 2 + 1, none⟩ = some (.string l[k].f1) := fun w' h => h.cell p1 (by simp)
      generalize need (l.set k ⟨true, s⟩) = n2 at *
      generalize need l = n1 at *
      have hx := HNE.out
      generalize hy : l[k].f1 = y at *
      have q1 : IntKind.i64.wrap ((n1 : Int) - (y.size : Int)) = (n1 : Int) - (y.size : Int) := IntWalk.i64_in _ (by omega)
      have q2 : IntKind.i64.wrap ((n1 : Int) - (y.size : Int) + (s.size : Int)) = (n2 : Int) := by rw [IntWalk.i64_in _ (by omega)]; omega
      clear hx hy
      by_cases hn : 512 < n2
      · rw [if_pos hn]
        have t3 : decide (512 < n2) = true := by simpa using hn
        have t4 : decide ((512 : Int) < (n2 : Int)) = true := by simp; omega
        clear hn hnd
        go_enter Try.func15, Try.ntmps15
        go_wp2_with (go_at_call 26; refine HH.mono ?_; rintro e w1 ⟨rfl, rfl⟩)
        go_region_held3 (fun w' => Mod [] w w') (first | exact (Mod.refl [] w).drew | exact Mod.refl [] w | exact Mod.trans0 (by assumption) (by assumption) | exact (by assumption))
          ((go_at_call 22; refine (HZ _ (C_mod HC.out (by assumption))).mono ?_; rintro e w2 ⟨rfl, hm2⟩))
        have hm9 : Mod [] w w2 := by assumption
        go_wp2
        go_ret
        exact ⟨rfl, Fr.of_mod0 hm9, Pg.grow ⟨_, H1.out, H2.out, h3, h4⟩ hm9⟩
      · rw [if_neg hn]
        have t3 : decide (512 < n2) = false := by simpa using hn
        have t4 : decide ((512 : Int) < (n2 : Int)) = false := by simp; omega
        clear hn hnd
        go_enter Try.func15, Try.ntmps15
        go_wp2_with (go_at_call 26; refine HH.mono ?_; rintro e w1 ⟨rfl, rfl⟩)
        go_region_held3 (fun w' => Mod [] w w') (first | exact (Mod.refl [] w).drew | exact Mod.refl [] w | exact Mod.trans0 (by assumption) (by assumption) | exact (by assumption))
          ((go_at_call 22; refine (HZ _ (C_mod HC.out (by assumption))).mono ?_; rintro e w2 ⟨rfl, hm2⟩))
        have hm9 : Mod [] w w2 := by assumption
        have d0 := hm9.cell c0 (by simp)
        have d1 := hm9.cell p1 (by simp)
        have hg9 := hm9.blk H1.out (by simp)
        have hr9 := row_mod H2.out hm9
        obtain ⟨b', c', e9, _, _, hfz⟩ := row_form hr9 (by omega)
        injection e9 with e10
        injection e10 with e11
        injection e11 with e12
        subst e12
        have d2 := hfz (k * 2 + 1)
        have HG9 := Lib.hid hg9
        have HR9 := Lib.hid hr9
        have HM9 := Lib.hid hm9
        clear hg9 hr9 hfz L0 L1 hm2 hm9
        go_wp2
        go_ret
        obtain ⟨k1, k2⟩ := row_set1 HR9.out k hlt hlt s
        rw [HSS.out] at k1
        obtain ⟨m1, m2⟩ := pg_wrote (Fr.of_mod0 HM9.out) HG9.out k1 k2 hok h3 (fun k hk => Nat.lt_of_lt_of_le (h4 k hk) HM9.out.size)
        exact ⟨rfl, m1, m2⟩
end Go.Proofs.Ytooejjjogjfniaa
