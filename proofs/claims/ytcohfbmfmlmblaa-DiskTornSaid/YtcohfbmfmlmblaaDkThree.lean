/- Three disks beside one another; what waits, in a row of its own; what a torn write leaves, in plain Lean. -/
import Derived.Test.YtcohfbmfmlmblaaDkKeepM
import Derived.Test.YtcohfbmfmlmblaaDkClone
set_option linter.unusedVariables false
set_option linter.unusedSimpArgs false
namespace Go.Proofs.Ytcohfbmfmlmblaa
open Go.RowKit Go.Proofs.YtcohfbmfmlmblaaW.PrintWords Go.Proofs.Ytcohfbmfmlmblaa.PDiskPlays Go.Proofs.YtcohfbmfmlmblaaW.PrintMore
/-- The three failures' lists of what is kept. -/
structure TK (keepF ks ks' : List Bool) (t n : Nat) : Prop where
  tn : t < n
  w : ∀ j, j < n → ks.getD j false = (keepF.getD j false && decide (j ≠ t))
  a : ∀ j, j < n → ks'.getD j false = (decide (j = t) || ks.getD j false)
theorem fail_keep {keep : List Bool} {torn : Int} {n : Nat} {l : List ByteArray} {k : Nat} {x : S65} (h : (k : Int) ≠ torn) : failStep keep torn n l k x = if keep.getD k false = true then l.set x.f0.toNat x.f1 else l := by
  unfold failStep; rw [if_neg h]
def Later (ks : List Bool) (row : List S65) (t : Nat) (a : Int) (k : Nat) : Prop := ∃ j, t < j ∧ j < k ∧ (rd_T65 row (j : Int)).f0 = a ∧ ks.getD j false = true
section
variable {keepF ks ks' : List Bool} {t N : Nat} {l : List ByteArray} {row : List S65}
theorem torn_early (h : TK keepF ks ks' t row.length) : ∀ k, k ≤ t → failTo keepF (t : Int) N l row k = failTo ks (-1) 0 l row k ∧ failTo ks' (-1) 0 l row k = failTo ks (-1) 0 l row k
  | 0, _ => ⟨rfl, rfl⟩
  | k + 1, hk => by
    obtain ⟨i1, i2⟩ := torn_early h k (by omega)
    have htn := h.tn
    have e1 : ks.getD k false = keepF.getD k false := by rw [h.w k (by omega), decide_eq_true (by omega), Bool.and_true]
    have e2 : ks'.getD k false = ks.getD k false := by rw [h.a k (by omega), decide_eq_false (by omega), Bool.false_or]
    simp only [failTo]
    rw [fail_keep (by omega), fail_keep (by omega), fail_keep (by omega), i1, i2, e2, e1]
    exact ⟨rfl, rfl⟩
theorem torn_at (h : TK keepF ks ks' t row.length) : failTo ks (-1) 0 l row (t + 1) = failTo ks (-1) 0 l row t ∧ failTo ks' (-1) 0 l row (t + 1) = (failTo ks (-1) 0 l row t).set (rd_T65 row (t : Int)).f0.toNat (rd_T65 row (t : Int)).f1 ∧
    failTo keepF (t : Int) N l row (t + 1) = (failTo ks (-1) 0 l row t).set (rd_T65 row (t : Int)).f0.toNat (tear N (rd_T65 row (t : Int)).f1 ((failTo ks (-1) 0 l row t).getD (rd_T65 row (t : Int)).f0.toNat ⟨#[]⟩)) := by
  obtain ⟨i1, i2⟩ := torn_early (N := N) (l := l) h t (Nat.le_refl _)
  have htn := h.tn
  have e1 : ks.getD t false = false := by rw [h.w t htn, decide_eq_false (by omega), Bool.and_false]
  have e2 : ks'.getD t false = true := by rw [h.a t htn, decide_eq_true (by omega), Bool.true_or]
  refine ⟨?_, ?_, ?_⟩
  · simp only [failTo]
    rw [fail_keep (by omega), e1]; rfl
  · simp only [failTo]
    rw [fail_keep (by omega), e2, i2]; rfl
  · simp only [failTo]
    rw [failStep, if_pos rfl, i1]
theorem torn_late (h : TK keepF ks ks' t row.length) (hat : ∀ x ∈ row, 0 ≤ x.f0 ∧ x.f0 < (l.length : Int)) : ∀ q, t + 1 + q ≤ row.length →
    (∀ j : Nat, (j : Int) ≠ (rd_T65 row (t : Int)).f0 → (failTo keepF (t : Int) N l row (t + 1 + q)).getD j ⟨#[]⟩ = (failTo ks (-1) 0 l row (t + 1 + q)).getD j ⟨#[]⟩) ∧
    (Later ks row t (rd_T65 row (t : Int)).f0 (t + 1 + q) → (failTo keepF (t : Int) N l row (t + 1 + q)).getD (rd_T65 row (t : Int)).f0.toNat ⟨#[]⟩ = (failTo ks (-1) 0 l row (t + 1 + q)).getD (rd_T65 row (t : Int)).f0.toNat ⟨#[]⟩) ∧
    (¬ Later ks row t (rd_T65 row (t : Int)).f0 (t + 1 + q) → (failTo ks (-1) 0 l row (t + 1 + q)).getD (rd_T65 row (t : Int)).f0.toNat ⟨#[]⟩ = (failTo ks (-1) 0 l row t).getD (rd_T65 row (t : Int)).f0.toNat ⟨#[]⟩ ∧
      (failTo ks' (-1) 0 l row (t + 1 + q)).getD (rd_T65 row (t : Int)).f0.toNat ⟨#[]⟩ = (rd_T65 row (t : Int)).f1 ∧
      (failTo keepF (t : Int) N l row (t + 1 + q)).getD (rd_T65 row (t : Int)).f0.toNat ⟨#[]⟩ = tear N (rd_T65 row (t : Int)).f1 ((failTo ks (-1) 0 l row t).getD (rd_T65 row (t : Int)).f0.toNat ⟨#[]⟩))
  | 0, hq => by
    obtain ⟨e1, e2, e3⟩ := torn_at (N := N) (l := l) h
    have ha := hat _ (show rd_T65 row (t : Int) ∈ row by rw [rd65 row t h.tn]; exact List.getElem_mem _)
    have hlen : (failTo ks (-1) 0 l row t).length = l.length := failTo_len _ _ _ _ _ _
    have hlt : (rd_T65 row (t : Int)).f0.toNat < (failTo ks (-1) 0 l row t).length := by rw [hlen]; omega
    rw [Nat.add_zero, e1, e2, e3]
    refine ⟨fun j hj => getD_set_ne (by omega) _, fun ⟨j, h1, h2, _⟩ => by omega, fun _ => ⟨rfl, getD_set_eq hlt _, getD_set_eq hlt _⟩⟩
  | q + 1, hq => by
    obtain ⟨i1, i2, i3⟩ := torn_late h hat q (by omega)
    have hk : t + 1 + q < row.length := by omega
    have ha := hat _ (show rd_T65 row (t : Int) ∈ row by rw [rd65 row t h.tn]; exact List.getElem_mem _)
    have hx := hat _ (show rd_T65 row ((t + 1 + q : Nat) : Int) ∈ row by rw [rd65 row _ hk]; exact List.getElem_mem _)
    have e1 : ks.getD (t + 1 + q) false = keepF.getD (t + 1 + q) false := by rw [h.w _ hk, decide_eq_true (by omega), Bool.and_true]
    have e2 : ks'.getD (t + 1 + q) false = ks.getD (t + 1 + q) false := by rw [h.a _ hk, decide_eq_false (by omega), Bool.false_or]
    have lF : (failTo keepF (t : Int) N l row (t + 1 + q)).length = l.length := failTo_len _ _ _ _ _ _
    have lW : (failTo ks (-1) 0 l row (t + 1 + q)).length = l.length := failTo_len _ _ _ _ _ _
    have lA : (failTo ks' (-1) 0 l row (t + 1 + q)).length = l.length := failTo_len _ _ _ _ _ _
    have lat : Later ks row t (rd_T65 row (t : Int)).f0 (t + 1 + q + 1) ↔ Later ks row t (rd_T65 row (t : Int)).f0 (t + 1 + q) ∨ ((rd_T65 row ((t + 1 + q : Nat) : Int)).f0 = (rd_T65 row (t : Int)).f0 ∧ ks.getD (t + 1 + q) false = true) := by
      constructor
      · rintro ⟨j, h1, h2, h3, h4⟩
        by_cases hj : j = t + 1 + q
        · subst hj; exact .inr ⟨h3, h4⟩
        · exact .inl ⟨j, h1, by omega, h3, h4⟩
      · rintro (⟨j, h1, h2, h3, h4⟩ | ⟨h3, h4⟩)
        · exact ⟨j, h1, by omega, h3, h4⟩
        · exact ⟨t + 1 + q, by omega, by omega, h3, h4⟩
    have sF : failTo keepF (t : Int) N l row (t + 1 + q + 1) = if ks.getD (t + 1 + q) false = true then (failTo keepF (t : Int) N l row (t + 1 + q)).set (rd_T65 row ((t + 1 + q : Nat) : Int)).f0.toNat (rd_T65 row ((t + 1 + q : Nat) : Int)).f1 else failTo keepF (t : Int) N l row (t + 1 + q) := by
      rw [failTo, fail_keep (by omega), e1]
    have sW : failTo ks (-1) 0 l row (t + 1 + q + 1) = if ks.getD (t + 1 + q) false = true then (failTo ks (-1) 0 l row (t + 1 + q)).set (rd_T65 row ((t + 1 + q : Nat) : Int)).f0.toNat (rd_T65 row ((t + 1 + q : Nat) : Int)).f1 else failTo ks (-1) 0 l row (t + 1 + q) := by
      rw [failTo, fail_keep (by omega)]
    have sA : failTo ks' (-1) 0 l row (t + 1 + q + 1) = if ks.getD (t + 1 + q) false = true then (failTo ks' (-1) 0 l row (t + 1 + q)).set (rd_T65 row ((t + 1 + q : Nat) : Int)).f0.toNat (rd_T65 row ((t + 1 + q : Nat) : Int)).f1 else failTo ks' (-1) 0 l row (t + 1 + q) := by
      rw [failTo, fail_keep (by omega), e2]
    rw [show t + 1 + (q + 1) = t + 1 + q + 1 by omega, sF, sW, sA, lat]
    generalize rd_T65 row ((t + 1 + q : Nat) : Int) = x at *
    generalize rd_T65 row (t : Int) = y at *
    cases hc : ks.getD (t + 1 + q) false with
    | false =>
      rw [if_neg (by simp), if_neg (by simp), if_neg (by simp)]
      refine ⟨i1, fun hl => ?_, fun hn => i3 (fun hl => hn (.inl hl))⟩
      rcases hl with hl | hl
      · exact i2 hl
      · cases hl.2
    | true =>
      rw [if_pos rfl, if_pos rfl, if_pos rfl]
      refine ⟨fun j hj => ?_, fun hl => ?_, fun hn => ?_⟩
      · by_cases hjx : x.f0.toNat = j
        · subst hjx
          rw [getD_set_eq (by rw [lF]; omega), getD_set_eq (by rw [lW]; omega)]
        · rw [getD_set_ne hjx, getD_set_ne hjx]; exact i1 j hj
      · by_cases hjx : x.f0.toNat = y.f0.toNat
        · rw [hjx, getD_set_eq (by rw [lF]; omega), getD_set_eq (by rw [lW]; omega)]
        · rw [getD_set_ne hjx, getD_set_ne hjx]
          rcases hl with hl | hl
          · exact i2 hl
          · rw [hl.1] at hjx; exact absurd rfl hjx
      · have hne : x.f0 ≠ y.f0 := fun e => hn (.inr ⟨e, rfl⟩)
        have hjx : x.f0.toNat ≠ y.f0.toNat := by omega
        rw [getD_set_ne hjx, getD_set_ne hjx, getD_set_ne hjx]
        exact i3 (fun hl => hn (.inl hl))
/-- Behind all of the writes. -/
theorem torn_end (h : TK keepF ks ks' t row.length) (hat : ∀ x ∈ row, 0 ≤ x.f0 ∧ x.f0 < (l.length : Int)) (i : Nat) :
    (failTo keepF (t : Int) N l row row.length).getD i ⟨#[]⟩ = (failTo ks (-1) 0 l row row.length).getD i ⟨#[]⟩ ∧ ((i : Int) ≠ (rd_T65 row (t : Int)).f0 ∨ Later ks row t (rd_T65 row (t : Int)).f0 row.length) ∨
    ((i : Int) = (rd_T65 row (t : Int)).f0 ∧ ¬ Later ks row t (rd_T65 row (t : Int)).f0 row.length) ∧ (failTo keepF (t : Int) N l row row.length).getD i ⟨#[]⟩ = ((failTo ks' (-1) 0 l row row.length).getD i ⟨#[]⟩).extract 0 N ++ ((failTo ks (-1) 0 l row row.length).getD i ⟨#[]⟩).extract N ((failTo ks (-1) 0 l row row.length).getD i ⟨#[]⟩).size := by
  have htn := h.tn
  obtain ⟨h1, h2, h3⟩ := torn_late (N := N) h hat (row.length - (t + 1)) (by omega)
  rw [show t + 1 + (row.length - (t + 1)) = row.length by omega] at h1 h2 h3
  by_cases hi : (i : Int) = (rd_T65 row (t : Int)).f0
  · have hin : i = (rd_T65 row (t : Int)).f0.toNat := by omega
    by_cases hl : Later ks row t (rd_T65 row (t : Int)).f0 row.length
    · left
      refine ⟨?_, .inr hl⟩
      rw [hin]; exact h2 hl
    · right
      refine ⟨⟨hi, hl⟩, ?_⟩
      obtain ⟨k1, k2, k3⟩ := h3 hl
      rw [hin, k1, k2, k3]; rfl
  · left
    exact ⟨h1 i hi, .inl hi⟩
end
/-- Three disks that the call has made, apart from one another; the blocks B are none's. -/
def T3 (w w1 : World) (g1 : Nat) (D1 : DK) (g2 : Nat) (D2 : DK) (g3 : Nat) (D3 : DK) (B : Nat → Prop) : Prop :=
  ∃ f1 f2 f3 : Nat → Prop, Mod [] w w1 ∧ (∀ k, f1 k → w.heap.size ≤ k) ∧ (∀ k, f2 k → w.heap.size ≤ k) ∧ (∀ k, f3 k → w.heap.size ≤ k) ∧ (∀ k, f1 k → ¬ f2 k) ∧ (∀ k, f1 k → ¬ f3 k) ∧ (∀ k, f2 k → ¬ f3 k) ∧
    Dsk w1 f1 g1 D1 ∧ Dsk w1 f2 g2 D2 ∧ Dsk w1 f3 g3 D3 ∧ ∀ k, B k → k < w1.heap.size ∧ ¬ f1 k ∧ ¬ f2 k ∧ ¬ f3 k
section
variable {w w1 : World} {g1 g2 g3 : Nat} {D1 D2 D3 : DK} {B : Nat → Prop}
theorem T3.rot (h : T3 w w1 g1 D1 g2 D2 g3 D3 B) : T3 w w1 g2 D2 g3 D3 g1 D1 B := by
  obtain ⟨f1, f2, f3, a, b1, b2, b3, c12, c13, c23, d1, d2, d3, e⟩ := h
  exact ⟨f2, f3, f1, a, b2, b3, b1, c23, fun k h2 h1 => c12 k h1 h2, fun k h3 h1 => c13 k h1 h3, d2, d3, d1, fun k hk => ⟨(e k hk).1, (e k hk).2.2.1, (e k hk).2.2.2, (e k hk).2.1⟩⟩
theorem T3.md (h : T3 w w1 g1 D1 g2 D2 g3 D3 B) : Mod [] w w1 := by
  obtain ⟨f1, f2, f3, a, _⟩ := h; exact a
theorem T3.mod {w2 : World} (h : T3 w w1 g1 D1 g2 D2 g3 D3 B) (hm : Mod [] w1 w2) : T3 w w2 g1 D1 g2 D2 g3 D3 B ∧ KeepB B w1 w2 := by
  obtain ⟨f1, f2, f3, a, b1, b2, b3, c12, c13, c23, d1, d2, d3, e⟩ := h
  exact ⟨⟨f1, f2, f3, a.trans0 hm, b1, b2, b3, c12, c13, c23, d1.mod hm, d2.mod hm, d3.mod hm, fun k hk => ⟨Nat.lt_of_lt_of_le (e k hk).1 hm.size, (e k hk).2⟩⟩, fun k hk => hm.block k (e k hk).1 (by simp)⟩
theorem T3.set (h : T3 w w1 g1 D1 g2 D2 g3 D3 B) {p : Addr} (hp : B p.block) (hw : w.heap.size ≤ p.block) (u : Value) : T3 w (w1.setCell p u) g1 D1 g2 D2 g3 D3 B := by
  obtain ⟨f1, f2, f3, a, b1, b2, b3, c12, c13, c23, d1, d2, d3, e⟩ := h
  have hne : ∀ k, (f1 k ∨ f2 k ∨ f3 k) → k ≠ p.block := fun k hk q => by
    subst q
    rcases hk with hk | hk | hk
    · exact (e _ hp).2.1 hk
    · exact (e _ hp).2.2.1 hk
    · exact (e _ hp).2.2.2 hk
  exact ⟨f1, f2, f3, a.setCell (.inr hw) u, b1, b2, b3, c12, c13, c23, d1.keep (by simp) (fun k hk => Below.heap_setCell w1 p u k (hne k (.inl hk))), d2.keep (by simp) (fun k hk => Below.heap_setCell w1 p u k (hne k (.inr (.inl hk)))), d3.keep (by simp) (fun k hk => Below.heap_setCell w1 p u k (hne k (.inr (.inr hk)))), fun k hk => ⟨by simpa using (e k hk).1, (e k hk).2⟩⟩
/-- The first of them has gone on. -/
theorem T3.fail (h : T3 w w1 g1 D1 g2 D2 g3 D3 B) {b : Nat} (hG : Good D1 b) (hb : b ≤ 1000) (KA : Option Addr) (kc : Nat) (keep : List Bool) (torn a : Int) (hk : ∀ w', Mod [] w w' → KeepB B w1 w' → Kd.C Kd.bool w' KA keep.length keep) :
    Calls Try.prog 16 #[.pointer (some ⟨g1, 0, none⟩), .slice KA keep.length kc, .int .i64 torn, .int .i64 a] w1 fun e w' => (∃ v, e = .returned v) ∧ T3 w w' g1 (failD D1 keep torn a) g2 D2 g3 D3 B ∧ KeepB B w1 w' := by
  obtain ⟨f1, f2, f3, m, b1, b2, b3, c12, c13, c23, d1, d2, d3, e⟩ := h
  have hB := hG.bnd hb
  refine (fail_any w1 f1 g1 D1 KA kc keep torn a d1 hB.rl hG.lp hG.ats hG.szs hG.szl (fun w' hF => hk w' (m.fr hF b1) (fun k hk => hF.block k (e k hk).1 (e k hk).2.1))).mono ?_
  rintro en w2 ⟨hv, hF, hD⟩
  refine ⟨hv, ⟨grow f1 w1 w2, f2, f3, m.fr hF b1, fun k hk => grow_ge b1 m.size hk, b2, b3, grow_apart c12 (fun k hk => d2.lt k hk), grow_apart c13 (fun k hk => d3.lt k hk), c23, hD, d2.fr hF (fun k h2 h1 => c12 k h1 h2), d3.fr hF (fun k h3 h1 => c13 k h1 h3), fun k hk => ⟨Nat.lt_of_lt_of_le (e k hk).1 hF.size, fun h => h.1.elim (e k hk).2.1 (fun h => by have := (e k hk).1; omega), (e k hk).2.2⟩⟩, fun k hk => hF.block k (e k hk).1 (e k hk).2.1⟩
theorem T3.out (h : T3 w w1 g1 D1 g2 D2 g3 D3 B) (i : Nat) (hi : i < D1.l.length) : Calls Try.prog 27 #[.pointer (some ⟨g1, 0, none⟩), .int .i64 (i : Int)] w1 fun e w' => e = .returned (.string (rdOf ByteArray.empty D1.l (i : Int))) ∧ w1 = w' := by
  obtain ⟨f1, f2, f3, m, b1, b2, b3, c12, c13, c23, d1, _⟩ := h
  exact out_any w1 f1 g1 D1 i d1 hi
theorem T3.down (h : T3 w w1 g1 D1 g2 D2 g3 D3 B) : Calls Try.prog 13 #[.pointer (some ⟨g1, 0, none⟩)] w1 fun e w' => e = .returned (.bool D1.down) ∧ w1 = w' := by
  obtain ⟨f1, f2, f3, m, b1, b2, b3, c12, c13, c23, d1, _⟩ := h
  exact down_any w1 f1 g1 D1 d1
theorem T3.waiting (h : T3 w w1 g1 D1 g2 D2 g3 D3 B) (hl : D1.row.length ≤ 1000) : Calls Try.prog 25 #[.pointer (some ⟨g1, 0, none⟩)] w1 fun e w' => ∃ A c, e = .returned (.slice A D1.row.length c) ∧ Mod [] w1 w' := by
  obtain ⟨f1, f2, f3, m, b1, b2, b3, c12, c13, c23, d1, _⟩ := h
  refine (waiting_any w1 f1 g1 D1 d1 hl).mono ?_
  rintro e w2 ⟨A, c, rfl, _, hm, _⟩
  exact ⟨A, c, rfl, hm⟩
/-- Two clones of a disk. -/
theorem T3.clones {wa wb : World} {fp fa fb : Nat → Prop} {g ga gb : Nat} {D : DK} (m : Mod [] w w1) (hf : ∀ k, fp k → w.heap.size ≤ k) (hD : Dsk w1 fp g D) (ma : Mod [] w1 wa) (ha : ∀ k, fa k → w1.heap.size ≤ k) (hDa : Dsk wa fa ga D) (mb : Mod [] wa wb) (hb : ∀ k, fb k → wa.heap.size ≤ k) (hDb : Dsk wb fb gb D) :
    T3 w wb ga D gb D g D (fun k => k < w1.heap.size ∧ ¬ fp k) ∧ KeepB (fun k => k < w1.heap.size ∧ ¬ fp k) w1 wb :=
  ⟨⟨fa, fb, fp, (m.trans0 ma).trans0 mb, fun k hk => Nat.le_trans m.size (ha k hk), fun k hk => Nat.le_trans (m.trans0 ma).size (hb k hk), hf,
    fun k h1 h2 => by have := hDa.lt k h1; have := hb k h2; omega, fun k h1 h2 => by have := ha k h1; have := hD.lt k h2; omega, fun k h1 h2 => by have := hb k h1; have := (hD.mod ma).lt k h2; omega,
    hDa.mod mb, hDb, (hD.mod ma).mod mb, fun k hk => ⟨Nat.lt_of_lt_of_le hk.1 (ma.trans0 mb).size, fun h => by have := ha k h; have := hk.1; omega, fun h => by have := hb k h; have := ma.size; have := hk.1; omega, hk.2⟩⟩,
   fun k hk => (ma.trans0 mb).block k hk.1 (by simp)⟩
end
theorem KeepB.cell {B : Nat → Prop} {a b : World} (h : KeepB B a b) {p : Addr} {v : Value} (hc : a.cell? p = some v) (hB : B p.block) : b.cell? p = some v := (World.cell?_of_block (h p.block hB)).trans hc
set_option maxRecDepth 100000 in
set_option maxHeartbeats 1000000 in
theorem waiting_own (w : World) (fp : Nat → Prop) (g : Nat) (D : DK) (h : Dsk w fp g D) (hl : D.row.length ≤ 1000) : Calls Try.prog 25 #[.pointer (some ⟨g, 0, none⟩)] w fun e w' => ∃ A c, e = .returned (.slice A D.row.length c) ∧ D.row.length ≤ c ∧ Mod [] w w' ∧ ReadsInt w' .i64 A D.row.length (D.row.map (·.f0)) ∧ ∀ a, A = some a → w.heap.size ≤ a.block ∧ a.block < w'.heap.size := by
  have hd := h
  obtain ⟨L, R, h1, h2, h3, h4, h5⟩ := h
  obtain ⟨A, c, rfl, hc, hC⟩ := Kd.R_reads h3
  have c1 := (blk_cell h1 1).trans rfl
  clear h2 h4 h1
  go_enter Try.func25, Try.ntmps25
  go_wp2_with fail
  go_loopw [3, 14] (fun v iv wr => ∃ (k : Nat) (os : List Int), iv = .int .i64 (k : Int) ∧ k ≤ D.row.length ∧ os = (D.row.take k).map (·.f0) ∧ Mod [] w wr ∧ wr.ownsRow w.heap.size 3 1 v os.length (nums .i64 os)) (fun _ iv _ => D.row.length - (intOf iv).toNat)
  case atStart => exact ⟨0, [], rfl, Nat.zero_le _, rfl, Mod.refl _ _, own_nil _ _ _ _⟩
  case round =>
    obtain ⟨k, os, rfl, hk, hos, hm, ho⟩ := hrel
    by_cases hlt : k < D.row.length
    · have hlt2 : (k : Int) < (D.row.length : Int) := by omega
      have hk0 : (0 : Int) ≤ (k : Int) := by omega
      obtain ⟨ad, rfl, p0, p1⟩ := at_T65 (Kd.C_below hC hm.below0) (k : Int) hk0 hlt2
      rw [Int.toNat_natCast, rd65 D.row k hlt] at p0 p1
      have hol : os.length = k := by rw [hos]; simp; omega
      have HOS := Lib.hid (show os ++ [D.row[k].f0] = (D.row.take (k + 1)).map (·.f0) by rw [hos, List.take_add_one, List.getElem?_eq_getElem hlt, List.map_append]; rfl)
      generalize D.row[k] = x at *
      have HOL := Lib.hid hol
      have HO := Lib.hid ho
      have HM := Lib.hid (hm.alloc (.cells #[.int .i64 x.f0, .string x.f1] 65))
      have HO2 := Lib.hid (Mod.own (S := []) ((Mod.refl [] wr).alloc (.cells #[.int .i64 x.f0, .string x.f1] 65)) ho (by simp))
      have hsz := (hm.alloc (.cells #[.int .i64 x.f0, .string x.f1] 65)).size
      have y0 := (blk_cell (blk_new wr (.cells #[.int .i64 x.f0, .string x.f1] 65)) 0).trans rfl
      clear hos hol ho hm hC
      go_upto_region 7 with fail
      generalize wr.alloc _ = W at *
      generalize wr.heap.size = b at *
      go_wp2_with (at_builtin; refine append_one w.heap.size rfl (.tmp 18) (.tmp 21) 40 3 .i64 8 rfl Try.underlying40 info3 (by decide) _ os _ rfl rfl HO2.out HM.out (Nat.le_refl _) hsz (by have := HOL.out; omega) ?_; intro v1 w2 hown1 hm1 hg hat; clear hg hat)
      refine ⟨⟨k + 1, _, by go_num, by omega, HOS.out, hm1, hown1⟩, ?_⟩
      simp [intOf]; omega
    · obtain rfl : k = D.row.length := by omega
      rw [List.take_of_length_le (Nat.le_refl _)] at hos
      have hol : os.length = D.row.length := by rw [hos]; simp
      obtain ⟨A1, c1', rfl, hc1, hr2, hA1⟩ := own_form ho
      rw [hol] at hc1 hr2 ⊢
      have HR := Lib.hid hr2
      have HOS := Lib.hid hos
      have HM := Lib.hid hm
      have HA := Lib.hid hA1
      clear ho hos hr2 hm hol hA1
      go_wp2
      go_ret
      exact ⟨A1, c1', rfl, hc1, HM.out, by rw [← HOS.out]; exact HR.out, HA.out⟩
/-- A row of bools that the call has made. -/
def Row7 (w : World) (b c : Nat) (ks : List Bool) : Prop := Kd.R Kd.bool 4 w 0 (fun k => k = b) (.slice (some ⟨b, 0, none⟩) ks.length c) ks
theorem Row7.put {w : World} {b c : Nat} {ks : List Bool} (h : Row7 w b c ks) (i : Nat) (x : Bool) : Row7 (w.setCell ⟨b, i, none⟩ (.bool x)) b c (ks.set i x) := by
  have := (Kd.R_put h (i : Int) x).1
  rw [Int.toNat_natCast] at this
  unfold Row7
  rw [List.length_set]
  exact this
theorem Row7.cell {w : World} {b c : Nat} {ks : List Bool} (h : Row7 w b c ks) (i : Nat) (hi : i < ks.length) : w.cell? ⟨b, i, none⟩ = some (.bool (ks.getD i false)) ∧ w.frozen? ⟨b, i, none⟩ = false := by
  have := Kd.R_cell false h (i : Int) (by omega) (by omega)
  rw [Int.toNat_natCast] at this
  exact ⟨by rw [this.1, rdOf, Int.toNat_natCast], this.2⟩
theorem Row7.keep {w w' : World} {b c : Nat} {ks : List Bool} (h : Row7 w b c ks) (hk : w'.heap[b]? = w.heap[b]?) : Row7 w' b c ks := Kd.R_move h (fun k hk' => by subst hk'; exact hk)
theorem Row7.reads {w : World} {b c : Nat} {ks : List Bool} (h : Row7 w b c ks) : Kd.C Kd.bool w (some ⟨b, 0, none⟩) ks.length ks := by
  obtain ⟨A, c', e, _, hC⟩ := Kd.R_reads h
  injection e with e1 e2 e3
  rw [e1]; exact hC
end Go.Proofs.Ytcohfbmfmlmblaa
