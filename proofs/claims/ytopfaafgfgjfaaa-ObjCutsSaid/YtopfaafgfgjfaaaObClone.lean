/- Clone, over a record's parts. -/
import Derived.Test.YtopfaafgfgjfaaaCln
import Derived.Test.YtopfaafgfgjfaaaObRef
set_option linter.unusedVariables false
set_option linter.unusedSimpArgs false
namespace Go.Proofs.Ytopfaafgfgjfaaa
open Go.RowKit Go.Proofs.YtopfaafgfgjfaaaW.PrintWords Go.Proofs.Ytopfaafgfgjfaaa.PObjLinks
theorem info54 : (Try.prog.info? 54).map (fun i => (i.zero, i.size, i.bytes)) = some (some (.agg #[.int .i64 0, .int .i64 0, .string ⟨#[]⟩]), 3, 32) := by kernel_rfl
theorem info_parts {P : Program} {e : TypeId} {z : Value} {n b : Nat} (h : (P.info? e).map (fun i => (i.zero, i.size, i.bytes)) = some (some z, n, b)) : ∃ i, P.info? e = some i ∧ i.zero = some z ∧ i.size = n ∧ i.bytes = b := by
  obtain ⟨i0, hi, hzz⟩ := Option.map_eq_some_iff.1 h
  simp only [Prod.mk.injEq] at hzz
  exact ⟨i0, hi, hzz⟩
set_option maxRecDepth 100000 in
set_option maxHeartbeats 2000000 in
theorem clone21 (w : World) (A : Option Addr) (c : Nat) (L : List S54) (h : Kd.C k54 w A L.length L) (hc : L.length ≤ c) (hl : L.length ≤ 10000) : Calls Try.prog 21 #[.slice A L.length c] w (CloneP k54 54 w L) := by
  cases A with
  | none =>
    have h0 : L = [] := by
      rcases L with _ | ⟨x, t⟩
      · rfl
      · obtain ⟨ad, e, _⟩ := h.2.2 (by simp)
        cases e
    subst h0
    clear h hc hl
    have hP := cloneP_nil k54 54 w
    have q30 : ∀ (w : World) (a : Option Addr) (n c n' c' : Nat), (binOp .eql 30 (.slice a n c) (.slice none n' c')).run Try.prog w = .ok (.bool a.isNone) w := fun w a n c n' c' => Lib.run_eql_slice_nil w _ _ a n c n' c' Try.underlying30
    go_enter Try.func21, Try.ntmps21
    go_wp2
    go_ret
    exact hP
  | some ad =>
    obtain ⟨inner, h1, h2, h3⟩ := gather k54 h L.length (Nat.le_refl _)
    rw [List.take_length] at h1
    obtain ⟨i0, hi, hz0, hz1, hz2⟩ := info_parts info54
    have H1 := Lib.hid h1
    have H2 := Lib.hid h2
    have H3 := Lib.hid h3
    clear h1 h2 h3 h
    have q30 : ∀ (w : World) (a : Option Addr) (n c n' c' : Nat), (binOp .eql 30 (.slice a n c) (.slice none n' c')).run Try.prog w = .ok (.bool a.isNone) w := fun w a n c n' c' => Lib.run_eql_slice_nil w _ _ a n c n' c' Try.underlying30
    go_enter Try.func21, Try.ntmps21
    go_wp2_with (at_builtin; refine wpList_append_own _ rfl _ _ 30 rfl w.heap.size 54 i0 (.agg #[.int .i64 0, .int .i64 0, .string ⟨#[]⟩]) 3 32 Try.underlying30 hi hz0 hz1 hz2 rfl (by decide) _ _ _ rfl (World.ownsRow_made w #[] 0 (Nat.le_refl _) (Nat.zero_le _) rfl) ad L.length c inner rfl ?qc1 ?qc2 ?qc3 ?qc4 ?qc5 ?qc6 ?_)
    case qc1 => exact H1.out.1
    case qc2 => exact fun j u hj => Lib.cell?_alloc_some _ (H2.out j u hj)
    case qc3 => exact H3.out
    case qc4 => unfold maxLen; omega
    case qc5 => omega
    case qc6 => simp
    intro v' w1 hown hgrow hnil
    have HO := Lib.hid hown
    have HB := Lib.hid (((Below.refl w.heap.size w).alloc (Nat.le_refl _) (.cells #[] 54)).grown hgrow (by simp) (by intro k hk; simp [Value.ownBlock] at hk; omega))
    clear hown hgrow hnil
    go_wp2
    go_ret
    refine cloneP_mk HB.out (fun x cs ok hK => ?_) H1.out (by have h := HO.out; exact h)
    have e := k54_open hK
    subst e
    exact k54_mkM _ _ _ _
end Go.Proofs.Ytopfaafgfgjfaaa
