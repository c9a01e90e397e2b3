/- The statement's own comparison: what is taken off is what was written. -/
import Derived.Test.YtdkmkiiaklkcgaaEncOps
import Derived.Deep.RegionHeld3
import Derived.Deep.DeepCutAuto
set_option linter.unusedVariables false
set_option linter.unusedSimpArgs false
namespace Go.Proofs.Ytdkmkiiaklkcgaa
open Go.RowKit Go.Proofs.YtdkmkiiaklkcgaaW.PrintWords
def rsame (bs : List Int) (p : Nat) (o : EOp) : Bool × Nat × Nat :=
  if o.kind = 0 then (((rcount bs p 9223372036854775807).1 : Int) == max o.n 0, (rcount bs p 9223372036854775807).2)
  else if o.kind = 1 then ((rwhole bs p).1 == o.n, (rwhole bs p).2)
  else ((strOfNums (rsized bs p 300).1).toList == (strOfNums o.data).toList, (rsized bs p 300).2)
def SamePost (w : World) (g : Nat) (A : Option Addr) (c : Nat) (bs : List Int) (r : Bool × Nat × Nat) (e : Ending) (w' : World) : Prop :=
  e = .returned (.bool r.1) ∧ Mod [g] w w' ∧ Rdr w' g A c bs r.2.1 (r.2.2 : Int)
theorem Mod.trans_0 {g : Nat} {w W w1 : World} (h : Mod [] w W) (h1 : Mod [g] W w1) (_ : True ∨ g = g) : Mod [g] w w1 := Mod.trans (Mod.weak h (by simp)) h1 (by simp)
theorem rsized_sub (bs : List Int) (p : Nat) (limit : Int) (hb : Bytes bs) : Bytes (rsized bs p limit).1 := by
  unfold rsized
  split
  · intro b hb; simp at hb
  · split
    · intro b hb; simp at hb
    · exact fun b h => hb b (List.mem_of_mem_drop (List.mem_of_mem_take h))
set_option maxRecDepth 100000 in
set_option maxHeartbeats 1000000 in
theorem same_any (g : Nat) (A : Option Addr) (c : Nat) (bs : List Int) (p : Nat) (o : EOp) (D : Option Addr) (m cd : Nat) (w : World) (h : Rdr w g A c bs p 0) (hd : ReadsInt w .u8 D m o.data) (hD : ∀ a, D = some a → 0 < m → a.block ≠ g) :
    Calls Try.prog 31 #[.pointer (some ⟨g, 0, none⟩), .agg #[.int .i64 o.kind, .int .i64 o.n, .slice D m cd]] w (SamePost w g A c bs (rsame bs p o)) := by
  obtain ⟨kd, nn, dt⟩ := o
  obtain ⟨R, hR⟩ : ∃ R, rsame bs p ⟨kd, nn, dt⟩ = R := ⟨_, rfl⟩
  rw [hR]
  unfold rsame at hR
  simp only at hR hd ⊢
  have hm0 := (Mod.refl [] w).alloc (Obj.cells #[.int .i64 kd, .int .i64 nn, .slice D m cd] 53)
  have hc := blk_new w (Obj.cells #[.int .i64 kd, .int .i64 nn, .slice D m cd] 53)
  have h1 := h.mod hm0 (by simp) (by simp)
  have hd1 := hm0.reads hd (by simp)
  have hg : g ≠ w.heap.size := by have := blk_lt h.blk; omega
  have d1 : (w.alloc (Obj.cells #[.int .i64 kd, .int .i64 nn, .slice D m cd] 53)).cell? ⟨w.heap.size, 1, none⟩ = some (.int .i64 nn) := by rw [blk_cell hc]; rfl
  have d2 : (w.alloc (Obj.cells #[.int .i64 kd, .int .i64 nn, .slice D m cd] 53)).cell? ⟨w.heap.size, 2, none⟩ = some (.slice D m cd) := by rw [blk_cell hc]; rfl
  by_cases hk0 : kd = 0
  · subst hk0
    rw [if_pos rfl] at hR
    obtain ⟨C, hC⟩ : ∃ C, rcount bs p 9223372036854775807 = C := ⟨_, rfl⟩
    have hcount := fun w' hw' => count_ready g A c bs p 9223372036854775807 w' hw' (by omega) (by omega)
    rw [hC] at hR hcount
    have HR := Lib.hid hR
    clear hR hC
    go_enter Try.func31, Try.ntmps31
    go_wp2_with fail
    generalize w.alloc _ = W0 at *
    generalize w.heap.size = b at *
    by_cases hn : nn < 0
    · have hn' : ¬ 0 < nn := by omega
      have HM := Lib.hid (show max nn 0 = 0 by omega)
      go_region_with (go_at_call 43; refine (hcount _ (h1.mod (S := []) ?_ (by simp) (by simp))).mono ?_; (first | exact (Mod.refl [] W0).drew | exact Mod.refl [] W0 | exact ((Mod.refl [] W0).drew).drew); rintro e w1 ⟨rfl, hm1, hr1⟩; have d1' := Mod.cell (S := [g]) hm1 d1 (by simpa using fun h => hg h.symm))
      all_goals
        go_wp2
        go_ret
        exact ⟨by rw [← HR.out, HM.out]; rfl, (hm0.drew).trans_0 hm1 (.inl trivial), by rw [← HR.out]; exact hr1⟩
    · have hn' : 0 ≤ nn := by omega
      have HM := Lib.hid (show max nn 0 = nn by omega)
      go_region_with (go_at_call 43; refine (hcount _ (h1.mod (S := []) ?_ (by simp) (by simp))).mono ?_; (first | exact (Mod.refl [] W0).drew | exact Mod.refl [] W0 | exact ((Mod.refl [] W0).drew).drew); rintro e w1 ⟨rfl, hm1, hr1⟩; have d1' := Mod.cell (S := [g]) hm1 d1 (by simpa using fun h => hg h.symm))
      all_goals
        go_wp2
        go_ret
        exact ⟨by rw [← HR.out, HM.out]; rfl, (hm0.drew).trans_0 hm1 (.inl trivial), by rw [← HR.out]; exact hr1⟩
  · by_cases hk1 : kd = 1
    · subst hk1
      rw [if_neg (by omega), if_pos rfl] at hR
      obtain ⟨C, hC⟩ : ∃ C, rwhole bs p = C := ⟨_, rfl⟩
      have hwhole := fun w' hw' => whole_ready g A c bs p w' hw'
      rw [hC] at hR hwhole
      have HR := Lib.hid hR
      clear hR hC
      go_enter Try.func31, Try.ntmps31
      go_wp2_with fail
      generalize w.alloc _ = W0 at *
      generalize w.heap.size = b at *
      go_region_with (go_at_call 44; refine (hwhole _ (h1.mod (S := []) ?_ (by simp) (by simp))).mono ?_; (first | exact (Mod.refl [] W0).drew | exact Mod.refl [] W0 | exact ((Mod.refl [] W0).drew).drew); rintro e w1 ⟨rfl, hm1, hr1⟩; have d1' := Mod.cell (S := [g]) hm1 d1 (by simpa using fun h => hg h.symm))
      all_goals
        go_wp2
        go_ret
        exact ⟨by rw [← HR.out]; rfl, (hm0.drew).trans_0 hm1 (.inl trivial), by rw [← HR.out]; exact hr1⟩
    · have t1 : (kd == 0) = false := by simpa using hk0
      have t2 : (kd == 1) = false := by simpa using hk1
      rw [if_neg hk0, if_neg hk1] at hR
      obtain ⟨C, hC⟩ : ∃ C, rsized bs p 300 = C := ⟨_, rfl⟩
      have hsized := fun w' hw' => sized_ready g A c bs p 300 w' hw' (by omega) (by omega)
      rw [hC] at hR hsized
      have HR := Lib.hid hR
      clear hR hC hk0 hk1
      go_enter Try.func31, Try.ntmps31
      go_wp2_with fail
      generalize w.alloc _ = W0 at *
      generalize w.heap.size = b at *
      have k0 := string_of_reads (w := W0.drew) (src := 22) (dst := 9) Try.underlying22 Try.underlying5 Try.underlying9 ((Mod.refl [] W0).drew.reads hd1 (by simp)) (c := cd)
      go_region_with (go_at_call 45; refine (hsized _ (h1.mod (S := []) ?_ (by simp) (by simp))).mono ?_; (first | exact (Mod.refl [] W0).drew | exact Mod.refl [] W0 | exact ((Mod.refl [] W0).drew).drew); rintro e w1 ⟨A2, n2, c2, rfl, hr2, hm1, hr1⟩; have d1' := Mod.cell (S := [g]) hm1 d2 (by simpa using fun h => hg h.symm); have k1 := string_of_reads (w := w1) (src := 22) (dst := 9) Try.underlying22 Try.underlying5 Try.underlying9 hr2 (c := c2); have k2 := string_of_reads (w := w1) (src := 22) (dst := 9) Try.underlying22 Try.underlying5 Try.underlying9 (hm1.reads hd1 (by simpa using hD)) (c := cd))
      all_goals
        go_wp2
        go_ret
        exact ⟨by rw [← HR.out]; rfl, (hm0.drew).trans_0 hm1 (.inl trivial), by rw [← HR.out]; exact hr1⟩
end Go.Proofs.Ytdkmkiiaklkcgaa
