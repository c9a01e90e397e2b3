/- A copy of a table; a nil table; the order of names. -/
import Derived.Test.YtmopnchballegaaSymSame
import Derived.Shelf.SlMaps.Clone
import Derived.WalkLawsBesides
set_option linter.unusedVariables false
set_option linter.unusedSimpArgs false
namespace Go.Proofs.Ytmopnchballegaa
open Go.RowKit Go.WideMaps Go.Proofs.YtmopnchballegaaW.PrintWords Go.Proofs.Ytmopnchballegaa.PSymPlays
theorem number_nil (s : ByteArray) (w : World) : Calls Try.prog 14 #[.pointer none, .string s] w fun e w' => e = .returned (.tuple #[.int .i64 0, .int .i64 1]) ∧ w = w' := by
  go_enter Try.func14, Try.ntmps14
  go_wp2
  go_ret2
  exact ⟨rfl, rfl⟩
theorem fresh_nil (s : ByteArray) (w : World) : Calls Try.prog 17 #[.pointer none, .string s] w fun e w' => e = .returned (.tuple #[.int .i64 0, .int .i64 1]) ∧ w = w' := by
  go_enter Try.func17, Try.ntmps17
  go_wp2
  go_ret2
  exact ⟨rfl, rfl⟩
theorem find_nil (s : ByteArray) (w : World) : Calls Try.prog 15 #[.pointer none, .string s] w fun e w' => e = .returned (.tuple #[.int .i64 0, .bool false]) ∧ w = w' := by
  go_enter Try.func15, Try.ntmps15
  go_wp2
  go_ret2
  exact ⟨rfl, rfl⟩
theorem name_nil (w : World) : Calls Try.prog 16 #[.pointer none, .int .i64 0] w fun e w' => e = .returned (.string ⟨#[]⟩) ∧ w = w' := by
  go_enter Try.func16, Try.ntmps16
  go_wp2_with (go_at_call 19; refine (len_nil w).mono ?_; rintro e w1 ⟨rfl, rfl⟩)
  go_ret
  exact ⟨rfl, rfl⟩
theorem copy_nil (w : World) : Calls Try.prog 20 #[.pointer none] w fun e w' => e = .returned (.pointer none) ∧ w = w' := by
  go_enter Try.func20, Try.ntmps20
  go_wp2
  go_ret
  exact ⟨rfl, rfl⟩
def newIn (w w' : World) : Nat → Prop := fun k => w.heap.size ≤ k ∧ k < w'.heap.size
set_option maxRecDepth 100000 in
set_option maxHeartbeats 1000000 in
theorem clone_any (w : World) (ok : Nat → Prop) (v : Value) (xs : List ByteArray) (hr : Kd.R Kd.string 9 w 0 ok v xs) (hl : xs.length ≤ 100000) :
    Calls Try.prog 24 #[v] w fun e w' => ∃ A n c, e = .returned (.slice A n c) ∧ Mod [] w w' ∧ Kd.R Kd.string 9 w' 0 (newIn w w') (.slice A n c) xs := by
  have kn := fun (w : World) (A : Option Addr) (n c : Nat) => Lib.run_eql_slice_nil (P := Try.prog) w 27 9 A n c 0 0 Try.underlying27
  obtain ⟨A, c, rfl, hc, hC⟩ := Kd.R_reads hr
  cases A with
  | none =>
    have h0 : xs = [] := by
      rcases Nat.eq_zero_or_pos xs.length with h | h
      · exact List.eq_nil_of_length_eq_zero h
      · obtain ⟨a, e, _⟩ := hC.2.2 h; cases e
    subst h0
    go_enter Try.func24, Try.ntmps24
    go_wp2
    go_ret
    exact ⟨none, 0, 0, rfl, Mod.refl _ _, Kd.R_nil _ _ _ _ _⟩
  | some a =>
    have hm0 := (Mod.refl [] w).alloc (.cells #[] 9)
    have HC := Lib.hid (C_mod hC hm0)
    have HO := Lib.hid (show Kd.R Kd.string 9 (w.alloc (.cells #[] 9)) 0 (fun k => w.heap.size ≤ k) (.slice (some ⟨w.heap.size, 0, none⟩) 0 0) [] from
      ⟨fun k hk => by simp [Value.ownBlock] at hk; omega, OwnRow.lit w 0 (inner := []) ⟨rfl, fun j p hj => by simp at hj⟩ (Nat.zero_le _) (by simp)⟩)
    have hl16 : (([] : List ByteArray).length + xs.length) * 16 ≤ 140737488355328 := by simp; omega
    have hsz : (w.alloc (.cells #[] 9)).heap.size = w.heap.size + 1 := World.size_alloc _ _
    have HSZ := Lib.hid hsz
    clear hsz hC
    go_enter Try.func24, Try.ntmps24
    go_wp2_with (at_builtin; refine Kd.R_append_row Value.string (⟨#[]⟩ : ByteArray) (w0 := w.alloc (.cells #[] 9)) 0 rfl (.tmp 5) (.tmp 6) 27 9 (.string (⟨#[]⟩ : ByteArray)) 16 rfl Try.underlying27 info9 rfl (by decide) (.slice (some ⟨w.heap.size, 0, none⟩) 0 0) [] xs (some a) xs.length c (fun k => w.heap.size ≤ k) rfl rfl (fun k hk => by have := HSZ.out; omega) HO.out HC.out (Below.refl 0 _) (Nat.zero_le _) hl16 ?_; intro v1 w1 hr1 _ hg _; obtain ⟨A1, k1, rfl⟩ : ∃ A1 k1, v1 = .slice A1 xs.length k1 := (by obtain ⟨A1, k1, e1, _⟩ := Kd.R_reads hr1; exact ⟨A1, k1, by rw [e1]; simp⟩); have HR1 := Lib.hid hr1; have HG := Lib.hid hg; clear hr1 hg)
    go_ret
    refine ⟨A1, xs.length, k1, rfl, ?_, ?_⟩
    · exact ((Fr.of_mod0 (F := nobody) hm0).trans (Fr.of_grown HG.out) (fun t ht => .inr (by simp [Value.ownBlock] at ht; omega))).mod (fun _ h => h.elim)
    · have := row_lt HR1.out
      exact Kd.R_mono this (fun k hk => ⟨hk.1, hk.2⟩)
theorem mapClone_any (w : World) (r n : Nat) (D : DataW Unit) (h : w.ownsMap Try.prog 9 (plainElem (H := Unit) Try.prog 3) r n D) :
    Calls Try.prog 25 #[.map (some r)] w fun e w' => e = .returned (.map (some w.heap.size)) ∧ Mod [] w w' ∧ w'.heap.size = w.heap.size + 1 ∧ w'.ownsMap Try.prog 9 (plainElem (H := Unit) Try.prog 3) w.heap.size n D := by
  obtain ⟨es, clock, hb, F, hs, hD⟩ := h
  have hq := fun w => run_eql_map_nil (P := Try.prog) w 47 _ _ (some r) Try.underlying47
  go_enter Try.func25, Try.ntmps25
  go_wp2
  rw [run_callFunc_extern Try.func27 (by kernel_rfl) (by kernel_rfl) (by kernel_rfl) (e := Extern.MapsClone.clone) (by kernel_rfl), run_maps_clone_sl w 47 hb]
  simp only [Result.andThen]
  rw [Oper.upon_value]
  go_wp2
  rw [run_typeAssert_map_sl _ 47 20 _ _ _ Try.underlying47]
  simp only [Result.andThen]
  rw [Oper.upon_value]
  go_wp2
  go_ret
  exact ⟨rfl, (Mod.refl [] w).alloc _, World.size_alloc _ _, es, clock, (MapKept.heap_alloc w _).1, F, hs, hD⟩
set_option maxRecDepth 100000 in
set_option maxHeartbeats 1000000 in
theorem copy_any (w : World) (fp : Nat → Prop) (g : Nat) (xs : List ByteArray) (h : Tab w fp g xs) (hl : xs.length ≤ 100000) :
    Calls Try.prog 20 #[.pointer (some ⟨g, 0, none⟩)] w fun e w' => ∃ g2, e = .returned (.pointer (some ⟨g2, 0, none⟩)) ∧ Mod [] w w' ∧ Tab w' (newIn w w') g2 xs := by
  obtain ⟨r, v, D, h1, h2, h3, h4, h5, h6, h7, h8⟩ := h
  have c0 := (blk_cell h1 0).trans rfl
  have c1 := (blk_cell h1 1).trans rfl
  obtain ⟨A, c, rfl, hc, hC⟩ := Kd.R_reads h2
  have H2 := Lib.hid h2
  have H3 := Lib.hid h3
  have L0 : ∀ w', Mod [] w w' → w'.cell? ⟨g, 0, none⟩ = some (.slice A xs.length c) := fun w' h => h.cell c0 (by simp)
  have L1 : ∀ w', Mod [] w w' → w'.cell? ⟨g, 1, none⟩ = some (.map (some r)) := fun w' h => h.cell c1 (by simp)
  clear h1 h2 h3 hC
  go_enter Try.func20, Try.ntmps20
  go_wp2_with fail
  go_region_held3 (fun w' => Mod [] w w') (first | exact (Mod.refl [] w).drew | exact Mod.refl [] w | exact Mod.trans0 (by assumption) (by assumption) | exact (by assumption) | exact Mod.alloc (by assumption) _)
    (first
      | (go_at_call 24; refine (clone_any _ _ _ xs (row_mod H2.out (by assumption)) hl).mono ?_; rintro e w1 ⟨A1, n1, c1, rfl, hm1, hr1⟩; have HR1 := Lib.hid hr1; clear hr1)
      | (go_at_call 25; refine (mapClone_any _ r xs.length D (map_keep H3.out ?_)).mono ?_; exact (Mod.block (S := []) (by assumption) r H3.out.lt (by simp)); rintro e w2 ⟨rfl, hm2, hz2, ho2⟩; have HO2 := Lib.hid ho2; clear ho2))
  have hz1 := hm1.size
  have hzz : w.drew.heap.size = w.heap.size := rfl
  have HM := Lib.hid (show Mod [] w (w2.alloc (Obj.cells #[Value.slice A1 n1 c1, Value.map (some w1.heap.size)] 49)) from by assumption)
  have HN := Lib.hid (blk_new w2 (Obj.cells #[Value.slice A1 n1 c1, Value.map (some w1.heap.size)] 49))
  have HZ2 := Lib.hid hz2
  clear hz2
  go_wp2
  go_ret
  have hb := HN.out
  rw [HZ2.out] at hb
  have hzf : (w2.alloc (Obj.cells #[Value.slice A1 n1 c1, Value.map (some w1.heap.size)] 49)).heap.size = w1.heap.size + 2 := by rw [World.size_alloc, HZ2.out]
  refine ⟨w1.heap.size + 1, rfl, HM.out, w1.heap.size, .slice A1 n1 c1, D, hb, ?_, HO2.out.alloc _, h4, by omega, ⟨by omega, by omega⟩, ⟨by omega, by omega⟩, fun k hk => hk.2⟩
  refine Kd.R_mono (row_mod HR1.out (hm2.alloc _)) (fun k hk => ⟨⟨by have := hk.1; omega, by have := hk.2; omega⟩, by have := hk.2; omega, by have := hk.2; omega⟩)
theorem less_lt (a b : ByteArray) (w : World) (h : a.size < b.size) : Calls Try.prog 21 #[.string a, .string b] w fun e w' => e = .returned (.bool true) ∧ w = w' := by
  have t1 : decide (a.size < b.size) = true := by simpa using h
  clear h
  go_enter Try.func21, Try.ntmps21
  go_wp2
  go_ret
  exact ⟨rfl, rfl⟩
theorem less_gt (a b : ByteArray) (w : World) (h : b.size < a.size) : Calls Try.prog 21 #[.string a, .string b] w fun e w' => e = .returned (.bool false) ∧ w = w' := by
  have t1 : decide (a.size < b.size) = false := by simp; omega
  have t2 : ((a.size : Int) == (b.size : Int)) = false := by simp; omega
  have t3 : (a.size == b.size) = false := by simp; omega
  clear h
  go_enter Try.func21, Try.ntmps21
  go_wp2
  go_ret
  exact ⟨rfl, rfl⟩
theorem less_eq (a b : ByteArray) (w : World) (h : a.size = b.size) : Calls Try.prog 21 #[.string a, .string b] w fun e w' => e = .returned (.bool (Op.bytesLess a.toList b.toList)) ∧ w = w' := by
  have t1 : decide (a.size < b.size) = false := by simp; omega
  have t2 : ((a.size : Int) == (b.size : Int)) = true := by simp; omega
  have t3 : (a.size == b.size) = true := by simp; omega
  have H := Lib.hid h
  clear h
  go_enter Try.func21, Try.ntmps21
  go_wp2
  go_ret
  exact ⟨rfl, rfl⟩
end Go.Proofs.Ytmopnchballegaa
