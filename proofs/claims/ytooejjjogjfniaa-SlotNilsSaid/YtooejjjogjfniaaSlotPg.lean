/- A page of slots in memory; what its functions tell. -/
import Derived.Test.YtooejjjogjfniaaSlotMath
import Derived.Test.YtooejjjogjfniaaOwn
import Derived.StillTailTactics
import Derived.LoopTactic
import Derived.Deep.LoopGhost
import Derived.Deep.DeepMust
import Derived.WalkSpells
import Derived.Deep.RegionHeld3
import Derived.BigQuiet
import Derived.Deep.QuietTactic
set_option linter.unusedVariables false
set_option linter.unusedSimpArgs false
namespace Go.Proofs.Ytooejjjogjfniaa
open Go.RowKit Go.Proofs.YtooejjjogjfniaaW.PrintWords Go.Proofs.Ytooejjjogjfniaa.PSlotRoom Go.Proofs.YtooejjjogjfniaaW.PrintLast
theorem C_mod {α : Type} {d : Kd α} {w w' : World} {A : Option Addr} {n : Nat} {xs : List α} (h : d.C w A n xs) (hm : Mod [] w w') : d.C w' A n xs := Kd.C_below h hm.below0
theorem R_C {α : Type} {d : Kd α} {e : Nat} {w : World} {base : Nat} {ok : Nat → Prop} {A : Option Addr} {n c : Nat} {xs : List α} (h : d.R e w base ok (.slice A n c) xs) : d.C w A n xs := by
  obtain ⟨A', c', e1, _, hr⟩ := Kd.R_reads h
  injection e1 with e2 e3 e4
  rw [e2, e3]
  exact hr
/-- A page at block g: its slots l; its blocks are fp's. -/
def Pg (w : World) (fp : Nat → Prop) (g : Nat) (l : List S42) : Prop :=
  ∃ v, w.heap[g]? = some (.cells #[v] 55 (0, 0)) ∧ Kd.R k60 60 w 0 (fun k => fp k ∧ k ≠ g) v (l.map c60) ∧ fp g ∧ ∀ k, fp k → k < w.heap.size
theorem Pg.lt {w : World} {fp : Nat → Prop} {g : Nat} {l : List S42} (h : Pg w fp g l) : ∀ k, fp k → k < w.heap.size := by obtain ⟨v, _, _, _, h4⟩ := h; exact h4
theorem Pg.fr {F : Nat → Prop} {w w' : World} {fp : Nat → Prop} {g : Nat} {l : List S42} (h : Pg w fp g l) (hf : Fr F w w') (hF : ∀ k, fp k → ¬ F k) : Pg w' fp g l := by
  obtain ⟨v, h1, h2, h3, h4⟩ := h
  exact ⟨v, hf.blk h1 (hF g h3), row_keep h2 hf (fun k hk => hF k hk.1), h3, fun k hk => Nat.lt_of_lt_of_le (h4 k hk) hf.size⟩
theorem Pg.mod {w w' : World} {fp : Nat → Prop} {g : Nat} {l : List S42} (h : Pg w fp g l) (hm : Mod [] w w') : Pg w' fp g l := h.fr (Fr.of_mod0 (F := nobody) hm) (fun _ _ h => h)
theorem Pg.grow {w w' : World} {fp : Nat → Prop} {g : Nat} {l : List S42} (h : Pg w fp g l) (hm : Mod [] w w') : Pg w' (grow fp w w') g l := by
  obtain ⟨v, h1, h2, h3, h4⟩ := h.mod hm
  exact ⟨v, h1, Kd.R_mono h2 (fun k hk => ⟨grow_old hk.1 (h4 k hk.1), hk.2⟩), grow_old h3 (h4 g h3), fun k hk => hk.2⟩
/-- What is read of a page: its row, and its cell. -/
theorem Pg.open {w : World} {fp : Nat → Prop} {g : Nat} {l : List S42} (h : Pg w fp g l) : ∃ A c, w.heap[g]? = some (.cells #[.slice A l.length c] 55 (0, 0)) ∧ l.length ≤ c ∧ Kd.R k60 60 w 0 (fun k => fp k ∧ k ≠ g) (.slice A l.length c) (l.map c60) ∧ Kd.C k60 w A l.length (l.map c60) := by
  obtain ⟨v, h1, h2, h3, h4⟩ := h
  obtain ⟨A, c, rfl, hc, hr⟩ := Kd.R_reads h2
  rw [List.length_map] at h1 h2 hc hr
  exact ⟨A, c, h1, hc, h2, hr⟩
theorem sl_at {w : World} {A : Option Addr} {l : List S42} (hr : Kd.C k60 w A l.length (l.map c60)) (i : Nat) (h : i < l.length) :
    ∃ ad : Addr, A = some ad ∧ w.cell? (ad.add (i * 2)) = some (.bool l[i].f0) ∧ w.cell? ⟨(ad.add (i * 2)).block, (ad.add (i * 2)).off + 1, none⟩ = some (.string l[i].f1) := by
  have := at_T60 hr (i : Int) (by omega) (by omega)
  rwa [rd60 l i h, Int.toNat_natCast] at this
theorem new_any (w : World) : Calls Try.prog 19 #[] w fun e w' => e = .returned (.pointer (some ⟨w.heap.size, 0, none⟩)) ∧ Mod [] w w' ∧ Pg w' (fun k => k = w.heap.size) w.heap.size [] := by
  go_enter Try.func19, Try.ntmps19
  go_wp2
  go_ret
  exact ⟨rfl, (Mod.refl [] w).alloc _, .slice none 0 0, blk_new w _, Kd.R_nil _ _ _ _ _, rfl, fun k hk => by simp; omega⟩
theorem len_nil (w : World) : Calls Try.prog 18 #[.pointer none] w fun e w' => e = .returned (.int .i64 0) ∧ w = w' := by
  go_enter Try.func18, Try.ntmps18
  go_wp2
  go_ret
  exact ⟨rfl, rfl⟩
theorem len_any (w : World) (fp : Nat → Prop) (g : Nat) (l : List S42) (h : Pg w fp g l) :
    Calls Try.prog 18 #[.pointer (some ⟨g, 0, none⟩)] w fun e w' => e = .returned (.int .i64 (l.length : Int)) ∧ w = w' := by
  obtain ⟨A, c, h1, _, _, _⟩ := h.open
  have c0 := (blk_cell h1 0).trans rfl
  clear h1
  go_enter Try.func18, Try.ntmps18
  go_wp2
  go_ret
  exact ⟨rfl, rfl⟩
theorem size_any (A : Option Addr) (c : Nat) (l : List S42) (w : World) (hr : Kd.C k60 w A l.length (l.map c60)) (hc : l.length ≤ c) (hl : l.length ≤ 1000) (hz : szs l ≤ 1000000) :
    Calls Try.prog 22 #[.slice A l.length c] w fun e w' => e = .returned (.int .i64 (need l : Int)) ∧ Mod [] w w' := by
  have := slot_size.calls (l.length + 1) A c (l.map c60) (need l : Int) w (by rw [List.length_map]; exact hr) (by rw [List.length_map]; exact hc) (size_some l hl hz)
  rw [List.length_map] at this
  exact this.mono fun e w' h => ⟨h.1, Mod.of_below h.2⟩
set_option maxRecDepth 100000 in
set_option maxHeartbeats 1000000 in
theorem bare_any (w : World) (fp : Nat → Prop) (g : Nat) (l : List S42) (h : Pg w fp g l) (hl : l.length ≤ 1000000) :
    Calls Try.prog 21 #[.pointer (some ⟨g, 0, none⟩)] w fun e w' => e = .returned (.int .i64 (bare l : Int)) ∧ Mod [] w w' := by
  obtain ⟨A, c, h1, hc, _, hr⟩ := h.open
  have c0 := (blk_cell h1 0).trans rfl
  have HR := Lib.hid hr
  have C0 := Lib.hid c0
  clear h1 hr
  have hbl := bare_le l
  go_enter Try.func21, Try.ntmps21
  go_wp2_with fail
  clear c0
  go_loopw [10, 3, 4] (fun i _ _ wr => ∃ k : Nat, i = .int .i64 (k : Int) ∧ k ≤ bare l ∧ Mod [] w wr) (fun i _ _ _ => l.length - (intOf i).toNat)
  case atStart => exact ⟨0, rfl, Nat.zero_le _, Mod.refl [] w⟩
  case round =>
    obtain ⟨k, rfl, hk, hm⟩ := hrel
    by_cases hlt : k < l.length
    · obtain ⟨ad, rfl, p0, p1⟩ := sl_at (C_mod HR.out hm) k hlt
      have hki : (0 : Int) ≤ (k : Int) := by omega
      have hki2 : (k : Int) < (l.length : Int) := by omega
      by_cases e : k = bare l
      · have hf : l[k].f0 = false := by subst e; exact bare_at hlt
        rw [hf] at p0
        have E := Lib.hid e
        generalize l[k].f1 = s at *
        clear e hf
        have hmm := hm.alloc (.cells #[.bool false, .string s] 60)
        go_wp2
        go_ret
        exact ⟨by rw [← E.out]; rfl, hmm⟩
      · have hf : l[k].f0 = true := bare_before (by omega)
        rw [hf] at p0
        generalize l[k].f1 = s at *
        clear hf
        have hmm := hm.alloc (.cells #[.bool true, .string s] 60)
        go_wp2
        go_roundw
        case rel => exact ⟨k + 1, by go_num, by omega, hmm⟩
        case measure => simp [intOf]; omega
    · have E := Lib.hid (show bare l = l.length by omega)
      have c0 := hm.cell C0.out (by simp)
      go_wp2
      go_ret
      exact ⟨by rw [E.out]; rfl, hm⟩
end Go.Proofs.Ytooejjjogjfniaa
