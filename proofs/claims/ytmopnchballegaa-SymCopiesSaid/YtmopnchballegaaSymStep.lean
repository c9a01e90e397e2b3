/- One step on both: the program's table, and the document's row of names. -/
import Derived.Test.YtmopnchballegaaSymRef
set_option linter.unusedVariables false
set_option linter.unusedSimpArgs false
namespace Go.Proofs.Ytmopnchballegaa
open Go.RowKit Go.WideMaps Go.Proofs.YtmopnchballegaaW.PrintWords Go.Proofs.Ytmopnchballegaa.PSymPlays
noncomputable def numL (xs : List ByteArray) (s : ByteArray) : List ByteArray := if mayB s then (match idx xs s with | some _ => xs | none => xs ++ [s]) else xs
noncomputable def freL (xs : List ByteArray) (s : ByteArray) : List ByteArray := if mayB s then xs ++ [freshS xs s] else xs
noncomputable def stepS (xs : List ByteArray) (k : Int) (s : ByteArray) : List ByteArray := if k = 0 then numL xs s else if k = 1 then freL xs s else xs
theorem numL_bad {xs : List ByteArray} {s : ByteArray} (h : mayB s = false) : numL xs s = xs := by simp [numL, h]
theorem numL_old {xs : List ByteArray} {s : ByteArray} {i : Nat} (h : idx xs s = some i) : numL xs s = xs := by simp [numL, h]
theorem numL_new {xs : List ByteArray} {s : ByteArray} (hm : mayB s = true) (h : idx xs s = none) : numL xs s = xs ++ [s] := by simp [numL, hm, h]
theorem freL_bad {xs : List ByteArray} {s : ByteArray} (h : mayB s = false) : freL xs s = xs := by simp [freL, h]
theorem freL_new {xs : List ByteArray} {s : ByteArray} (h : mayB s = true) : freL xs s = xs ++ [freshS xs s] := by simp [freL, h]
theorem nodup_snoc {xs : List ByteArray} {s : ByteArray} (h : xs.Nodup) (hs : s ∉ xs) : (xs ++ [s]).Nodup := by
  rw [List.nodup_append]
  exact ⟨h, by simp, fun a ha b hb e => by simp at hb; subst hb; subst e; exact hs ha⟩
theorem freshS_free (xs : List ByteArray) (s : ByteArray) : freshS xs s ∉ xs := (freeN_is xs s).2.2.1
theorem numL_nodup {xs : List ByteArray} {s : ByteArray} (h : xs.Nodup) : (numL xs s).Nodup := by
  by_cases hm : mayB s = true
  · cases e : idx xs s with
    | some i => rw [numL_old e]; exact h
    | none => rw [numL_new hm e]; exact nodup_snoc h (idx_none.1 e)
  · rw [numL_bad (by simpa using hm)]; exact h
theorem freL_nodup {xs : List ByteArray} {s : ByteArray} (h : xs.Nodup) : (freL xs s).Nodup := by
  by_cases hm : mayB s = true
  · rw [freL_new hm]; exact nodup_snoc h (freshS_free xs s)
  · rw [freL_bad (by simpa using hm)]; exact h
theorem stepS_nodup {xs : List ByteArray} {k : Int} {s : ByteArray} (h : xs.Nodup) : (stepS xs k s).Nodup := by
  unfold stepS
  split
  · exact numL_nodup h
  · split
    · exact freL_nodup h
    · exact h
theorem numL_len (xs : List ByteArray) (s : ByteArray) : (numL xs s).length ≤ xs.length + 1 := by
  unfold numL
  split
  · split <;> simp
  · omega
theorem stepS_len (xs : List ByteArray) (k : Int) (s : ByteArray) : (stepS xs k s).length ≤ xs.length + 1 := by
  unfold stepS
  split
  · exact numL_len xs s
  · split
    · unfold freL; split <;> simp
    · omega
/-- The table at block g and the row v have the same names, in blocks of their own from B on. -/
structure St (w : World) (B : Nat) (fp ok : Nat → Prop) (g : Nat) (v : Value) (xs : List ByteArray) : Prop where
  tab : Tab w fp g xs
  row : Kd.R Kd.string 9 w 0 ok v xs
  apart : ∀ k, fp k → ¬ ok k
  okl : ∀ k, ok k → k < w.heap.size
  fpB : ∀ k, fp k → B ≤ k
  okB : ∀ k, ok k → B ≤ k
  nd : xs.Nodup
  bw : B ≤ w.heap.size
theorem St.fr {F : Nat → Prop} {w w' : World} {B : Nat} {fp ok : Nat → Prop} {g : Nat} {v : Value} {xs : List ByteArray} (h : St w B fp ok g v xs) (hf : Fr F w w') (h1 : ∀ k, fp k → ¬ F k) (h2 : ∀ k, ok k → ¬ F k) : St w' B fp ok g v xs :=
  ⟨h.tab.fr hf h1, row_keep h.row hf h2, h.apart, fun k hk => Nat.lt_of_lt_of_le (h.okl k hk) hf.size, h.fpB, h.okB, h.nd, Nat.le_trans h.bw hf.size⟩
theorem St.mod {w w' : World} {B : Nat} {fp ok : Nat → Prop} {g : Nat} {v : Value} {xs : List ByteArray} (h : St w B fp ok g v xs) (hm : Mod [] w w') : St w' B fp ok g v xs := h.fr (Fr.of_mod0 (F := nobody) hm) (fun _ _ h => h) (fun _ _ h => h)
/-- Behind a step. -/
def Stepped (w : World) (B : Nat) (fp ok : Nat → Prop) (g : Nat) (ys : List ByteArray) (e : Ending) (w' : World) : Prop :=
  ∃ v' fp' ok', e = .returned (.tuple #[v', .bool true]) ∧ Fr (fun k => fp k ∨ ok k) w w' ∧ St w' B fp' ok' g v' ys ∧ (∀ k, fp' k → fp k ∨ ok k ∨ w.heap.size ≤ k) ∧ (∀ k, ok' k → fp k ∨ ok k ∨ w.heap.size ≤ k)
theorem St.grown {w w1 : World} {B : Nat} {fp ok : Nat → Prop} {g : Nat} {v : Value} {xs ys : List ByteArray} (h : St w B fp ok g v xs) (hf : Fr fp w w1) (ht : Tab w1 (grow fp w w1) g ys) :
    Kd.R Kd.string 9 w1 0 ok v xs ∧ (∀ k, grow fp w w1 k → ¬ ok k) ∧ (∀ k, grow fp w w1 k → B ≤ k) :=
  ⟨row_keep h.row hf (fun k hk hf => h.apart k hf hk), grow_apart h.apart h.okl, fun k hk => grow_ge h.fpB h.bw hk⟩
/-- The table has turned, the row has not. -/
theorem stepped_same {w w0 w1 w2 : World} {B : Nat} {fp ok : Nat → Prop} {g : Nat} {v : Value} {xs : List ByteArray} (h : St w0 B fp ok g v xs) (h0 : Mod [] w w0) (hf : Fr fp w0 w1) (ht : Tab w1 (grow fp w0 w1) g xs) (h2 : Mod [] w1 w2) :
    Stepped w B fp ok g xs (.returned (.tuple #[v, .bool true])) w2 := by
  obtain ⟨k1, k2, k3⟩ := h.grown hf ht
  have hsz := h0.size
  have h1 := hf.size
  have st1 : St w1 B (grow fp w0 w1) ok g v xs := ⟨ht, k1, k2, fun k hk => Nat.lt_of_lt_of_le (h.okl k hk) h1, k3, h.okB, h.nd, Nat.le_trans h.bw h1⟩
  exact ⟨v, grow fp w0 w1, ok, rfl, ((Fr.of_mod0 h0).trans_ (hf.weak (fun k hk => .inl (.inl hk)))).then0 h2, st1.mod h2, fun k hk => hk.1.elim .inl (fun hs => .inr (.inr (by omega))), fun k hk => .inr (.inl hk)⟩
/-- The row has grown as the table has. -/
theorem stepped_more {w w0 w1 w2 w3 : World} {B : Nat} {fp ok : Nat → Prop} {g : Nat} {v v' : Value} {xs ys : List ByteArray} (h : St w0 B fp ok g v xs) (h0 : Mod [] w w0) (hf : Fr fp w0 w1) (ht : Tab w1 (grow fp w0 w1) g ys) (h2 : Mod [] w1 w2) (hn : ys.Nodup)
    (hr : Kd.R Kd.string 9 w3 0 (grow ok w2 w3) v' ys) (h3 : Fr ok w2 w3) : Stepped w B fp ok g ys (.returned (.tuple #[v', .bool true])) w3 := by
  obtain ⟨k1, k2, k3⟩ := h.grown hf ht
  have hsz := h0.size
  have h1 := hf.size
  have hz2 := h2.size
  have hz3 := h3.size
  have ht2 := ht.mod h2
  have ht3 := ht2.fr h3 k2
  have hlt := ht2.lt
  refine ⟨v', grow fp w0 w1, grow ok w2 w3, rfl, (((Fr.of_mod0 h0).trans_ (hf.weak (fun k hk => .inl (.inl hk)))).then0 h2).trans_ (h3.weak (fun k hk => .inl (.inr hk))), ⟨ht3, hr, fun k hk hk' => ?_, fun k hk => hk.2, k3, fun k hk => grow_ge h.okB (by have := h.bw; omega) hk, hn, by have := h.bw; omega⟩, fun k hk => hk.1.elim .inl (fun hs => .inr (.inr (by omega))), fun k hk => hk.1.elim (fun h => .inr (.inl h)) (fun hs => .inr (.inr (by omega)))⟩
  rcases hk'.1 with h' | h'
  · exact k2 k hk h'
  · have := hlt k hk; omega
theorem R_C {α : Type} {d : Kd α} {e : Nat} {w : World} {base : Nat} {ok : Nat → Prop} {A : Option Addr} {n c : Nat} {xs : List α} (h : d.R e w base ok (.slice A n c) xs) : d.C w A n xs := by
  obtain ⟨A', c', e1, _, hr⟩ := Kd.R_reads h
  injection e1 with e2 e3 e4
  rw [e2, e3]
  exact hr
theorem box_at (w : World) (x y : Value) : (w.alloc (.cells #[x, y] 31)).cell? ⟨w.heap.size, 0, none⟩ = some x ∧ (w.alloc (.cells #[x, y] 31)).cell? ⟨w.heap.size, 1, none⟩ = some y :=
  ⟨(blk_cell (blk_new w (.cells #[x, y] 31)) 0).trans rfl, (blk_cell (blk_new w (.cells #[x, y] 31)) 1).trans rfl⟩
theorem box_mod (w : World) (x y : Value) : Mod [] w (w.alloc (.cells #[x, y] 31)) := (Mod.refl [] w).alloc _
set_option maxRecDepth 100000 in
set_option maxHeartbeats 1000000 in
theorem step_other (w : World) (B : Nat) (fp ok : Nat → Prop) (g : Nat) (v : Value) (xs : List ByteArray) (k : Int) (s : ByteArray) (h : St w B fp ok g v xs) (hl : xs.length ≤ 1000) (hs : s.size ≤ 200) (h0 : k ≠ 0) (h1 : k ≠ 1) :
    Calls Try.prog 10 #[.pointer (some ⟨g, 0, none⟩), v, .agg #[.int .i64 k, .string s]] w (Stepped w B fp ok g xs) := by
  have t0 : (k != 0) = true := by simpa using h0
  have t1 : (k != 1) = true := by simpa using h1
  have hm0 := box_mod w (.int .i64 k) (.string s)
  have h9 := h.mod hm0
  obtain ⟨A, c, rfl, hc, hr⟩ := Kd.R_reads h9.row
  have HF := find_any _ fp g xs s h9.tab (by unfold maxLen; omega)
  have HA := fun w' hw' => refAt_any A c xs s w' hw' hc (by omega)
  clear h0 h1
  obtain ⟨b0, b1⟩ := box_at w (.int .i64 k) (.string s)
  go_enter Try.func10, Try.ntmps10
  go_wp2_with fail
  generalize w.alloc _ = w0 at *
  generalize w.heap.size = b at *
  refine HF.mono ?_
  rintro e w1 ⟨rfl, rfl⟩
  cases e : idx xs s with
  | none =>
    have hx : atZ xs s = -1 := by simp [atZ, e]
    rw [hx] at HA
    simp only [Option.getD_none, Option.isSome_none]
    clear hx e
    go_wp2_with fail
    refine (HA _ hr).mono ?_
    rintro e w2 ⟨rfl, hm2⟩
    go_wp2
    go_ret2
    exact stepped_same h9 hm0 (Fr.refl fp w0) (h9.tab.grow (Mod.refl [] w0)) hm2
  | some i =>
    have hx : atZ xs s = (i : Int) := by simp [atZ, e]
    rw [hx] at HA
    simp only [Option.getD_some, Option.isSome_some]
    clear hx e
    go_wp2_with fail
    refine (HA _ hr).mono ?_
    rintro e w2 ⟨rfl, hm2⟩
    go_wp2
    go_ret2
    exact stepped_same h9 hm0 (Fr.refl fp w0) (h9.tab.grow (Mod.refl [] w0)) hm2
set_option maxRecDepth 100000 in
set_option maxHeartbeats 1000000 in
theorem step_fresh (w : World) (B : Nat) (fp ok : Nat → Prop) (g : Nat) (v : Value) (xs : List ByteArray) (s : ByteArray) (h : St w B fp ok g v xs) (hl : xs.length ≤ 1000) (hs : s.size ≤ 200) :
    Calls Try.prog 10 #[.pointer (some ⟨g, 0, none⟩), v, .agg #[.int .i64 1, .string s]] w (Stepped w B fp ok g (freL xs s)) := by
  have hm0 := box_mod w (.int .i64 1) (.string s)
  have h9 := h.mod hm0
  obtain ⟨A, c, rfl, hc, hr⟩ := Kd.R_reads h9.row
  obtain ⟨b0, b1⟩ := box_at w (.int .i64 1) (.string s)
  have HM := refMay_any s
  by_cases hm : mayB s = true
  · have HF := fresh_any _ fp g xs s h9.tab hm (by omega)
    have hs32 := (mayB_true.1 hm).2.1
    rw [hm] at HM
    rw [freL_new hm]
    have hn := nodup_snoc h.nd (freshS_free xs s)
    have HREF := fun w' hw' => refFresh_any A c xs s w' hw' hc (by omega) hs32
    generalize freshS xs s = fs at *
    clear hm
    go_enter Try.func10, Try.ntmps10
    go_wp2_with fail
    generalize w.alloc _ = w0 at *
    generalize w.heap.size = b at *
    refine HF.mono ?_
    rintro e w1 ⟨rfl, hf1, ht1⟩
    go_wp2_with fail
    refine (HM w1).mono ?_
    rintro e w2 ⟨rfl, hm2⟩
    have k1 := Lib.hid (h9.grown hf1 ht1).1
    have k2 := Lib.hid (row_mod k1.out hm2)
    have HT1 := Lib.hid ht1
    go_wp2_with fail
    refine (HREF w2 (R_C k2.out)).mono ?_
    rintro e w3 ⟨rfl, hm3⟩
    have k3 := Lib.hid (row_mod k2.out hm3)
    have hl16 : (xs.length + 1) * 16 ≤ 140737488355328 := by omega
    have HM23 := Lib.hid (hm2.trans0 hm3)
    clear hr ht1 hm2 hm3
    go_wp2_with (at_builtin; refine push_one Kd.string rfl (.tmp 68) (.tmp 72) 27 9 (.string (⟨#[]⟩ : ByteArray)) 16 rfl Try.underlying27 info9 rfl (by decide) (by decide) (.slice A xs.length c) xs fs [.string fs] ok rfl rfl rfl k3.out hl16 ?_; intro A4 c4 w4 hr4 hf4; have HR4 := Lib.hid hr4; clear hr4)
    go_ret2
    exact stepped_more h9 hm0 hf1 HT1.out HM23.out hn HR4.out hf4
  · have hm' : mayB s = false := by simpa using hm
    have HF := fresh_bad _ fp g xs s h9.tab hm'
    rw [hm'] at HM
    rw [freL_bad hm']
    clear hm hm'
    go_enter Try.func10, Try.ntmps10
    go_wp2_with fail
    generalize w.alloc _ = w0 at *
    generalize w.heap.size = b at *
    refine HF.mono ?_
    rintro e w1 ⟨rfl, hf1, ht1⟩
    go_wp2_with fail
    refine (HM w1).mono ?_
    rintro e w2 ⟨rfl, hm2⟩
    go_wp2
    go_ret2
    exact stepped_same h9 hm0 hf1 ht1 hm2
set_option maxRecDepth 100000 in
set_option maxHeartbeats 1000000 in
theorem step_number (w : World) (B : Nat) (fp ok : Nat → Prop) (g : Nat) (v : Value) (xs : List ByteArray) (s : ByteArray) (h : St w B fp ok g v xs) (hl : xs.length ≤ 1000) (hs : s.size ≤ 200) :
    Calls Try.prog 10 #[.pointer (some ⟨g, 0, none⟩), v, .agg #[.int .i64 0, .string s]] w (Stepped w B fp ok g (numL xs s)) := by
  have hm0 := box_mod w (.int .i64 0) (.string s)
  have h9 := h.mod hm0
  obtain ⟨A, c, rfl, hc, hr⟩ := Kd.R_reads h9.row
  obtain ⟨b0, b1⟩ := box_at w (.int .i64 0) (.string s)
  have HM := refMay_any s
  have HA := fun w' hw' => refAt_any A c xs s w' hw' hc (by omega)
  have hsm : s.size ≤ maxLen := by unfold maxLen; omega
  by_cases hm : mayB s = true
  · rw [hm] at HM
    cases e : idx xs s with
    | none =>
      have HF := number_new _ fp g xs s h9.tab hsm hm e (by omega)
      have hx : atZ xs s = -1 := by simp [atZ, e]
      rw [hx] at HA
      rw [numL_new hm e]
      have hn := nodup_snoc h.nd (idx_none.1 e)
      clear hm e hx
      go_enter Try.func10, Try.ntmps10
      go_wp2_with fail
      generalize w.alloc _ = w0 at *
      generalize w.heap.size = b at *
      refine HF.mono ?_
      rintro e w1 ⟨rfl, hf1, ht1⟩
      go_wp2_with fail
      refine (HM w1).mono ?_
      rintro e w2 ⟨rfl, hm2⟩
      have k1 := Lib.hid (h9.grown hf1 ht1).1
      have k2 := Lib.hid (row_mod k1.out hm2)
      have HT1 := Lib.hid ht1
      go_wp2_with fail
      refine (HA w2 (R_C k2.out)).mono ?_
      rintro e w3 ⟨rfl, hm3⟩
      have k3 := Lib.hid (row_mod k2.out hm3)
      have hl16 : (xs.length + 1) * 16 ≤ 140737488355328 := by omega
      have HM23 := Lib.hid (hm2.trans0 hm3)
      clear hr ht1 hm2 hm3
      go_wp2_with (at_builtin; refine push_one Kd.string rfl (.tmp 103) (.tmp 105) 27 9 (.string (⟨#[]⟩ : ByteArray)) 16 rfl Try.underlying27 info9 rfl (by decide) (by decide) (.slice A xs.length c) xs s [.string s] ok rfl rfl rfl k3.out hl16 ?_; intro A4 c4 w4 hr4 hf4; have HR4 := Lib.hid hr4; clear hr4)
      go_ret2
      exact stepped_more h9 hm0 hf1 HT1.out HM23.out hn HR4.out hf4
    | some i =>
      have HF := number_old _ fp g xs s h9.tab hsm hm i e
      have hx : atZ xs s = (i : Int) := by simp [atZ, e]
      rw [hx] at HA
      rw [numL_old e]
      clear hm e hx
      go_enter Try.func10, Try.ntmps10
      go_wp2_with fail
      generalize w.alloc _ = w0 at *
      generalize w.heap.size = b at *
      refine HF.mono ?_
      rintro e w1 ⟨rfl, hf1, ht1⟩
      go_wp2_with fail
      refine (HM w1).mono ?_
      rintro e w2 ⟨rfl, hm2⟩
      have k1 := Lib.hid (h9.grown hf1 ht1).1
      have k2 := Lib.hid (row_mod k1.out hm2)
      have HT1 := Lib.hid ht1
      go_wp2_with fail
      refine (HA w2 (R_C k2.out)).mono ?_
      rintro e w3 ⟨rfl, hm3⟩
      have HM23 := Lib.hid (hm2.trans0 hm3)
      clear hr ht1 hm2 hm3
      go_wp2
      go_ret2
      exact stepped_same h9 hm0 hf1 HT1.out HM23.out
  · have hm' : mayB s = false := by simpa using hm
    have HF := number_bad _ fp g xs s h9.tab hsm hm'
    rw [hm'] at HM
    rw [numL_bad hm']
    clear hm hm'
    go_enter Try.func10, Try.ntmps10
    go_wp2_with fail
    generalize w.alloc _ = w0 at *
    generalize w.heap.size = b at *
    refine HF.mono ?_
    rintro e w1 ⟨rfl, hf1, ht1⟩
    go_wp2_with fail
    refine (HM w1).mono ?_
    rintro e w2 ⟨rfl, hm2⟩
    go_wp2
    go_ret2
    exact stepped_same h9 hm0 hf1 ht1 hm2
theorem step_any (w : World) (B : Nat) (fp ok : Nat → Prop) (g : Nat) (v : Value) (xs : List ByteArray) (k : Int) (s : ByteArray) (h : St w B fp ok g v xs) (hl : xs.length ≤ 1000) (hs : s.size ≤ 200) :
    Calls Try.prog 10 #[.pointer (some ⟨g, 0, none⟩), v, .agg #[.int .i64 k, .string s]] w (Stepped w B fp ok g (stepS xs k s)) := by
  unfold stepS
  split
  · rename_i e; subst e; exact step_number w B fp ok g v xs s h hl hs
  · split
    · rename_i e; subst e; exact step_fresh w B fp ok g v xs s h hl hs
    · exact step_other w B fp ok g v xs k s h hl hs (by assumption) (by assumption)
end Go.Proofs.Ytmopnchballegaa
