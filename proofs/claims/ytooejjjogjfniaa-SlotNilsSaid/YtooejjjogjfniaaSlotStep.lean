/- One step on both: the program's page, and the document's slots. -/
import Derived.Test.YtooejjjogjfniaaSlotRef
set_option linter.unusedVariables false
set_option linter.unusedSimpArgs false
namespace Go.Proofs.Ytooejjjogjfniaa
open Go.RowKit Go.Proofs.YtooejjjogjfniaaW.PrintWords Go.Proofs.Ytooejjjogjfniaa.PSlotRoom Go.Proofs.YtooejjjogjfniaaW.PrintLast
/-- The page at block g and the row v have the same slots, in blocks of their own from B on. -/
structure St (w : World) (B : Nat) (fp ok : Nat → Prop) (g : Nat) (v : Value) (l : List S42) : Prop where
  pg : Pg w fp g l
  row : Kd.R k42 42 w 0 ok v l
  apart : ∀ k, fp k → ¬ ok k
  okl : ∀ k, ok k → k < w.heap.size
  fpB : ∀ k, fp k → B ≤ k
  okB : ∀ k, ok k → B ≤ k
  inv : Inv l
  bw : B ≤ w.heap.size
theorem St.fr {F : Nat → Prop} {w w' : World} {B : Nat} {fp ok : Nat → Prop} {g : Nat} {v : Value} {l : List S42} (h : St w B fp ok g v l) (hf : Fr F w w') (h1 : ∀ k, fp k → ¬ F k) (h2 : ∀ k, ok k → ¬ F k) : St w' B fp ok g v l :=
  ⟨h.pg.fr hf h1, row_keep h.row hf h2, h.apart, fun k hk => Nat.lt_of_lt_of_le (h.okl k hk) hf.size, h.fpB, h.okB, h.inv, Nat.le_trans h.bw hf.size⟩
theorem St.mod {w w' : World} {B : Nat} {fp ok : Nat → Prop} {g : Nat} {v : Value} {l : List S42} (h : St w B fp ok g v l) (hm : Mod [] w w') : St w' B fp ok g v l := h.fr (Fr.of_mod0 (F := nobody) hm) (fun _ _ h => h) (fun _ _ h => h)
/-- Behind a step. -/
def Stepped (w : World) (B : Nat) (fp ok : Nat → Prop) (g : Nat) (ys : List S42) (e : Ending) (w' : World) : Prop :=
  ∃ v' fp' ok', e = .returned (.tuple #[v', .bool true]) ∧ Fr (fun k => fp k ∨ ok k) w w' ∧ St w' B fp' ok' g v' ys
theorem stepped {w w0 w1 w2 w3 w4 : World} {B : Nat} {fp ok : Nat → Prop} {g : Nat} {v v' : Value} {l ys : List S42} (h : St w0 B fp ok g v l) (h0 : Mod [] w w0) (hf1 : Fr ok w0 w1) (hr1 : Kd.R k42 42 w1 0 (grow ok w0 w1) v' ys)
    (hm2 : Mod [] w1 w2) (hf3 : Fr fp w2 w3) (hp3 : Pg w3 (grow fp w2 w3) g ys) (hm4 : Mod [] w3 w4) (hi : Inv ys) : Stepped w B fp ok g ys (.returned (.tuple #[v', .bool true])) w4 := by
  have hz0 := h0.size
  have hz1 := hf1.size
  have hz2 := hm2.size
  have hz3 := hf3.size
  have hlt := h.pg.lt
  have hbw := h.bw
  have hap : ∀ k, grow fp w2 w3 k → ¬ grow ok w0 w1 k := fun k hk hk' => by
    rcases hk.1 with a | a
    · rcases hk'.1 with b | b
      · exact h.apart k a b
      · have := hlt k a; omega
    · have := hk'.2; omega
  have hok3 : Kd.R k42 42 w3 0 (grow ok w0 w1) v' ys := row_keep (row_mod hr1 hm2) hf3 (fun k hk hf => by
    rcases hk.1 with b | b
    · exact h.apart k hf b
    · have := hlt k hf; omega)
  have st3 : St w3 B (grow fp w2 w3) (grow ok w0 w1) g v' ys := ⟨hp3, hok3, hap, fun k hk => by have := hk.2; omega, fun k hk => grow_ge h.fpB (by omega) hk, fun k hk => grow_ge h.okB (by omega) hk, hi, by omega⟩
  refine ⟨v', grow fp w2 w3, grow ok w0 w1, rfl, ?_, st3.mod hm4⟩
  exact (((Fr.of_mod0 h0).trans_ (hf1.weak (fun k hk => .inl (.inr hk)))).then0 hm2).trans_ (hf3.weak (fun k hk => .inl (.inl hk))) |>.then0 hm4
def stepS (l : List S42) (k i n b : Int) : List S42 := if k = 0 then (addS l (recS n b)).1 else if k = 1 then (putS l i (recS n b)).1 else if k = 2 then (dropS l i).1 else l
theorem inv_step {l : List S42} (h : Inv l) (k i n b : Int) : Inv (stepS l k i n b) := by
  unfold stepS
  split
  · exact inv_add h _
  · split
    · exact inv_put h _ _
    · split
      · exact inv_drop h _
      · exact h
theorem box4 (w : World) (k i n b : Int) : Mod [] w (w.alloc (.cells #[.int .i64 k, .int .i64 i, .int .i64 n, .int .u8 b] 34)) ∧ (∀ j v, #[Value.int .i64 k, Value.int .i64 i, Value.int .i64 n, Value.int .u8 b][j]? = some v → (w.alloc (.cells #[.int .i64 k, .int .i64 i, .int .i64 n, .int .u8 b] 34)).cell? ⟨w.heap.size, j, none⟩ = some v) :=
  ⟨(Mod.refl [] w).alloc _, fun j v hv => (blk_cell (blk_new w _) j).trans hv⟩
set_option maxRecDepth 100000 in
set_option maxHeartbeats 1000000 in
theorem step_add (w : World) (B : Nat) (fp ok : Nat → Prop) (g : Nat) (v : Value) (l : List S42) (i n b : Int) (h : St w B fp ok g v l) (hn : -9223372036854775808 ≤ n ∧ n ≤ 9223372036854775807) :
    Calls Try.prog 20 #[.pointer (some ⟨g, 0, none⟩), v, .agg #[.int .i64 0, .int .i64 i, .int .i64 n, .int .u8 b]] w (Stepped w B fp ok g (addS l (recS n b)).1) := by
  obtain ⟨hm0, hcells⟩ := box4 w 0 i n b
  have d0 := hcells 0 _ rfl
  have d1 := hcells 1 _ rfl
  have d2 := hcells 2 _ rfl
  have d3 := hcells 3 _ rfl
  have h9 := h.mod hm0
  have HM0 := Lib.hid hm0
  have HREC := fun w' => rec_any 0 i n b w' hn
  have hsz : (recS n b).size ≤ 600 := by rw [recS_size]; exact recN_le n
  have hinv := inv_add h.inv (recS n b)
  have RA := fun w' hw' => refAdd_any w' ok v l (recS n b) hw' h.inv (by omega)
  have PA := fun w' hw' => add_any w' fp g l (recS n b) hw' h.inv
  generalize recS n b = rc at *
  generalize hx : addS l rc = x at *
  obtain ⟨ys, a1, a2⟩ := x
  have H9 := Lib.hid h9
  clear hcells hm0 hx h9
  go_enter Try.func20, Try.ntmps20
  go_wp2_with fail
  generalize w.alloc _ = w0 at *
  generalize w.heap.size = bx at *
  refine (HREC w0).mono ?_
  rintro e w1 ⟨rfl, hm1⟩
  go_wp2_with fail
  refine (RA w1 (row_mod H9.out.row hm1)).mono ?_
  rintro e w2 ⟨v', rfl, hm2, hr2⟩
  have hm02 := hm1.trans0 hm2
  have e0 := hm02.cell d0 (by simp)
  have e1 := hm02.cell d1 (by simp)
  have e2 := hm02.cell d2 (by simp)
  have e3 := hm02.cell d3 (by simp)
  have HM01 := Lib.hid (HM0.out.trans0 hm1)
  have H91 := Lib.hid (H9.out.mod hm1)
  have HM2 := Lib.hid hm2
  have HR2 := Lib.hid hr2
  clear d0 d1 d2 d3 hm1 hm2 hm02 hr2
  go_wp2_with fail
  refine (HREC w2).mono ?_
  rintro e w3 ⟨rfl, hm3⟩
  have HM3 := Lib.hid hm3
  have hp3 := (H91.out.pg.mod HM2.out).mod hm3
  clear hm3 e0 e1 e2 e3
  go_wp2_with fail
  refine (PA w3 hp3).mono ?_
  rintro e w4 ⟨rfl, hf4, hp4⟩
  have HP4 := Lib.hid hp4
  clear hp4 hp3
  go_wp2
  go_ret2
  exact stepped H91.out HM01.out (Fr.of_mod0 HM2.out) HR2.out HM3.out hf4 HP4.out (Mod.refl [] w4) hinv
set_option maxRecDepth 100000 in
set_option maxHeartbeats 1000000 in
theorem step_put (w : World) (B : Nat) (fp ok : Nat → Prop) (g : Nat) (v : Value) (l : List S42) (i n b : Int) (h : St w B fp ok g v l) (hn : -9223372036854775808 ≤ n ∧ n ≤ 9223372036854775807) :
    Calls Try.prog 20 #[.pointer (some ⟨g, 0, none⟩), v, .agg #[.int .i64 1, .int .i64 i, .int .i64 n, .int .u8 b]] w (Stepped w B fp ok g (putS l i (recS n b)).1) := by
  obtain ⟨hm0, hcells⟩ := box4 w 1 i n b
  have d0 := hcells 0 _ rfl
  have d1 := hcells 1 _ rfl
  have d2 := hcells 2 _ rfl
  have d3 := hcells 3 _ rfl
  have h9 := h.mod hm0
  have HM0 := Lib.hid hm0
  have HREC := fun w' => rec_any 1 i n b w' hn
  have hsz : (recS n b).size ≤ 600 := by rw [recS_size]; exact recN_le n
  have hinv := inv_put h.inv i (recS n b)
  have RA := fun w' hw' => refPut_any w' ok v l i (recS n b) hw' h.inv (by omega)
  have PA := fun w' hw' => put_any w' fp g l i (recS n b) hw' h.inv (by omega)
  generalize recS n b = rc at *
  generalize hx : putS l i rc = x at *
  obtain ⟨ys, a2⟩ := x
  have H9 := Lib.hid h9
  have HNB : ¬ ok w.heap.size := fun hk => Nat.lt_irrefl _ (h.okl _ hk)
  have HNF : ¬ fp w.heap.size := fun hk => Nat.lt_irrefl _ (h.pg.lt _ hk)
  clear hcells hm0 hx h9
  go_enter Try.func20, Try.ntmps20
  go_wp2_with fail
  generalize w.alloc _ = w0 at *
  generalize w.heap.size = bx at *
  have D0 : ∀ w', Fr ok w0 w' → w'.cell? ⟨bx, 0, none⟩ = some (.int .i64 1) := fun w' h => h.cell d0 HNB
  have D1 : ∀ w', Fr ok w0 w' → w'.cell? ⟨bx, 1, none⟩ = some (.int .i64 i) := fun w' h => h.cell d1 HNB
  have D2 : ∀ w', Fr ok w0 w' → w'.cell? ⟨bx, 2, none⟩ = some (.int .i64 n) := fun w' h => h.cell d2 HNB
  have D3 : ∀ w', Fr ok w0 w' → w'.cell? ⟨bx, 3, none⟩ = some (.int .u8 b) := fun w' h => h.cell d3 HNB
  go_region_held3 (fun w' => Fr ok w0 w') (first | exact (Fr.refl ok w0).drew | exact Fr.refl ok w0 | exact Fr.then0 (by assumption) (by assumption) | exact Fr.trans_ (by assumption) (by assumption) | exact (by assumption))
    (first
      | (go_at_call 10; refine (HREC _).mono ?_; rintro e w1 ⟨rfl, hm1⟩)
      | (go_at_call 27; refine (RA _ (row_mod H9.out.row (by first | assumption | exact (Mod.refl [] w0).drew.trans0 (by assumption)))).mono ?_; rintro e w2 ⟨v', rfl, hf2, hr2⟩))
  have HM01 := Lib.hid (HM0.out.trans0 ((Mod.refl [] w0).drew.trans0 hm1))
  have H91 := Lib.hid (H9.out.mod ((Mod.refl [] w0).drew.trans0 hm1))
  have HF2 := Lib.hid hf2
  have HR2 := Lib.hid hr2
  have hz : w0.heap.size ≤ w2.heap.size := Nat.le_trans ((Mod.refl [] w0).drew.trans0 hm1).size hf2.size
  have E1 : ∀ w', Fr fp w2 w' → w'.cell? ⟨bx, 1, none⟩ = some (.int .i64 i) := fun w' h => h.cell (D1 w2 (by assumption)) HNF
  have E2 : ∀ w', Fr fp w2 w' → w'.cell? ⟨bx, 2, none⟩ = some (.int .i64 n) := fun w' h => h.cell (D2 w2 (by assumption)) HNF
  have E3 : ∀ w', Fr fp w2 w' → w'.cell? ⟨bx, 3, none⟩ = some (.int .u8 b) := fun w' h => h.cell (D3 w2 (by assumption)) HNF
  have E0 : ∀ w', Fr fp w2 w' → w'.cell? ⟨bx, 0, none⟩ = some (.int .i64 1) := fun w' h => h.cell (D0 w2 (by assumption)) HNF
  have hp2 : Pg w2 fp g l := H91.out.pg.fr HF2.out (fun k hk => H91.out.apart k hk)
  have HP2 := Lib.hid hp2
  clear d0 d1 d2 d3 D0 D1 D2 D3 hm1 hf2 hr2 hp2 RA
  go_wp2_with fail
  go_region_held3 (fun w' => Fr fp w2 w') (first | exact (Fr.refl fp w2).drew | exact Fr.refl fp w2 | exact Fr.then0 (by assumption) (by assumption) | exact Fr.trans_ (by assumption) (by assumption) | exact (by assumption))
    (first
      | (go_at_call 10; refine (HREC _).mono ?_; rintro e w3 ⟨rfl, hm3⟩)
      | (go_at_call 15; refine (PA _ (HP2.out.mod (by first | assumption | exact (Mod.refl [] w2).drew.trans0 (by assumption)))).mono ?_; rintro e w4 ⟨rfl, hf4, hp4⟩))
  have HM23 := Lib.hid ((Mod.refl [] w2).drew.trans0 hm3)
  have HF4 := Lib.hid hf4
  have HP4 := Lib.hid hp4
  clear hm3 hf4 hp4
  go_wp2
  go_ret2
  exact stepped H91.out HM01.out HF2.out HR2.out HM23.out HF4.out HP4.out (Mod.refl [] w4) hinv
set_option maxRecDepth 100000 in
set_option maxHeartbeats 1000000 in
theorem step_drop (w : World) (B : Nat) (fp ok : Nat → Prop) (g : Nat) (v : Value) (l : List S42) (i n b : Int) (h : St w B fp ok g v l) :
    Calls Try.prog 20 #[.pointer (some ⟨g, 0, none⟩), v, .agg #[.int .i64 2, .int .i64 i, .int .i64 n, .int .u8 b]] w (Stepped w B fp ok g (dropS l i).1) := by
  obtain ⟨hm0, hcells⟩ := box4 w 2 i n b
  have d0 := hcells 0 _ rfl
  have d1 := hcells 1 _ rfl
  have h9 := h.mod hm0
  have HM0 := Lib.hid hm0
  have hinv := inv_drop h.inv i
  have RA := fun w' hw' => refDrop_any w' ok v l i hw' h.inv
  have PA := fun w' hw' => drop_any w' fp g l i hw' h.inv
  generalize hx : dropS l i = x at *
  obtain ⟨ys, a2⟩ := x
  have H9 := Lib.hid h9
  have HNB : ¬ ok w.heap.size := fun hk => Nat.lt_irrefl _ (h.okl _ hk)
  clear hcells hm0 hx h9
  go_enter Try.func20, Try.ntmps20
  go_wp2_with fail
  generalize w.alloc _ = w0 at *
  generalize w.heap.size = bx at *
  refine (RA w0 H9.out.row).mono ?_
  rintro e w1 ⟨v', rfl, hf1, hr1⟩
  have e1 := hf1.cell d1 HNB
  have hp1 : Pg w1 fp g l := H9.out.pg.fr hf1 (fun k hk => H9.out.apart k hk)
  have HF1 := Lib.hid hf1
  have HR1 := Lib.hid hr1
  clear hf1 hr1 d0 d1
  go_wp2_with fail
  refine (PA w1 hp1).mono ?_
  rintro e w2 ⟨rfl, hf2, hp2⟩
  have HP2 := Lib.hid hp2
  have HF2 := Lib.hid hf2
  clear hf2 hp2 e1
  go_wp2
  go_ret2
  exact stepped H9.out HM0.out HF1.out HR1.out (Mod.refl [] w1) HF2.out HP2.out (Mod.refl [] w2) hinv
set_option maxRecDepth 100000 in
set_option maxHeartbeats 1000000 in
theorem step_other (w : World) (B : Nat) (fp ok : Nat → Prop) (g : Nat) (v : Value) (l : List S42) (k i n b : Int) (h : St w B fp ok g v l) (h0 : ¬ k = 0) (h1 : ¬ k = 1) (h2 : ¬ k = 2) :
    Calls Try.prog 20 #[.pointer (some ⟨g, 0, none⟩), v, .agg #[.int .i64 k, .int .i64 i, .int .i64 n, .int .u8 b]] w (Stepped w B fp ok g l) := by
  obtain ⟨hm0, hcells⟩ := box4 w k i n b
  have d0 := hcells 0 _ rfl
  have h9 := h.mod hm0
  have HM0 := Lib.hid hm0
  have H9 := Lib.hid h9
  clear hcells hm0 h9
  go_enter Try.func20, Try.ntmps20
  go_wp2_with fail
  generalize w.alloc _ = w0 at *
  go_wp2
  go_ret2
  exact ⟨v, fp, ok, rfl, Fr.of_mod0 HM0.out, H9.out⟩
theorem step_any (w : World) (B : Nat) (fp ok : Nat → Prop) (g : Nat) (v : Value) (l : List S42) (k i n b : Int) (h : St w B fp ok g v l) (hn : -9223372036854775808 ≤ n ∧ n ≤ 9223372036854775807) :
    Calls Try.prog 20 #[.pointer (some ⟨g, 0, none⟩), v, .agg #[.int .i64 k, .int .i64 i, .int .i64 n, .int .u8 b]] w (Stepped w B fp ok g (stepS l k i n b)) := by
  unfold stepS
  by_cases h0 : k = 0
  · subst h0
    rw [if_pos rfl]
    exact step_add w B fp ok g v l i n b h hn
  · rw [if_neg h0]
    by_cases h1 : k = 1
    · subst h1
      rw [if_pos rfl]
      exact step_put w B fp ok g v l i n b h hn
    · rw [if_neg h1]
      by_cases h2 : k = 2
      · subst h2
        rw [if_pos rfl]
        exact step_drop w B fp ok g v l i n b h
      · rw [if_neg h2]
        exact step_other w B fp ok g v l k i n b h h0 h1 h2
end Go.Proofs.Ytooejjjogjfniaa
