/- Memory that belongs to one thing: which blocks a call may have changed (Fr, by a predicate), maps as functions. Over any program. -/
import Derived.Test.YtopfaafgfgjfaaaStr
import Derived.Maps.OwnSet
import Derived.Maps.OwnOps
set_option linter.unusedVariables false
set_option linter.unusedSimpArgs false
namespace Go.Proofs.Ytopfaafgfgjfaaa
open Go.RowKit Go.Proofs.YtopfaafgfgjfaaaW.PrintWords
/-- w' is w but for the blocks of F, and for new blocks. -/
structure Fr (F : Nat → Prop) (w w' : World) : Prop where
  os : w'.os = w.os
  tape : w'.tape = w.tape
  output : w'.output = w.output
  size : w.heap.size ≤ w'.heap.size
  block : ∀ k, k < w.heap.size → ¬ F k → w'.heap[k]? = w.heap[k]?
def nobody : Nat → Prop := fun _ => False
theorem Fr.refl (F : Nat → Prop) (w : World) : Fr F w w := ⟨rfl, rfl, rfl, Nat.le_refl _, fun _ _ _ => rfl⟩
theorem Fr.trans {F G : Nat → Prop} {a b c : World} (h : Fr F a b) (k : Fr G b c) (hG : ∀ t, G t → F t ∨ a.heap.size ≤ t) : Fr F a c :=
  ⟨k.os.trans h.os, k.tape.trans h.tape, k.output.trans h.output, Nat.le_trans h.size k.size, fun i hi hs =>
    (k.block i (Nat.lt_of_lt_of_le hi h.size) (fun ht => (hG i ht).elim hs (fun h => by omega))).trans (h.block i hi hs)⟩
theorem Fr.trans_ {F : Nat → Prop} {a b c : World} (h : Fr F a b) (k : Fr F b c) : Fr F a c := h.trans k (fun _ ht => .inl ht)
theorem Fr.of_mod {S : List Nat} {w w' : World} (h : Mod S w w') : Fr (· ∈ S) w w' := ⟨h.os, h.tape, h.output, h.size, h.block⟩
theorem Fr.of_mod0 {F : Nat → Prop} {w w' : World} (h : Mod [] w w') : Fr F w w' := ⟨h.os, h.tape, h.output, h.size, fun k hk _ => h.block k hk (by simp)⟩
theorem Fr.then0 {F : Nat → Prop} {a b c : World} (h : Fr F a b) (k : Mod [] b c) : Fr F a c := h.trans_ (Fr.of_mod0 k)
theorem Fr.weak {F G : Nat → Prop} {w w' : World} (h : Fr F w w') (hFG : ∀ k, F k → G k ∨ w.heap.size ≤ k) : Fr G w w' :=
  ⟨h.os, h.tape, h.output, h.size, fun k hk hg => h.block k hk (fun hf => (hFG k hf).elim hg (fun h => by omega))⟩
theorem Fr.alloc {F : Nat → Prop} {a w : World} (h : Fr F a w) (o : Obj) : Fr F a (w.alloc o) := h.then0 ((Mod.refl [] w).alloc o)
theorem Fr.drew {F : Nat → Prop} {a w : World} (h : Fr F a w) : Fr F a w.drew := h.then0 (Mod.refl [] w).drew
theorem Fr.setCell {F : Nat → Prop} {a w : World} (h : Fr F a w) {p : Addr} (hp : F p.block ∨ a.heap.size ≤ p.block) (u : Value) : Fr F a (w.setCell p u) :=
  h.trans (Fr.of_mod ((Mod.refl [p.block] w).setCell (p := p) (by simp) u)) (fun t ht => (show t = p.block by simpa using ht) ▸ hp)
theorem Fr.mod {F : Nat → Prop} {w w' : World} (h : Fr F w w') (hF : ∀ k, F k → w.heap.size ≤ k) : Mod [] w w' :=
  ⟨h.os, h.tape, h.output, h.size, fun k hk _ => h.block k hk (fun hf => by have := hF k hf; omega)⟩
theorem Fr.below {F : Nat → Prop} {w w' : World} {B : Nat} (h : Fr F w w') (hB : B ≤ w.heap.size) (hF : ∀ k, F k → B ≤ k) : Below B w w' :=
  ⟨h.os, h.tape, h.output, h.size, fun k hk => h.block k (by omega) (fun hf => by have := hF k hf; omega)⟩
theorem Fr.blk {F : Nat → Prop} {w w' : World} (h : Fr F w w') {g : Nat} {o : Obj} (hb : w.heap[g]? = some o) (hs : ¬ F g) : w'.heap[g]? = some o := (h.block g (blk_lt hb) hs).trans hb
theorem Fr.cell {F : Nat → Prop} {w w' : World} (h : Fr F w w') {a : Addr} {v : Value} (hc : w.cell? a = some v) (hs : ¬ F a.block) : w'.cell? a = some v :=
  (World.cell?_of_block (h.block a.block (World.block_lt_of_cell? w a hc) hs)).trans hc
theorem Fr.of_grown {w w' : World} {row : Option Nat} (h : w.grownBy w' row) : Fr (fun k => some k = row) w w' :=
  ⟨h.os, h.tape, h.output, h.size, fun k hk hs => h.block k hk hs⟩
theorem Fr.of_below {F : Nat → Prop} {w w' : World} (h : Below w.heap.size w w') : Fr F w w' := Fr.of_mod0 (Mod.of_below h)
/-- What belongs to a thing behind a call: what did, and what the call has made. -/
def grow (F : Nat → Prop) (w w' : World) : Nat → Prop := fun k => (F k ∨ w.heap.size ≤ k) ∧ k < w'.heap.size
theorem grow_lt {F : Nat → Prop} {w w' : World} {k : Nat} (h : grow F w w' k) : k < w'.heap.size := h.2
theorem grow_old {F : Nat → Prop} {w w' : World} {k : Nat} (h : F k) (hk : k < w'.heap.size) : grow F w w' k := ⟨.inl h, hk⟩
theorem grow_mono {F : Nat → Prop} {a b c : World} (h : a.heap.size ≤ b.heap.size) (hc : b.heap.size ≤ c.heap.size) {k : Nat} (hk : grow (grow F a b) b c k) : grow F a c k :=
  ⟨hk.1.elim (fun h => h.1) (fun h => .inr (by omega)), hk.2⟩
theorem grow_ge {F : Nat → Prop} {w w' : World} {B k : Nat} (hF : ∀ k, F k → B ≤ k) (hB : B ≤ w.heap.size) (h : grow F w w' k) : B ≤ k := h.1.elim (hF k) (fun h => by omega)
/-- Two things stay apart where one of them grows. -/
theorem grow_apart {F G : Nat → Prop} {w w' : World} (h : ∀ k, F k → ¬ G k) (hG : ∀ k, G k → k < w.heap.size) : ∀ k, grow F w w' k → ¬ G k := fun k hk hg => hk.1.elim (fun hf => h k hf hg) (fun hs => by have := hG k hg; omega)
theorem Fr.grow {F : Nat → Prop} {a b c : World} (h : Fr F a b) (k : Fr (grow F a b) b c) : Fr F a c := h.trans k (fun t ht => ht.1)
/-- A map's datum told as a function of its keys. -/
def Reads (D : DataW Unit) (f : Lit → Option (DataW Unit)) : Prop := Maps.IsMap D ∧ ∀ k, Maps.has D k = (f k).isSome ∧ ∀ z, D.atKey k z = (f k).getD z
theorem Reads.empty : Reads (.map []) (fun _ => none) := ⟨Maps.isMap_empty, fun k => ⟨rfl, fun z => rfl⟩⟩
open Classical in
theorem Reads.put {D : DataW Unit} {f : Lit → Option (DataW Unit)} (h : Reads D f) {k : Lit} (hk : WideAt.IsKeyLit k) (d : DataW Unit) : Reads (D.put k d) (fun x => if x = k then some d else f x) := by
  refine ⟨h.1.put k d, fun x => ?_⟩
  by_cases e : x = k
  · subst e
    simp only [if_true]
    exact ⟨Maps.has_put_same h.1 hk d, fun z => Maps.atKey_put_same h.1 hk d z⟩
  · simp only [e, if_false]
    exact ⟨(Maps.has_put_other e d).trans (h.2 x).1, fun z => (Maps.atKey_put_other e d z).trans ((h.2 x).2 z)⟩
open Classical in
theorem Reads.del {D : DataW Unit} {f : Lit → Option (DataW Unit)} (h : Reads D f) (k : Lit) : Reads (D.del k) (fun x => if x = k then none else f x) := by
  refine ⟨h.1.del k, fun x => ?_⟩
  by_cases e : x = k
  · subst e
    simp only [if_true]
    exact ⟨Maps.has_del_same, fun z => Maps.atKey_del_same z⟩
  · simp only [e, if_false]
    exact ⟨(Maps.has_del_other e).trans (h.2 x).1, fun z => (Maps.atKey_del_other e z).trans ((h.2 x).2 z)⟩
theorem Reads.congr {D : DataW Unit} {f g : Lit → Option (DataW Unit)} (h : Reads D f) (e : ∀ k, f k = g k) : Reads D g := by
  obtain rfl : f = g := funext e
  exact h
theorem map_keep {P : Program} {k : TypeId} {R : Value → Option (DataW Unit × List MemPlace)} {w w' : World} {b n : Nat} {D : DataW Unit} (h : w.ownsMap P k R b n D) (hb : w'.heap[b]? = w.heap[b]?) : w'.ownsMap P k R b n D := by
  obtain ⟨es, clock, he, r⟩ := h
  exact ⟨es, clock, hb.trans he, r⟩
theorem row_keep {α : Type} {d : Kd α} {e : Nat} {w w' : World} {ok F : Nat → Prop} {v : Value} {xs : List α} (h : d.R e w 0 ok v xs) (hf : Fr F w w') (hF : ∀ k, ok k → ¬ F k) : d.R e w' 0 ok v xs :=
  Kd.R_step h (fun k hk hlt => hf.block k hlt (hF k hk))
theorem row_mod {α : Type} {d : Kd α} {e : Nat} {w w' : World} {ok : Nat → Prop} {v : Value} {xs : List α} (h : d.R e w 0 ok v xs) (hm : Mod [] w w') : d.R e w' 0 ok v xs := row_keep h (Fr.of_mod0 (F := nobody) hm) (fun _ _ h => h)
theorem row_lt {α : Type} {d : Kd α} {e : Nat} {w : World} {ok : Nat → Prop} {v : Value} {xs : List α} (h : d.R e w 0 ok v xs) : d.R e w 0 (fun k => ok k ∧ k < w.heap.size) v xs := Kd.R_mono (Kd.R_bound h) (fun k hk => ⟨hk.1, hk.2.2.1⟩)
section
variable {P : Program} {ops : Array Oper} {rest : List Oper} {o : Oper} {a : Act} {Q : Exit → Act → World → Prop}
/-- append(v, p), v a row of its own: the row grows by its own blocks and new ones. -/
theorem push_one {α : Type} (d : Kd α) {W : World} (hgd : o.guard = none) (s x : Operand) (t e : TypeId) (z : Value) (bytes : Nat)
    (ho : o.op = .call { callee := .builtin .append, args := #[s, x], argTypes := #[t, t] })
    (ht : P.underlying t = some (.slice e)) (hinfo : (P.info? e).map (fun i => (i.zero, i.size, i.bytes)) = some (some z, d.sz, bytes)) (hz : z.cells.size = d.sz) (hs0 : 0 < d.sz) (hb0 : 0 < bytes)
    (v : Value) (xs : List α) (p : α) (cs : List Value) (ok : Nat → Prop) (hs : a.eval s = v) (hx : a.eval x = .slice (some ⟨W.heap.size, 0, none⟩) 1 1) (hp : d.M W 0 (fun _ => False) p cs)
    (HO : d.R e W 0 ok v xs) (hl : (xs.length + 1) * bytes ≤ 140737488355328)
    (h : ∀ A1 c1 w1, d.R e w1 0 (grow ok W w1) (.slice A1 (xs.length + 1) c1) (xs ++ [p]) → Fr ok W w1 → wpList P ops Q rest (a.put o.dst (.slice A1 (xs.length + 1) c1)) w1) :
    wpList P ops Q (o :: rest) a (W.alloc (.cells cs.toArray e)) := by
  refine Kd.R_append d (w0 := W) 0 hgd s x t e z bytes ho ht hinfo hz hs0 hb0 v xs p cs (fun k => ok k ∨ W.heap.size ≤ k) (fun _ => False) hs hx hp (fun _ hk => hk.elim) (fun k hk => .inr hk) (Kd.R_mono HO (fun k hk => .inl hk)) (Below.refl 0 W) (Nat.zero_le _) hl ?_
  intro v1 w1 hr _ hg _
  obtain ⟨A1, c1, rfl⟩ : ∃ A1 c1, v1 = .slice A1 (xs.length + 1) c1 := by
    obtain ⟨A1, c1, e1, _⟩ := Kd.R_reads hr
    exact ⟨A1, c1, by rw [e1]; simp⟩
  exact h A1 c1 w1 (Kd.R_mono (row_lt hr) (fun k hk => hk)) ((Fr.of_grown hg).weak (fun k hk => .inl (HO.1 k hk.symm)))
end
end Go.Proofs.Ytopfaafgfgjfaaa
