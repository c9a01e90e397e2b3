/- The program's disk and the document's beside each other. -/
import Derived.Test.YtcohfbmfmlmblaaDkRFail
set_option linter.unusedVariables false
set_option linter.unusedSimpArgs false
namespace Go.Proofs.Ytcohfbmfmlmblaa
open Go.RowKit Go.Proofs.YtcohfbmfmlmblaaW.PrintWords Go.Proofs.Ytcohfbmfmlmblaa.PDiskPlays Go.Proofs.YtcohfbmfmlmblaaW.PrintMore
/-- The document's disk as a value; its rows' blocks are fq's. -/
def RefD (w w1 : World) (fq : Nat → Prop) (x : Value) (D : DK) : Prop :=
  ∃ L R, x = .agg #[L, R, .int .i64 D.fuse, .bool D.down, .int .i64 D.done] ∧ Kd.R Kd.string 9 w1 w.heap.size fq L D.l ∧ Kd.R k78 78 w1 w.heap.size fq R (rows D.row)
/-- Both, apart from one another, behind w; the blocks B are neither's. -/
def PS (w w1 : World) (g : Nat) (D : DK) (x : Value) (X : DK) (B : Nat → Prop) : Prop :=
  ∃ fp fq, Mod [] w w1 ∧ (∀ k, fp k → w.heap.size ≤ k) ∧ (∀ k, fq k → w.heap.size ≤ k ∧ k < w1.heap.size) ∧ (∀ k, fp k → ¬ fq k) ∧ Dsk w1 fp g D ∧ RefD w w1 fq x X ∧ ∀ k, B k → k < w1.heap.size ∧ ¬ fp k ∧ ¬ fq k
/-- The blocks B are as they were. -/
def KeepB (B : Nat → Prop) (w1 w2 : World) : Prop := ∀ k, B k → w2.heap[k]? = w1.heap[k]?
theorem KeepB.trans {B : Nat → Prop} {a b c : World} (h : KeepB B a b) (k : KeepB B b c) : KeepB B a c := fun i hi => (k i hi).trans (h i hi)
theorem KeepB.blk {B : Nat → Prop} {a b : World} (h : KeepB B a b) {k : Nat} {o : Obj} (hb : a.heap[k]? = some o) (hk : B k) : b.heap[k]? = some o := (h k hk).trans hb
theorem PS.st {w w1 : World} {g : Nat} {D X : DK} {x : Value} {B : Nat → Prop} (h : PS w w1 g D x X B) : St w w1 g D := by
  obtain ⟨fp, fq, a1, a2, a3, a4, a5, a6, a9⟩ := h
  exact ⟨fp, a1, a2, a5⟩
theorem PS.md {w w1 : World} {g : Nat} {D X : DK} {x : Value} {B : Nat → Prop} (h : PS w w1 g D x X B) : Mod [] w w1 := by
  obtain ⟨fp, fq, a1, _⟩ := h
  exact a1
theorem PS.mod {w w1 w2 : World} {g : Nat} {D X : DK} {x : Value} {B : Nat → Prop} (h : PS w w1 g D x X B) (hm : Mod [] w1 w2) : PS w w2 g D x X B ∧ KeepB B w1 w2 := by
  obtain ⟨fp, fq, a1, a2, a3, a4, a5, ⟨L, R, a6, a7, a8⟩, a9⟩ := h
  exact ⟨⟨fp, fq, a1.trans0 hm, a2, fun k hk => ⟨(a3 k hk).1, Nat.lt_of_lt_of_le (a3 k hk).2 hm.size⟩, a4, a5.mod hm, ⟨L, R, a6, Kd.R_below a7 hm.below0, Kd.R_below a8 hm.below0⟩,
    fun k hk => ⟨Nat.lt_of_lt_of_le (a9 k hk).1 hm.size, (a9 k hk).2⟩⟩, fun k hk => hm.block k (a9 k hk).1 (by simp)⟩
/-- A block that was just made is neither's. -/
theorem PS.box {w w1 : World} {g : Nat} {D X : DK} {x : Value} {B : Nat → Prop} (h : PS w w1 g D x X B) (o : Obj) : PS w (w1.alloc o) g D x X (fun k => B k ∨ k = w1.heap.size) := by
  obtain ⟨⟨fp, fq, a1, a2, a3, a4, a5, a6, a9⟩, _⟩ := h.mod ((Mod.refl [] w1).alloc o)
  obtain ⟨fp', fq', b1, b2, b3, b4, b5, b6, b9⟩ := h
  obtain ⟨L, R, c6, c7, c8⟩ := b6
  have hm := (Mod.refl [] w1).alloc o
  exact ⟨fp', fq', b1.trans0 hm, b2, fun k hk => ⟨(b3 k hk).1, Nat.lt_of_lt_of_le (b3 k hk).2 hm.size⟩, b4, b5.mod hm, ⟨L, R, c6, Kd.R_below c7 hm.below0, Kd.R_below c8 hm.below0⟩,
    fun k hk => hk.elim (fun h => ⟨Nat.lt_of_lt_of_le (b9 k h).1 hm.size, (b9 k h).2⟩) (fun h => by subst h; exact ⟨by simp, fun q => Nat.lt_irrefl _ (b5.lt _ q), fun q => Nat.lt_irrefl _ (b3 _ q).2⟩)⟩
theorem PS.weak {w w1 : World} {g : Nat} {D X : DK} {x : Value} {B B' : Nat → Prop} (h : PS w w1 g D x X B) (hB : ∀ k, B' k → B k) : PS w w1 g D x X B' := by
  obtain ⟨fp, fq, a1, a2, a3, a4, a5, a6, a9⟩ := h
  exact ⟨fp, fq, a1, a2, a3, a4, a5, a6, fun k hk => a9 k (hB k hk)⟩
/-- A store into a block of B. -/
theorem PS.set {w w1 : World} {g : Nat} {D X : DK} {x : Value} {B : Nat → Prop} (h : PS w w1 g D x X B) {p : Addr} (hp : B p.block) (hw : w.heap.size ≤ p.block) (u : Value) : PS w (w1.setCell p u) g D x X B := by
  obtain ⟨fp, fq, a1, a2, a3, a4, a5, ⟨L, R, a6, a7, a8⟩, a9⟩ := h
  have hne : ∀ k, fp k ∨ fq k → k ≠ p.block := fun k hk e => by subst e; exact hk.elim (a9 _ hp).2.1 (a9 _ hp).2.2
  exact ⟨fp, fq, a1.setCell (.inr hw) u, a2, fun k hk => ⟨(a3 k hk).1, by simpa using (a3 k hk).2⟩, a4, a5.keep (by simp) (fun k hk => Below.heap_setCell w1 p u k (hne k (.inl hk))),
    ⟨L, R, a6, Kd.R_far a7 (fun k hk => hne k (.inr hk)) u, Kd.R_far a8 (fun k hk => hne k (.inr hk)) u⟩, fun k hk => ⟨by simpa using (a9 k hk).1, (a9 k hk).2⟩⟩
/-- The program's disk has gone on. -/
theorem PS.prog {w w1 w2 : World} {g : Nat} {D' X : DK} {x : Value} {B : Nat → Prop} {fp fq : Nat → Prop} (a1 : Mod [] w w1) (a2 : ∀ k, fp k → w.heap.size ≤ k) (a3 : ∀ k, fq k → w.heap.size ≤ k ∧ k < w1.heap.size) (a4 : ∀ k, fp k → ¬ fq k) (a6 : RefD w w1 fq x X) (a9 : ∀ k, B k → k < w1.heap.size ∧ ¬ fp k ∧ ¬ fq k)
    (hp : DskPost w1 fp g D' w2) : PS w w2 g D' x X B ∧ KeepB B w1 w2 := by
  obtain ⟨L, R, b6, a7, a8⟩ := a6
  obtain ⟨hF, hD⟩ := hp
  exact ⟨⟨Ytcohfbmfmlmblaa.grow fp w1 w2, fq, a1.fr hF a2, fun k hk => grow_ge a2 a1.size hk, fun k hk => ⟨(a3 k hk).1, Nat.lt_of_lt_of_le (a3 k hk).2 hF.size⟩, grow_apart a4 (fun k hk => (a3 k hk).2), hD,
    ⟨L, R, b6, Kd.R_step a7 (fun k hk hlt => hF.block k hlt (fun hf => a4 k hf hk)), Kd.R_step a8 (fun k hk hlt => hF.block k hlt (fun hf => a4 k hf hk))⟩,
    fun k hk => ⟨Nat.lt_of_lt_of_le (a9 k hk).1 hF.size, fun h => h.1.elim (a9 k hk).2.1 (fun h => by have := (a9 k hk).1; omega), (a9 k hk).2.2⟩⟩, fun k hk => hF.block k (a9 k hk).1 (a9 k hk).2.1⟩
/-- The document's disk has gone on. -/
theorem PS.ref {w w1 w2 : World} {g : Nat} {D X' : DK} {x' : Value} {B : Nat → Prop} {fp fq : Nat → Prop} (a1 : Mod [] w w1) (a2 : ∀ k, fp k → w.heap.size ≤ k) (a3 : ∀ k, fq k → w.heap.size ≤ k ∧ k < w1.heap.size) (a4 : ∀ k, fp k → ¬ fq k) (a5 : Dsk w1 fp g D) (a9 : ∀ k, B k → k < w1.heap.size ∧ ¬ fp k ∧ ¬ fq k)
    (hF : Fr fq w1 w2) (hR : RefD w w2 (fun k => fq k ∨ w1.heap.size ≤ k) x' X') : PS w w2 g D x' X' B ∧ KeepB B w1 w2 := by
  obtain ⟨L, R, b1, b2, b3⟩ := hR
  have hlt := a5.lt
  refine ⟨⟨fp, fun k => (fq k ∨ w1.heap.size ≤ k) ∧ w.heap.size ≤ k ∧ k < w2.heap.size, a1.fr hF (fun k hk => (a3 k hk).1), a2, fun k hk => hk.2, fun k hk hq => ?_, a5.fr hF a4, ⟨L, R, b1, ?_, ?_⟩, fun k hk => ⟨Nat.lt_of_lt_of_le (a9 k hk).1 hF.size, (a9 k hk).2.1, fun h => h.1.elim (a9 k hk).2.2 (fun h => by have := (a9 k hk).1; omega)⟩⟩, fun k hk => hF.block k (a9 k hk).1 (a9 k hk).2.2⟩
  · rcases hq.1 with h | h
    · exact a4 k hk h
    · have := hlt k hk; omega
  · exact Kd.R_mono (Kd.R_bound b2) (fun k hk => ⟨hk.1, hk.2.1, hk.2.2.1⟩)
  · exact Kd.R_mono (Kd.R_bound b3) (fun k hk => ⟨hk.1, hk.2.1, hk.2.2.1⟩)
theorem fr_kept {w w1 w2 : World} {F : Nat → Prop} (hm : Mod [] w w1) (hb : Below w.heap.size w w2) (hk : Kept w1 w2 F) : Fr F w1 w2 :=
  ⟨hb.os.trans hm.os.symm, hb.tape.trans hm.tape.symm, hb.output.trans hm.output.symm, hk.1, fun k h1 h2 => hk.2 k h1 h2⟩
/-- What holds of each disk of four sectors or so, behind at most b steps. -/
structure Good (D : DK) (b : Nat) : Prop where
  lp : 0 < D.l.length
  ll : D.l.length ≤ 2048
  fz : D.fuse ≤ 9223372036854775807
  dn : 0 ≤ D.done ∧ D.done ≤ b
  rl : D.row.length ≤ b
  ats : ∀ x ∈ D.row, 0 ≤ x.f0 ∧ x.f0 < D.l.length
  szs : ∀ x ∈ D.row, x.f1.size = 128
  szl : ∀ s ∈ D.l, s.size = 128
theorem Good.bnd {D : DK} {b : Nat} (h : Good D b) (hb : b ≤ 1000) : Bnd D := ⟨h.fz, ⟨h.dn.1, by have := h.dn.2; omega⟩, by have := h.rl; omega, h.ats⟩
theorem or_self' {P : Nat → Prop} {n : Nat} : ∀ k, ((P k ∨ P k) ∨ n ≤ k) → (P k ∨ n ≤ k) := fun k hk => hk.elim (fun h => .inl (h.elim (fun h => h) (fun h => h))) .inr
theorem ref_put {w w1 : World} {g : Nat} {D X : DK} {x : Value} {b : Nat} {B : Nat → Prop} (h : PS w w1 g D x X B) (hG : Good X b) (hb : b ≤ 1000) (i : Int) (s : ByteArray) :
    Calls Try.prog 32 #[x, .int .i64 i, .string s] w1 fun e w' => ∃ x', e = .returned (.tuple #[x', .int .i64 (writeE X i s)]) ∧ PS w w' g D x' (writeD X i s) B ∧ KeepB B w1 w' := by
  obtain ⟨fp, fq, a1, a2, a3, a4, a5, ⟨L, R, rfl, a7, a8⟩, a9⟩ := h
  refine (hibernacleref04_Put.calls 1 fq L X.l fq R (rows X.row) X.fuse X.down X.done i s _ _ _ _ _ _ w w1 a1.below0 a7 a8 (put_f X i s hG.fz ⟨hG.dn.1, by have := hG.dn.2; omega⟩ (by have := hG.rl; omega))).mono ?_
  rintro e w2 ⟨v0, v1, rfl, b1, b2, b3, b4⟩
  exact ⟨_, rfl, PS.ref a1 a2 a3 a4 a5 a9 (fr_kept a1 b3 (b4.mono (S' := fq) (fun k hk => hk.elim (fun h => h) (fun h => h)))) ⟨v0, v1, rfl, Kd.R_mono b1 or_self', Kd.R_mono b2 or_self'⟩⟩
theorem ref_bar {w w1 : World} {g : Nat} {D X : DK} {x : Value} {b : Nat} {B : Nat → Prop} (h : PS w w1 g D x X B) (hG : Good X b) (hb : b ≤ 1000) :
    Calls Try.prog 33 #[x] w1 fun e w' => ∃ x', e = .returned (.tuple #[x', .int .i64 (barE X)]) ∧ PS w w' g D x' (barD X) B ∧ KeepB B w1 w' := by
  obtain ⟨fp, fq, a1, a2, a3, a4, a5, ⟨L, R, rfl, a7, a8⟩, a9⟩ := h
  refine (hibernacleref04_Barrier.calls 1001 fq L X.l fq R (rows X.row) X.fuse X.down X.done _ _ _ _ _ _ w w1 a1.below0 a7 a8 (bar_f X hG.fz ⟨hG.dn.1, by have := hG.dn.2; omega⟩ (by have := hG.rl; omega) (by have := hG.ll; omega) hG.lp hG.ats)).mono ?_
  rintro e w2 ⟨v0, v1, rfl, b1, b2, b3, b4⟩
  exact ⟨_, rfl, PS.ref a1 a2 a3 a4 a5 a9 (fr_kept a1 b3 (b4.mono (S' := fq) (fun k hk => hk.elim (fun h => h) (fun h => h)))) ⟨v0, v1, rfl, Kd.R_mono b1 or_self', Kd.R_mono b2 or_self'⟩⟩
theorem ref_read {w w1 : World} {g : Nat} {D X : DK} {x : Value} {b : Nat} {B : Nat → Prop} (h : PS w w1 g D x X B) (hG : Good X b) (hb : b ≤ 1000) (i : Int) :
    Calls Try.prog 37 #[x, .int .i64 i] w1 fun e w' => e = .returned (.tuple #[.string (readS X i), .int .i64 (canE X i)]) ∧ PS w w' g D x X B ∧ KeepB B w1 w' := by
  have h0 := h
  obtain ⟨fp, fq, a1, a2, a3, a4, a5, ⟨L, R, rfl, a7, a8⟩, a9⟩ := h
  obtain ⟨A, c, rfl, hc, hC⟩ := Kd.R_reads a7
  obtain ⟨A', c', rfl, hc', hC'⟩ := Kd.R_reads a8
  refine (hibernacleref04_Read.calls 1002 A c X.l A' c' (rows X.row) X.fuse X.down X.done i _ _ w1 hC hc hC' hc' (read_f X i (by have := hG.rl; omega))).mono ?_
  rintro e w2 ⟨rfl, hb2⟩
  exact ⟨rfl, h0.mod (Mod.of_below hb2)⟩
theorem ref_fail {w w1 : World} {g : Nat} {D X : DK} {x : Value} {b : Nat} {B : Nat → Prop} (h : PS w w1 g D x X B) (hG : Good X b) (hb : b ≤ 1000) (KA : Option Addr) (kc : Nat) (keep : List Bool) (torn a : Int) (hk : Kd.C Kd.bool w KA keep.length keep) :
    Calls Try.prog 35 #[x, .slice KA keep.length kc, .int .i64 torn, .int .i64 a] w1 fun e w' => ∃ x', e = .returned x' ∧ PS w w' g D x' (failD X keep torn a) B ∧ KeepB B w1 w' := by
  obtain ⟨fp, fq, a1, a2, a3, a4, a5, ⟨L, R, rfl, a7, a8⟩, a9⟩ := h
  obtain ⟨A', c', rfl, hc', hC'⟩ := Kd.R_reads a8
  have hrl : (rows X.row).length = X.row.length := by simp [rows]
  rw [hrl] at hC' hc' ⊢
  refine (rfail_any w1 w.heap.size fq L X.l A' c' X.row X.fuse X.done X.down KA kc keep torn a a7 a1.size hC' hc' (by have := hG.rl; omega) hG.lp (by have := hG.ll; omega) hG.ats hG.szs hG.szl (Kd.C_below hk a1.below0)).mono ?_
  rintro e w2 ⟨L', rfl, b1, b2⟩
  exact ⟨_, rfl, PS.ref a1 a2 a3 a4 a5 a9 (Fr.of_mod0 b1) ⟨L', _, rfl, b2, Kd.R_nil _ _ _ _ _⟩⟩
theorem prog_write {w w1 : World} {g : Nat} {D X : DK} {x : Value} {b : Nat} {B : Nat → Prop} (h : PS w w1 g D x X B) (hG : Good D b) (hb : b ≤ 1000) (i : Int) (s : ByteArray) (hs : s.size ≤ 1000000) :
    Calls Try.prog 14 #[.pointer (some ⟨g, 0, none⟩), .int .i64 i, .string s] w1 fun e w' => e = .returned (.int .i64 (writeE D i s)) ∧ PS w w' g (writeD D i s) x X B ∧ KeepB B w1 w' := by
  obtain ⟨fp, fq, a1, a2, a3, a4, a5, a6, a9⟩ := h
  have hB := hG.bnd hb
  refine (write_any w1 fp g D i s a5 hB.fz hB.dn hB.rl hs).mono ?_
  rintro e w2 ⟨rfl, hp⟩
  exact ⟨rfl, PS.prog a1 a2 a3 a4 a6 a9 hp⟩
theorem prog_bar {w w1 : World} {g : Nat} {D X : DK} {x : Value} {b : Nat} {B : Nat → Prop} (h : PS w w1 g D x X B) (hG : Good D b) (hb : b ≤ 1000) :
    Calls Try.prog 12 #[.pointer (some ⟨g, 0, none⟩)] w1 fun e w' => e = .returned (.int .i64 (barE D)) ∧ PS w w' g (barD D) x X B ∧ KeepB B w1 w' := by
  obtain ⟨fp, fq, a1, a2, a3, a4, a5, a6, a9⟩ := h
  have hB := hG.bnd hb
  refine (bar_any w1 fp g D a5 hB.fz hB.dn hB.rl hB.ats).mono ?_
  rintro e w2 ⟨rfl, hp⟩
  exact ⟨rfl, PS.prog a1 a2 a3 a4 a6 a9 hp⟩
theorem prog_fail {w w1 : World} {g : Nat} {D X : DK} {x : Value} {b : Nat} {B : Nat → Prop} (h : PS w w1 g D x X B) (hG : Good D b) (hb : b ≤ 1000) (KA : Option Addr) (kc : Nat) (keep : List Bool) (torn a : Int) (hk : Kd.C Kd.bool w KA keep.length keep) :
    Calls Try.prog 16 #[.pointer (some ⟨g, 0, none⟩), .slice KA keep.length kc, .int .i64 torn, .int .i64 a] w1 fun e w' => (∃ v, e = .returned v) ∧ PS w w' g (failD D keep torn a) x X B ∧ KeepB B w1 w' := by
  obtain ⟨fp, fq, a1, a2, a3, a4, a5, a6, a9⟩ := h
  have hB := hG.bnd hb
  refine (fail_any w1 fp g D KA kc keep torn a a5 hB.rl hG.lp hG.ats hG.szs hG.szl (fun w' hF => Kd.C_below hk (a1.fr hF a2).below0)).mono ?_
  rintro e w2 ⟨hv, hp⟩
  exact ⟨hv, PS.prog a1 a2 a3 a4 a6 a9 hp⟩
theorem prog_fuse {w w1 : World} {g : Nat} {D X : DK} {x : Value} {B : Nat → Prop} (h : PS w w1 g D x X B) (n : Int) :
    Calls Try.prog 19 #[.pointer (some ⟨g, 0, none⟩), .int .i64 n] w1 fun e w' => (∃ v, e = .returned v) ∧ PS w w' g (fuseD D n) x X B ∧ KeepB B w1 w' := by
  obtain ⟨fp, fq, a1, a2, a3, a4, a5, a6, a9⟩ := h
  refine (fuse_any w1 fp g D n a5).mono ?_
  rintro e w2 ⟨hv, hF, _, hD⟩
  exact ⟨hv, PS.prog a1 a2 a3 a4 a6 a9 ⟨hF, hD.same hF⟩⟩
theorem prog_start {w w1 : World} {g : Nat} {D X : DK} {x : Value} {B : Nat → Prop} (h : PS w w1 g D x X B) :
    Calls Try.prog 17 #[.pointer (some ⟨g, 0, none⟩)] w1 fun e w' => (∃ v, e = .returned v) ∧ PS w w' g (startD D) x X B ∧ KeepB B w1 w' := by
  obtain ⟨fp, fq, a1, a2, a3, a4, a5, a6, a9⟩ := h
  refine (start_any w1 fp g D a5).mono ?_
  rintro e w2 ⟨hv, hF, _, hD⟩
  exact ⟨hv, PS.prog a1 a2 a3 a4 a6 a9 ⟨hF, hD.same hF⟩⟩
theorem prog_read {w w1 : World} {g : Nat} {D X : DK} {x : Value} {b : Nat} {B : Nat → Prop} (h : PS w w1 g D x X B) (hG : Good D b) (hb : b ≤ 1000) (i : Int) :
    Calls Try.prog 11 #[.pointer (some ⟨g, 0, none⟩), .int .i64 i] w1 fun e w' => e = .returned (.tuple #[.string (readS D i), .int .i64 (canE D i)]) ∧ PS w w' g D x X B ∧ KeepB B w1 w' := by
  have h0 := h
  obtain ⟨fp, fq, a1, a2, a3, a4, a5, a6, a9⟩ := h
  refine (read_any w1 fp g D i a5 (by have := hG.rl; omega)).mono ?_
  rintro e w2 ⟨rfl, hm⟩
  exact ⟨rfl, h0.mod hm⟩
theorem ref_new (n : Nat) (w1 : World) (hn : n ≤ 2048) : ∃ k, hibernacleref04_New.f k (n : Int) = some ((newD n).l, rows (newD n).row, (newD n).fuse, (newD n).down, (newD n).done) := by
  refine ⟨n + 1, ?_⟩
  have hz : hibernacleref04_Zeros.f = some ZERO := by unfold hibernacleref04_Zeros.f; rw [if_pos (by omega)]; rfl
  have key : ∀ (d j : Nat), j + d = n → ∀ k, d < k → hibernacleref04_New.l0 k (n : Int) (j : Int) (List.replicate j ZERO) (-1) false 0 = some (List.replicate n ZERO, [], -1, false, 0) := by
    intro d
    induction d with
    | zero =>
      intro j hj k hk
      obtain ⟨k, rfl⟩ : ∃ q, k = q + 1 := ⟨k - 1, by omega⟩
      obtain rfl : j = n := by omega
      rw [hibernacleref04_New.l0, if_neg (by omega)]
    | succ d ih =>
      intro j hj k hk
      obtain ⟨k, rfl⟩ : ∃ q, k = q + 1 := ⟨k - 1, by omega⟩
      rw [hibernacleref04_New.l0, if_pos (by omega), hz, Option.bind_some, if_pos (by rw [List.length_replicate]; omega), wr64 (by omega) (by omega), show ((j : Int) + 1) = ((j + 1 : Nat) : Int) by omega, ← List.replicate_succ']
      exact ih (j + 1) (by omega) k (by omega)
  exact key n 0 (by omega) (n + 1) (by omega)
end Go.Proofs.Ytcohfbmfmlmblaa
