/- The disk in memory; what its small functions do. -/
import Derived.Test.YtcohfbmfmlmblaaOwn
import Derived.Test.YtcohfbmfmlmblaaPDiskPlaysx0
set_option linter.unusedVariables false
set_option linter.unusedSimpArgs false
namespace Go.Proofs.Ytcohfbmfmlmblaa
open Go.RowKit Go.Proofs.YtcohfbmfmlmblaaW.PrintWords Go.Proofs.Ytcohfbmfmlmblaa.PDiskPlays
/-- A disk as a value: its sectors, the writes that wait, the fuse, whether it is down, how much was done. -/
structure DK where
  l : List ByteArray
  row : List S65
  fuse : Int
  down : Bool
  done : Int
/-- What holds of each disk that is made. -/
structure Okd (D : DK) (b : Nat) : Prop where
  len : D.l.length ≤ 2048
  rows : D.row.length ≤ b
  ats : ∀ x ∈ D.row, 0 ≤ x.f0 ∧ x.f0 < D.l.length
  szs : ∀ x ∈ D.row, x.f1.size = 128
  szl : ∀ s ∈ D.l, s.size = 128
  fz : -1 ≤ D.fuse ∧ D.fuse ≤ 9223372036854775807
  dn : 0 ≤ D.done ∧ D.done ≤ b
/-- A disk at block g; its blocks are fp's. -/
def Dsk (w : World) (fp : Nat → Prop) (g : Nat) (D : DK) : Prop :=
  ∃ L R, w.heap[g]? = some (.cells #[L, R, .int .i64 D.fuse, .bool D.down, .int .i64 D.done] 67 (0, 0)) ∧ Kd.R Kd.string 9 w 0 fp L D.l ∧ Kd.R k65 65 w 0 fp R D.row ∧ fp g ∧ ∀ k, fp k → k < w.heap.size
theorem Dsk.keep {w w' : World} {fp : Nat → Prop} {g : Nat} {D : DK} (h : Dsk w fp g D) (hs : w.heap.size ≤ w'.heap.size) (hk : ∀ k, fp k → w'.heap[k]? = w.heap[k]?) : Dsk w' fp g D := by
  obtain ⟨L, R, h1, h2, h3, h4, h5⟩ := h
  exact ⟨L, R, (hk g h4).trans h1, Kd.R_move h2 hk, Kd.R_move h3 hk, h4, fun k hk' => Nat.lt_of_lt_of_le (h5 k hk') hs⟩
theorem Dsk.lt {w : World} {fp : Nat → Prop} {g : Nat} {D : DK} (h : Dsk w fp g D) : ∀ k, fp k → k < w.heap.size := by
  obtain ⟨L, R, _, _, _, _, h5⟩ := h; exact h5
theorem Dsk.fr {F : Nat → Prop} {w w' : World} {fp : Nat → Prop} {g : Nat} {D : DK} (h : Dsk w fp g D) (hf : Fr F w w') (hF : ∀ k, fp k → ¬ F k) : Dsk w' fp g D :=
  h.keep hf.size (fun k hk => hf.block k (h.lt k hk) (hF k hk))
theorem Dsk.mod {w w' : World} {fp : Nat → Prop} {g : Nat} {D : DK} (h : Dsk w fp g D) (hm : Mod [] w w') : Dsk w' fp g D := h.fr (Fr.of_mod0 (F := nobody) hm) (fun _ _ h => h)
theorem Dsk.grow {w w' : World} {fp : Nat → Prop} {g : Nat} {D : DK} (h : Dsk w fp g D) (hm : Mod [] w w') : Dsk w' (grow fp w w') g D := by
  have hl := h.lt
  obtain ⟨L, R, h1, h2, h3, h4, h5⟩ := h.mod hm
  exact ⟨L, R, h1, Kd.R_mono h2 (fun k hk => grow_old hk (h5 k hk)), Kd.R_mono h3 (fun k hk => grow_old hk (h5 k hk)), grow_old h4 (h5 g h4), fun k hk => hk.2⟩
/-- The head alone has changed. -/
theorem Dsk.head {w w' : World} {fp : Nat → Prop} {g : Nat} {l : List ByteArray} {row : List S65} {L R : Value} {c : Array Value} {f n : Int} {d : Bool}
    (h1 : w.heap[g]? = some (.cells c 67 (0, 0))) (h2 : Kd.R Kd.string 9 w 0 fp L l) (h3 : Kd.R k65 65 w 0 fp R row) (h4 : fp g) (h5 : ∀ k, fp k → k < w.heap.size)
    (hm : Mod [g] w w') (hb : w'.heap[g]? = some (.cells #[L, R, .int .i64 f, .bool d, .int .i64 n] 67 (0, 0))) : Dsk w' fp g ⟨l, row, f, d, n⟩ := by
  have q1 := Kd.R_types h2 h1 (fun q hq => by simp [Kd.string, Kd.scalar] at hq; omega)
  have q2 := Kd.R_types h3 h1 (fun q hq => by simp [k65, Kd.iso, Kd.pair, Kd.string, Kd.int, Kd.scalar] at hq; omega)
  exact ⟨L, R, hb, Kd.R_mono (Kd.R_step q1 (fun k hk hlt => hm.block k hlt (by simp; exact hk.2))) (fun _ hk => hk.1), Kd.R_mono (Kd.R_step q2 (fun k hk hlt => hm.block k hlt (by simp; exact hk.2))) (fun _ hk => hk.1), h4, fun k hk => Nat.lt_of_lt_of_le (h5 k hk) hm.size⟩
theorem Fr.of_head {w w' : World} {fp : Nat → Prop} {g : Nat} (h4 : fp g) (hm : Mod [g] w w') : Fr fp w w' := (Fr.of_mod hm).weak (fun k hk => .inl (by rw [show k = g from List.mem_singleton.1 hk]; exact h4))
theorem Dsk.same {w w' : World} {fp : Nat → Prop} {g : Nat} {D : DK} (h : Dsk w' fp g D) (hF : Fr fp w w') : Dsk w' (Ytcohfbmfmlmblaa.grow fp w w') g D := by
  obtain ⟨L, R, h1, h2, h3, h4, h5⟩ := h
  exact ⟨L, R, h1, Kd.R_mono h2 (fun k hk => grow_old hk (h5 k hk)), Kd.R_mono h3 (fun k hk => grow_old hk (h5 k hk)), grow_old h4 (h5 g h4), fun k hk => hk.2⟩
def canE (D : DK) (i : Int) : Int := if D.down then 9 else if i < 0 ∨ (D.l.length : Int) ≤ i then 7 else 0
theorem can_nil (i : Int) (w : World) : Calls Try.prog 28 #[.pointer none, .int .i64 i] w fun e w' => e = .returned (.int .i64 1) ∧ w = w' := by
  go_enter Try.func28, Try.ntmps28
  go_wp2
  go_ret
  exact ⟨rfl, rfl⟩
theorem can_any (w : World) (fp : Nat → Prop) (g : Nat) (D : DK) (i : Int) (h : Dsk w fp g D) : Calls Try.prog 28 #[.pointer (some ⟨g, 0, none⟩), .int .i64 i] w fun e w' => e = .returned (.int .i64 (canE D i)) ∧ w = w' := by
  obtain ⟨L, R, h1, h2, h3, h4, h5⟩ := h
  obtain ⟨A, c, rfl, hc, _⟩ := Kd.R_reads h2
  have c0 := (blk_cell h1 0).trans rfl
  have c3 := (blk_cell h1 3).trans rfl
  unfold canE
  generalize D.down = d at *
  generalize D.l.length = n at *
  clear h2 h3
  cases d
  · rw [if_neg (by simp)]
    by_cases i0 : i < 0
    · rw [if_pos (.inl i0)]
      go_enter Try.func28, Try.ntmps28
      go_wp2
      go_ret
      exact ⟨rfl, rfl⟩
    · by_cases i1 : (n : Int) ≤ i
      · rw [if_pos (.inr i1)]
        go_enter Try.func28, Try.ntmps28
        go_wp2
        go_ret
        exact ⟨rfl, rfl⟩
      · rw [if_neg (by omega)]
        go_enter Try.func28, Try.ntmps28
        go_wp2
        go_ret
        exact ⟨rfl, rfl⟩
  · rw [if_pos rfl]
    go_enter Try.func28, Try.ntmps28
    go_wp2
    go_ret
    exact ⟨rfl, rfl⟩
def burnD (D : DK) : DK := if D.fuse = 0 then { D with down := true } else { D with fuse := if 0 < D.fuse then D.fuse - 1 else D.fuse, done := D.done + 1 }
def burnE (D : DK) : Int := if D.fuse = 0 then 9 else 0
theorem burn_any (w : World) (fp : Nat → Prop) (g : Nat) (D : DK) (h : Dsk w fp g D) (hf : D.fuse ≤ 9223372036854775807) (hd : 0 ≤ D.done ∧ D.done ≤ 1000000) :
    Calls Try.prog 30 #[.pointer (some ⟨g, 0, none⟩)] w fun e w' => e = .returned (.int .i64 (burnE D)) ∧ Fr fp w w' ∧ w'.heap.size = w.heap.size ∧ Dsk w' fp g (burnD D) := by
  obtain ⟨L, R, h1, h2, h3, h4, h5⟩ := h
  have c2 := (blk_cell h1 2).trans rfl
  have c3 := (blk_cell h1 3).trans rfl
  have c4 := (blk_cell h1 4).trans rfl
  have f2 := blk_frozen h1 2
  have f3 := blk_frozen h1 3
  have f4 := blk_frozen h1 4
  obtain ⟨l, row, f, d, n⟩ := D
  dsimp only at *
  by_cases f0 : f = 0
  · subst f0
    have hE : burnE ⟨l, row, 0, d, n⟩ = 9 := rfl
    have hD : burnD ⟨l, row, 0, d, n⟩ = ⟨l, row, 0, true, n⟩ := rfl
    rw [hE, hD]
    have hm := (Mod.refl [g] w).setCell (p := ⟨g, 3, none⟩) (by simp) (.bool true)
    have hb := blk_put h1 3 (.bool true) rfl
    have H1 := Lib.hid h1
    clear h1
    go_enter Try.func30, Try.ntmps30
    go_wp2
    go_ret
    exact ⟨rfl, Fr.of_head h4 hm, by simp, Dsk.head H1.out h2 h3 h4 h5 hm hb⟩
  · have hE : burnE ⟨l, row, f, d, n⟩ = 0 := if_neg f0
    have hD : burnD ⟨l, row, f, d, n⟩ = ⟨l, row, if 0 < f then f - 1 else f, d, n + 1⟩ := if_neg f0
    rw [hE, hD]
    have w4 : IntKind.i64.wrap (n + 1) = n + 1 := IntWalk.i64_in _ (by omega)
    have e0 : (f == 0) = false := by simp [f0]
    have H1 := Lib.hid h1
    by_cases fp0 : 0 < f
    · rw [if_pos fp0]
      have w2 : IntKind.i64.wrap (f - 1) = f - 1 := IntWalk.i64_in _ (by omega)
      have hm := ((Mod.refl [g] w).setCell (p := ⟨g, 2, none⟩) (by simp) (.int .i64 (f - 1))).setCell (p := ⟨g, 4, none⟩) (by simp) (.int .i64 (n + 1))
      have hb1 := blk_put h1 2 (.int .i64 (f - 1)) rfl
      have hb := blk_put hb1 4 (.int .i64 (n + 1)) rfl
      have c4' := (blk_cell hb1 4).trans rfl
      have f4' := blk_frozen hb1 4
      clear h1 hb1
      go_enter Try.func30, Try.ntmps30
      go_wp2
      go_ret
      exact ⟨rfl, Fr.of_head h4 hm, by simp, Dsk.head H1.out h2 h3 h4 h5 hm hb⟩
    · rw [if_neg fp0]
      have hm := (Mod.refl [g] w).setCell (p := ⟨g, 4, none⟩) (by simp) (.int .i64 (n + 1))
      have hb := blk_put h1 4 (.int .i64 (n + 1)) rfl
      clear h1
      go_enter Try.func30, Try.ntmps30
      go_wp2
      go_ret
      exact ⟨rfl, Fr.of_head h4 hm, by simp, Dsk.head H1.out h2 h3 h4 h5 hm hb⟩
theorem done_any (w : World) (fp : Nat → Prop) (g : Nat) (D : DK) (h : Dsk w fp g D) : Calls Try.prog 20 #[.pointer (some ⟨g, 0, none⟩)] w fun e w' => e = .returned (.int .i64 D.done) ∧ w = w' := by
  obtain ⟨L, R, h1, h2, h3, h4, h5⟩ := h
  have c4 := (blk_cell h1 4).trans rfl
  clear h2 h3
  go_enter Try.func20, Try.ntmps20
  go_wp2
  go_ret
  exact ⟨rfl, rfl⟩
theorem down_any (w : World) (fp : Nat → Prop) (g : Nat) (D : DK) (h : Dsk w fp g D) : Calls Try.prog 13 #[.pointer (some ⟨g, 0, none⟩)] w fun e w' => e = .returned (.bool D.down) ∧ w = w' := by
  obtain ⟨L, R, h1, h2, h3, h4, h5⟩ := h
  have c3 := (blk_cell h1 3).trans rfl
  clear h2 h3
  go_enter Try.func13, Try.ntmps13
  go_wp2
  go_ret
  exact ⟨rfl, rfl⟩
theorem sectors_any (w : World) (fp : Nat → Prop) (g : Nat) (D : DK) (h : Dsk w fp g D) : Calls Try.prog 21 #[.pointer (some ⟨g, 0, none⟩)] w fun e w' => e = .returned (.int .i64 (D.l.length : Int)) ∧ w = w' := by
  obtain ⟨L, R, h1, h2, h3, h4, h5⟩ := h
  obtain ⟨A, c, rfl, hc, _⟩ := Kd.R_reads h2
  have c0 := (blk_cell h1 0).trans rfl
  clear h2 h3
  go_enter Try.func21, Try.ntmps21
  go_wp2
  go_ret
  exact ⟨rfl, rfl⟩
def fuseD (D : DK) (n : Int) : DK := { D with fuse := if n < 0 then -1 else n }
theorem fuse_any (w : World) (fp : Nat → Prop) (g : Nat) (D : DK) (n : Int) (h : Dsk w fp g D) :
    Calls Try.prog 19 #[.pointer (some ⟨g, 0, none⟩), .int .i64 n] w fun e w' => (∃ v, e = .returned v) ∧ Fr fp w w' ∧ w'.heap.size = w.heap.size ∧ Dsk w' fp g (fuseD D n) := by
  obtain ⟨L, R, h1, h2, h3, h4, h5⟩ := h
  have c2 := (blk_cell h1 2).trans rfl
  have f2 := blk_frozen h1 2
  obtain ⟨l, row, f, d, m⟩ := D
  dsimp only at *
  unfold fuseD
  by_cases n0 : n < -1
  · rw [if_pos (by omega)]
    have n1 : ¬ -1 ≤ n := by omega
    have hm := (Mod.refl [g] w).setCell (p := ⟨g, 2, none⟩) (by simp) (.int .i64 (-1))
    have hb := blk_put h1 2 (.int .i64 (-1)) rfl
    have H1 := Lib.hid h1
    clear h1
    go_enter Try.func19, Try.ntmps19
    go_wp2
    go_end0
    exact ⟨⟨_, rfl⟩, Fr.of_head h4 hm, by simp, Dsk.head H1.out h2 h3 h4 h5 hm hb⟩
  · have hv : (if n < 0 then -1 else n) = n := by split <;> omega
    rw [hv]
    have n1 : -1 ≤ n := by omega
    clear hv n0
    have hm := (Mod.refl [g] w).setCell (p := ⟨g, 2, none⟩) (by simp) (.int .i64 n)
    have hb := blk_put h1 2 (.int .i64 n) rfl
    have H1 := Lib.hid h1
    clear h1
    go_enter Try.func19, Try.ntmps19
    go_wp2
    go_end0
    exact ⟨⟨_, rfl⟩, Fr.of_head h4 hm, by simp, Dsk.head H1.out h2 h3 h4 h5 hm hb⟩
end Go.Proofs.Ytcohfbmfmlmblaa
