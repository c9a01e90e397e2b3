/- The reference's numbers: made of an int, added, turned, compared, multiplied. -/
import Derived.Test.YtijhlofmangpgaaFixSum
set_option linter.unusedVariables false
set_option linter.unusedSimpArgs false
namespace Go.Proofs.Ytijhlofmangpgaa
open Go.RowKit Go.Proofs.YtijhlofmangpgaaW.PrintWords Go.Proofs.Ytijhlofmangpgaa.Dig
def NumPost (w : World) (b : Bool) (x : Nat) (e : Ending) (w' : World) : Prop :=
  ∃ A n c, e = .returned (.agg #[.bool b, .slice A n c]) ∧ n ≤ c ∧ Mod [] w w' ∧ ReadsInt w' .i64 A n (D x)
theorem D_len20 {x : Nat} (h : x ≤ 9223372036854775808) : (D x).length ≤ 20 := D_len_lt (by omega)
set_option maxRecDepth 100000 in
set_option maxHeartbeats 1000000 in
theorem of_any (a : Int) (w : World) (h0 : -9223372036854775808 ≤ a) (h1 : a ≤ 9223372036854775807) :
    Calls Try.prog 14 #[.int .i64 a] w (NumPost w (decide (a < 0)) a.natAbs) := by
  have hm0 := ((Mod.refl [] w).alloc (.cells #[.bool false, .slice none 0 0] 27)).alloc (.cells #[.bool (decide (a < 0)), .slice none 0 0] 27)
  have hb2 := blk_old (blk_new w (.cells #[.bool false, .slice none 0 0] 27)) (.cells #[.bool (decide (a < 0)), .slice none 0 0] 27)
  have hb3 := blk_new (w.alloc (.cells #[.bool false, .slice none 0 0] 27)) (.cells #[.bool (decide (a < 0)), .slice none 0 0] 27)
  go_enter Try.func14, Try.ntmps14
  go_wp2
  have hsz0 : ((w.alloc (.cells #[.bool false, .slice none 0 0] 27)).alloc (.cells #[.bool (decide (a < 0)), .slice none 0 0] 27)).heap.size = w.heap.size + 2 := by simp only [World.size_alloc]
  rw [World.size_alloc] at hb3
  have HM0 := Lib.hid hm0
  have H0 := Lib.hid hb2
  have H3 := Lib.hid hb3
  have HS0 := Lib.hid hsz0
  clear hm0 hb2 hb3 hsz0
  generalize (w.alloc _).alloc _ = W0 at *
  obtain ⟨g, hg⟩ : ∃ g, w.heap.size = g := ⟨_, rfl⟩
  rw [hg] at H0 H3 HS0
  have HG := Lib.hid hg
  rw [hg]
  clear hg
  have HSZ : g + 2 ≤ W0.heap.size := by rw [HS0.out]; exact Nat.le_refl _
  have hlen := D_len20 (x := a.natAbs) (by omega)
  have HX := Lib.hid (show ([] : List Int) ++ D a.natAbs = D a.natAbs from rfl)
  generalize decide (a < 0) = sg at *
  obtain ⟨x, hx⟩ : ∃ x, a.natAbs = x := ⟨_, rfl⟩
  rw [hx] at hlen ⊢
  go_loopw [0] (fun i wr => ∃ (q : Int) (os : List Int) (v : Value), i = .int .i64 q ∧ -9223372036854775808 ≤ q ∧ q ≤ 9223372036854775807 ∧ os ++ D q.natAbs = D x ∧ Mod [g + 1] W0 wr ∧ wr.heap[g + 1]? = some (.cells #[.bool sg, v] 27 (0, 0)) ∧ wr.ownsRow W0.heap.size 3 1 v os.length (nums .i64 os)) (fun i _ => (intOf i).natAbs)
  case atStart => exact ⟨a, [], _, rfl, h0, h1, by rw [hx]; rfl, Mod.refl _ _, H3.out, own_nil _ _ _ _⟩
  case round =>
    obtain ⟨q, os, v, rfl, hq0, hq1, hD, hm, hb, hown⟩ := hrel
    by_cases hz : q = 0
    · subst hz
      have hos : os = D x := by rw [← hD]; simp [D_zero]
      subst hos
      have hb0 := hm.blk H0.out (by simp)
      have HB := Lib.hid hb
      have HB0 := Lib.hid hb0
      have c0 : wr.cell? ⟨g + 1, 0, none⟩ = some (.bool sg) := (blk_cell hb 0).trans rfl
      have c1 : wr.cell? ⟨g + 1, 1, none⟩ = some v := (blk_cell hb 1).trans rfl
      have c2 : wr.cell? ⟨g, 0, none⟩ = some (.bool false) := (blk_cell hb0 0).trans rfl
      have c3 : wr.cell? ⟨g, 1, none⟩ = some (.slice none 0 0) := (blk_cell hb0 1).trans rfl
      have f0 := blk_frozen hb0 0
      have f1 := blk_frozen hb0 1
      obtain ⟨A1, cz, rfl, hc1, hr2, hA1⟩ := own_form hown
      have HR := Lib.hid hr2
      clear hown hr2
      go_wp2
      have hm9 : Mod [g] wr ((wr.setCell ⟨g, 0, none⟩ (.bool sg)).setCell ⟨g, 1, none⟩ (.slice A1 (D x).length cz)) := ((Mod.refl [g] wr).setCell (p := ⟨g, 0, none⟩) (by simp) _).setCell (p := ⟨g, 1, none⟩) (by simp) _
      refine bodyPost_ret (results_cell_row rfl _ _ g 27 #[.bool sg, .slice A1 (D x).length cz] (0, 0) _ rfl (blk_put (blk_put HB0.out 0 _ rfl) 1 _ rfl) Try.underlying27 rfl (by kernel_rfl)) rfl ?_
      rw [hx]
      exact ⟨A1, _, cz, rfl, hc1, (HM0.out.trans hm (by simp [HG.out])).trans hm9 (by simp [HG.out]), hm9.reads HR.out (fun x ex hn => by have := hA1 x ex; simp; omega)⟩
    · have hq9 : D q.natAbs = ((q.natAbs % 10 : Nat) : Int) :: D (q.natAbs / 10) := D_pos (by omega)
      have hD1 : (os ++ [((q.natAbs % 10 : Nat) : Int)]) ++ D (q.natAbs / 10) = D x := by rw [← hD, hq9]; simp
      have hol : os.length ≤ 20 := by rw [← hD, List.length_append] at hlen; omega
      have ht : (q.tdiv 10).natAbs = q.natAbs / 10 := by rw [Int.natAbs_tdiv]; rfl
      have hrr : q.tmod 10 < 0 ∧ -(q.tmod 10) = ((q.natAbs % 10 : Nat) : Int) ∨ ¬ q.tmod 10 < 0 ∧ q.tmod 10 = ((q.natAbs % 10 : Nat) : Int) := by
        have e := Int.natAbs_tmod q 10
        have e2 : (10 : Int).natAbs = 10 := rfl
        rw [e2] at e
        omega
      rw [← ht] at hD1
      have hnz : (q == 0) = false := by simpa using hz
      have hlt : (q.tdiv 10).natAbs < q.natAbs := by omega
      have HD := Lib.hid hD1
      have hbb : -9223372036854775808 ≤ q.tdiv 10 ∧ q.tdiv 10 ≤ 9223372036854775807 := by omega
      have qz : IntKind.i64.wrap (q.tdiv 10) = q.tdiv 10 := IntWalk.i64_in _ hbb
      clear hD hD1 ht hq9
      have hdg : q.natAbs % 10 ≤ 9 := by omega
      generalize q.natAbs % 10 = dg at *
      have HO := Lib.hid hown
      have c0 : wr.cell? ⟨g + 1, 0, none⟩ = some (.bool sg) := (blk_cell hb 0).trans rfl
      have c1 : wr.cell? ⟨g + 1, 1, none⟩ = some v := (blk_cell hb 1).trans rfl
      have hne : ∀ k, v.ownBlock = some k → W0.heap.size ≤ k := fun k hk => own_base hown k hk
      have hszr := hm.size
      clear hown
      rcases hrr with ⟨hr1, hr2⟩ | ⟨hr1, hr2⟩
      · have qn : IntKind.i64.wrap (-(q.tmod 10)) = (dg : Int) := by rw [hr2, IntWalk.i64_in _ (by omega)]
        have t1 : decide (q.tmod 10 < 0) = true := by simpa using hr1
        go_wp2_with (at_builtin; refine append_one (S := [g + 1]) (a0 := W0) W0.heap.size rfl (.tmp 17) (.tmp 19) 25 3 .i64 8 rfl Try.underlying25 info3 (by decide) _ os _ rfl rfl HO.out hm (Nat.le_refl _) hszr (by omega) ?_; intro v1 w2 hown1 hm1 hgr hat; have hbx := Lib.hid (blk_grown hb hgr (by intro h; have := hne _ h.symm; omega)); clear hgr hat; obtain ⟨A5, c5, rfl, hc5, hr5, hA5⟩ := own_form hown1; have d1 := (blk_cell hbx.out 1).trans rfl; have d2 := blk_frozen hbx.out 1)
        have e5 : (os ++ [(dg : Int)]).length = os.length + 1 := by simp
        rw [e5] at hown1
        refine ⟨⟨q.tdiv 10, os ++ [(dg : Int)], _, rfl, hbb.1, hbb.2, HD.out, hm1.setCell (p := ⟨g + 1, 1, none⟩) (by simp) _, blk_put hbx.out 1 _ rfl, ?_⟩, ?_⟩
        · rw [e5]; exact ((Mod.refl [g + 1] w2).setCell (p := ⟨g + 1, 1, none⟩) (by simp) _).own hown1 (fun k hk => by have := own_base hown1 k hk; simp; omega)
        · simpa [intOf] using hlt
      · have t1 : decide (q.tmod 10 < 0) = false := by simpa using hr1
        go_wp2_with (at_builtin; refine append_one (S := [g + 1]) (a0 := W0) W0.heap.size rfl (.tmp 17) (.tmp 19) 25 3 .i64 8 rfl Try.underlying25 info3 (by decide) _ os _ rfl rfl HO.out hm (Nat.le_refl _) hszr (by omega) ?_; intro v1 w2 hown1 hm1 hgr hat; have hbx := Lib.hid (blk_grown hb hgr (by intro h; have := hne _ h.symm; omega)); clear hgr hat; obtain ⟨A5, c5, rfl, hc5, hr5, hA5⟩ := own_form hown1; have d1 := (blk_cell hbx.out 1).trans rfl; have d2 := blk_frozen hbx.out 1)
        have e5 : (os ++ [(dg : Int)]).length = os.length + 1 := by simp
        rw [e5] at hown1
        refine ⟨⟨q.tdiv 10, os ++ [(dg : Int)], _, rfl, hbb.1, hbb.2, HD.out, hm1.setCell (p := ⟨g + 1, 1, none⟩) (by simp) _, blk_put hbx.out 1 _ rfl, ?_⟩, ?_⟩
        · rw [e5]; exact ((Mod.refl [g + 1] w2).setCell (p := ⟨g + 1, 1, none⟩) (by simp) _).own hown1 (fun k hk => by have := own_base hown1 k hk; simp; omega)
        · simpa [intOf] using hlt
end Go.Proofs.Ytijhlofmangpgaa
