/- A disk's clone. -/
import Derived.Test.YtcohfbmfmlmblaaDkWrite
import Derived.Lib.SliceRun
import Derived.OwnWalk
set_option linter.unusedVariables false
set_option linter.unusedSimpArgs false
namespace Go.Proofs.Ytcohfbmfmlmblaa
open Go.RowKit Go.Proofs.YtcohfbmfmlmblaaW.PrintWords Go.Proofs.Ytcohfbmfmlmblaa.PDiskPlays Go.Proofs.YtcohfbmfmlmblaaW.PrintMore Go.Proofs.YtcohfbmfmlmblaaW.PrintLast
/-- The cells of a row that is read, one element behind the other. -/
theorem gather {α : Type} (d : Kd α) {w : World} {ad : Addr} {xs : List α} (h : Kd.C d w (some ad) xs.length xs) : ∀ m, m ≤ xs.length → ∃ inner, Reps (d.K w) d.sz (xs.take m) inner ∧ (∀ (j : Nat) u, inner[j]? = some u → w.cell? (ad.add j) = some u) ∧ ∀ u ∈ inner, u.oneCell' = true
  | 0, _ => ⟨[], Reps.none _ _, fun j u h => by simp at h, fun u h => by cases h⟩
  | m + 1, hm => by
    obtain ⟨inner, h1, h2, h3⟩ := gather d h m (by omega)
    obtain ⟨ad', e, hx⟩ := h.2.2 (by omega)
    injection e with e
    subst e
    have hmm : xs[m]? = some xs[m] := List.getElem?_eq_getElem (by omega)
    obtain ⟨c, hc1, hc2, hc3⟩ := hx m _ hmm
    have hil : inner.length = m * d.sz := by rw [h1.1, List.length_take]; congr 1; omega
    refine ⟨inner ++ c, ?_, fun j u hj => ?_, fun u hu => ?_⟩
    · rw [List.take_add_one, hmm]
      exact h1.snoc hc2 hc1
    · by_cases hlt : j < inner.length
      · rw [List.getElem?_append_left hlt] at hj
        exact h2 j u hj
      · rw [List.getElem?_append_right (by omega)] at hj
        have := hc3 _ _ hj
        rw [show m * d.sz + (j - inner.length) = j by omega] at this
        exact this
    · rcases List.mem_append.1 hu with hu | hu
      · exact h3 u hu
      · exact d.K_one hc2 u hu
/-- A row that was copied is a row of its own. -/
theorem copied {α : Type} {d : Kd α} {e base : Nat} {w1 : World} {v : Value} {xs : List α} {inner : List Value} {w : World} (hKM : ∀ x cs (ok : Nat → Prop), d.K w x cs → d.M w1 base ok x cs) (h1 : Reps (d.K w) d.sz xs inner) (ho : w1.ownsRow base e d.sz v xs.length inner) :
    d.R e w1 base (fun _ => True) v xs := ⟨fun _ _ => trivial, inner, ho, h1.imp_ (fun p c hp => hKM p c _ hp)⟩
def CloneP {α : Type} (d : Kd α) (e : Nat) (w : World) (xs : List α) (en : Ending) (w' : World) : Prop := ∃ v, en = .returned v ∧ Mod [] w w' ∧ d.R e w' 0 (fun k => w.heap.size ≤ k ∧ k < w'.heap.size) v xs
theorem cloneP_nil {α : Type} (d : Kd α) (e : Nat) (w : World) : CloneP d e w [] (.returned (.slice none 0 0)) w := ⟨_, rfl, Mod.refl [] w, Kd.R_nil _ _ _ _ _⟩
theorem cloneP_mk {α : Type} {d : Kd α} {e : Nat} {w w1 : World} {v : Value} {xs : List α} {inner : List Value} (hb : Below w.heap.size w w1) (hKM : ∀ x cs (ok : Nat → Prop), d.K w x cs → d.M w1 w.heap.size ok x cs) (h1 : Reps (d.K w) d.sz xs inner) (ho : w1.ownsRow w.heap.size e d.sz v xs.length inner) : CloneP d e w xs (.returned v) w1 :=
  ⟨v, rfl, Mod.of_below hb, Kd.R_lower (Kd.R_mono (Kd.R_bound (copied hKM h1 ho)) (fun k hk => ⟨hk.2.1, hk.2.2.1⟩)) (Nat.zero_le _)⟩
set_option maxRecDepth 100000 in
set_option maxHeartbeats 2000000 in
theorem clone38 (w : World) (A : Option Addr) (c : Nat) (L : List ByteArray) (h : Kd.C Kd.string w A L.length L) (hc : L.length ≤ c) (hl : L.length ≤ 10000) : Calls Try.prog 38 #[.slice A L.length c] w (CloneP Kd.string 9 w L) := by
  cases A with
  | none =>
    have h0 : L = [] := by
      rcases L with _ | ⟨x, t⟩
      · rfl
      · obtain ⟨ad, e, _⟩ := h.2.2 (by simp)
        cases e
    subst h0
    clear h hc hl
    have hP := cloneP_nil Kd.string 9 w
    have q46 : ∀ (w : World) (a : Option Addr) (n c n' c' : Nat), (binOp .eql 46 (.slice a n c) (.slice none n' c')).run Try.prog w = .ok (.bool a.isNone) w := fun w a n c n' c' => Lib.run_eql_slice_nil w _ _ a n c n' c' Try.underlying46
    go_enter Try.func38, Try.ntmps38
    go_wp2
    go_ret
    exact hP
  | some ad =>
    obtain ⟨inner, h1, h2, h3⟩ := gather Kd.string h L.length (Nat.le_refl _)
    rw [List.take_length] at h1
    obtain ⟨i0, hi, hz0, hz1, hz2⟩ := info_parts info9
    have H1 := Lib.hid h1
    have H2 := Lib.hid h2
    have H3 := Lib.hid h3
    clear h1 h2 h3 h
    have q46 : ∀ (w : World) (a : Option Addr) (n c n' c' : Nat), (binOp .eql 46 (.slice a n c) (.slice none n' c')).run Try.prog w = .ok (.bool a.isNone) w := fun w a n c n' c' => Lib.run_eql_slice_nil w _ _ a n c n' c' Try.underlying46
    go_enter Try.func38, Try.ntmps38
    go_wp2_with (at_builtin; refine wpList_append_own _ rfl _ _ 46 rfl w.heap.size 9 i0 (.string ⟨#[]⟩) 1 16 Try.underlying46 hi hz0 hz1 hz2 rfl (by decide) _ _ _ rfl (World.ownsRow_made w #[] 0 (Nat.le_refl _) (Nat.zero_le _) rfl) ad L.length c inner rfl ?qc1 ?qc2 ?qc3 ?qc4 ?qc5 ?qc6 ?_)
    case qc1 => exact H1.out.1
    case qc2 => exact fun j u hj => Lib.cell?_alloc_some _ (H2.out j u hj)
    case qc3 => exact H3.out
    case qc4 => unfold maxLen; omega
    case qc5 => omega
    case qc6 => simp
    intro v' w1 hown hgrow hnil
    have HO := Lib.hid hown
    have HB := Lib.hid (((Below.refl w.heap.size w).alloc (Nat.le_refl _) (.cells #[] 9)).grown hgrow (by simp) (by intro k hk; simp [Value.ownBlock] at hk; omega))
    clear hown hgrow hnil
    go_wp2
    go_ret
    refine cloneP_mk HB.out (fun x cs ok hK => ?_) H1.out (by have h := HO.out; exact h)
    exact hK
set_option maxRecDepth 100000 in
set_option maxHeartbeats 2000000 in
theorem clone39 (w : World) (A : Option Addr) (c : Nat) (L : List S65) (h : Kd.C k65 w A L.length L) (hc : L.length ≤ c) (hl : L.length ≤ 10000) : Calls Try.prog 39 #[.slice A L.length c] w (CloneP k65 65 w L) := by
  cases A with
  | none =>
    have h0 : L = [] := by
      rcases L with _ | ⟨x, t⟩
      · rfl
      · obtain ⟨ad, e, _⟩ := h.2.2 (by simp)
        cases e
    subst h0
    clear h hc hl
    have hP := cloneP_nil k65 65 w
    have q63 : ∀ (w : World) (a : Option Addr) (n c n' c' : Nat), (binOp .eql 63 (.slice a n c) (.slice none n' c')).run Try.prog w = .ok (.bool a.isNone) w := fun w a n c n' c' => Lib.run_eql_slice_nil w _ _ a n c n' c' Try.underlying63
    go_enter Try.func39, Try.ntmps39
    go_wp2
    go_ret
    exact hP
  | some ad =>
    obtain ⟨inner, h1, h2, h3⟩ := gather k65 h L.length (Nat.le_refl _)
    rw [List.take_length] at h1
    obtain ⟨i0, hi, hz0, hz1, hz2⟩ := info_parts info65
    have H1 := Lib.hid h1
    have H2 := Lib.hid h2
    have H3 := Lib.hid h3
    clear h1 h2 h3 h
    have q63 : ∀ (w : World) (a : Option Addr) (n c n' c' : Nat), (binOp .eql 63 (.slice a n c) (.slice none n' c')).run Try.prog w = .ok (.bool a.isNone) w := fun w a n c n' c' => Lib.run_eql_slice_nil w _ _ a n c n' c' Try.underlying63
    go_enter Try.func39, Try.ntmps39
    go_wp2_with (at_builtin; refine wpList_append_own _ rfl _ _ 63 rfl w.heap.size 65 i0 (.agg #[.int .i64 0, .string ⟨#[]⟩]) 2 24 Try.underlying63 hi hz0 hz1 hz2 rfl (by decide) _ _ _ rfl (World.ownsRow_made w #[] 0 (Nat.le_refl _) (Nat.zero_le _) rfl) ad L.length c inner rfl ?qc1 ?qc2 ?qc3 ?qc4 ?qc5 ?qc6 ?_)
    case qc1 => exact H1.out.1
    case qc2 => exact fun j u hj => Lib.cell?_alloc_some _ (H2.out j u hj)
    case qc3 => exact H3.out
    case qc4 => unfold maxLen; omega
    case qc5 => omega
    case qc6 => simp
    intro v' w1 hown hgrow hnil
    have HO := Lib.hid hown
    have HB := Lib.hid (((Below.refl w.heap.size w).alloc (Nat.le_refl _) (.cells #[] 65)).grown hgrow (by simp) (by intro k hk; simp [Value.ownBlock] at hk; omega))
    clear hown hgrow hnil
    go_wp2
    go_ret
    refine cloneP_mk HB.out (fun x cs ok hK => ?_) H1.out (by have h := HO.out; exact h)
    have e := k65_open hK
    subst e
    exact k65_mkM _ _ _ _
/-- A clone. -/
def Made (w : World) (D : DK) (e : Ending) (w' : World) : Prop := ∃ g' fp', e = .returned (.pointer (some ⟨g', 0, none⟩)) ∧ Mod [] w w' ∧ (∀ k, fp' k → w.heap.size ≤ k) ∧ Dsk w' fp' g' D
theorem clone_nil (w : World) : Calls Try.prog 26 #[.pointer none] w fun e w' => e = .returned (.pointer none) ∧ w = w' := by
  go_enter Try.func26, Try.ntmps26
  go_wp2
  go_ret
  exact ⟨rfl, rfl⟩
set_option maxRecDepth 100000 in
set_option maxHeartbeats 2000000 in
theorem clone_any (w : World) (fp : Nat → Prop) (g : Nat) (D : DK) (h : Dsk w fp g D) (hl : D.l.length ≤ 10000) (hr : D.row.length ≤ 10000) : Calls Try.prog 26 #[.pointer (some ⟨g, 0, none⟩)] w (Made w D) := by
  obtain ⟨L, R, h1, h2, h3, h4, h5⟩ := h
  obtain ⟨A, c, rfl, hc1, hC1⟩ := Kd.R_reads h2
  obtain ⟨A', c', rfl, hc2, hC2⟩ := Kd.R_reads h3
  have HC1 := Lib.hid hC1
  have HC2 := Lib.hid hC2
  have c0 := (blk_cell h1 0).trans rfl
  have c1 := (blk_cell h1 1).trans rfl
  have c2 := (blk_cell h1 2).trans rfl
  have c3 := (blk_cell h1 3).trans rfl
  have c4 := (blk_cell h1 4).trans rfl
  have HKX := Lib.hid (show (w.alloc (.cells #[.slice A D.l.length c, .slice A' D.row.length c', .int .i64 D.fuse, .bool D.down, .int .i64 D.done] 67)).drew.heap[w.heap.size]? = some (.cells #[.slice A D.l.length c, .slice A' D.row.length c', .int .i64 D.fuse, .bool D.down, .int .i64 D.done] 67) from blk_new w (.cells #[.slice A D.l.length c, .slice A' D.row.length c', .int .i64 D.fuse, .bool D.down, .int .i64 D.done] 67))
  have HMX := Lib.hid (show Mod [] w (w.alloc (.cells #[.slice A D.l.length c, .slice A' D.row.length c', .int .i64 D.fuse, .bool D.down, .int .i64 D.done] 67)).drew from ((Mod.refl [] w).alloc (.cells #[.slice A D.l.length c, .slice A' D.row.length c', .int .i64 D.fuse, .bool D.down, .int .i64 D.done] 67)).drew)
  have HBS := Lib.hid (Nat.le_refl w.heap.size)
  clear h1 h2 h3 h4 h5 hC1 hC2
  go_enter Try.func26, Try.ntmps26
  go_upto_region 4 with fail
  generalize hws : w.heap.size = b at *
  have HWS := Lib.hid hws
  generalize w.alloc (.cells #[.slice A D.l.length c, .slice A' D.row.length c', .int .i64 D.fuse, .bool D.down, .int .i64 D.done] 67) = wx at *
  have c0x := HMX.out.cell c0 (by simp)
  have c1x := HMX.out.cell c1 (by simp)
  clear hws
  refine start_ (n := 14) (S := fun w' => w'.cell? ⟨g, 0, none⟩ = some (.slice A D.l.length c) ∧ w'.cell? ⟨g, 1, none⟩ = some (.slice A' D.row.length c')) (ds := [11, 13]) #[false, false, false, false, false, false, false, false, false, false, false, false, false, false] (by kernel_rfl) rfl rfl ⟨c0x, c1x⟩ (fun hHeld => ?_)
  refine pure_ (i := 0) (N := some 9) (v := ?_) (a' := ?_) #[true, false, false, false, false, false, false, false, false, false, false, false, false, false] rfl rfl (by kernel_rfl) (fun _ _ _ h => h) (Or.inl ⟨by rfl, ?_⟩) ?_ ?_
  rotate_left
  · intro w'
    go_simp
    with_reducible rfl
  rotate_left
  · simp only [Act.put, List.setIfInBounds_toArray, List.set_cons_zero, List.set_cons_succ, i64_w, i32_w]
    rfl
  refine pure_ (i := 1) (N := some 10) (v := ?_) (a' := ?_) #[true, true, false, false, false, false, false, false, false, false, false, false, false, false] rfl rfl (by kernel_rfl) (fun _ _ _ h => h) (Or.inl ⟨by rfl, ?_⟩) ?_ ?_
  rotate_left
  · intro w'
    go_simp
    with_reducible rfl
  rotate_left
  · simp only [Act.put, List.setIfInBounds_toArray, List.set_cons_zero, List.set_cons_succ, i64_w, i32_w]
    rfl
  refine pure_ (i := 2) (N := some 11) (v := ?_) (a' := ?_) #[true, true, true, false, false, false, false, false, false, false, false, false, false, false] rfl rfl (by kernel_rfl) (fun _ _ _ h => h) (Or.inl ⟨by rfl, ?_⟩) ?_ ?_
  rotate_left
  · intro w'
    go_simp
    with_reducible rfl
  rotate_left
  · simp only [Act.put, List.setIfInBounds_toArray, List.set_cons_zero, List.set_cons_succ, i64_w, i32_w]
    rfl
  refine pure_ (i := 5) (N := some 14) (v := ?_) (a' := ?_) #[true, true, true, false, false, true, false, false, false, false, false, false, false, false] rfl rfl (by kernel_rfl) (fun _ _ _ h => h) (Or.inl ⟨by rfl, ?_⟩) ?_ ?_
  rotate_left
  · intro w'
    go_simp
    with_reducible rfl
  rotate_left
  · simp only [Act.put, List.setIfInBounds_toArray, List.set_cons_zero, List.set_cons_succ, i64_w, i32_w]
    rfl
  refine pure_ (i := 6) (N := some 15) (v := ?_) (a' := ?_) #[true, true, true, false, false, true, true, false, false, false, false, false, false, false] rfl rfl (by kernel_rfl) (fun _ _ _ h => h) (Or.inl ⟨by rfl, ?_⟩) ?_ ?_
  rotate_left
  · intro w'
    go_simp
    with_reducible rfl
  rotate_left
  · simp only [Act.put, List.setIfInBounds_toArray, List.set_cons_zero, List.set_cons_succ, i64_w, i32_w]
    rfl
  refine pure_ (i := 7) (N := some 16) (v := ?_) (a' := ?_) #[true, true, true, false, false, true, true, true, false, false, false, false, false, false] rfl rfl (by kernel_rfl) (fun _ _ _ h => h) (Or.inl ⟨by rfl, ?_⟩) ?_ ?_
  rotate_left
  · intro w'
    go_simp
    with_reducible rfl
  rotate_left
  · simp only [Act.put, List.setIfInBounds_toArray, List.set_cons_zero, List.set_cons_succ, i64_w, i32_w]
    rfl
  refine take_ (i := 3) (N := some 12) (v := ?_) (a' := ?_) #[true, true, true, true, false, true, true, true, false, false, false, false, false, false] rfl rfl (by kernel_rfl) (fun _ _ _ h => h) (Or.inl ⟨by rfl, ?_⟩) hHeld ?_ ?_
  rotate_left
  · rintro w' ⟨s0, s1⟩
    go_simp
    with_reducible rfl
  rotate_left
  · simp only [Act.put, List.setIfInBounds_toArray, List.set_cons_zero, List.set_cons_succ, i64_w, i32_w]
    rfl
  refine take_ (i := 8) (N := some 17) (v := ?_) (a' := ?_) #[true, true, true, true, false, true, true, true, true, false, false, false, false, false] rfl rfl (by kernel_rfl) (fun _ _ _ h => h) (Or.inl ⟨by rfl, ?_⟩) hHeld ?_ ?_
  rotate_left
  · rintro w' ⟨s0, s1⟩
    go_simp
    with_reducible rfl
  rotate_left
  · simp only [Act.put, List.setIfInBounds_toArray, List.set_cons_zero, List.set_cons_succ, i64_w, i32_w]
    rfl
  refine one_ (i := 4) (N := some 13) #[true, true, true, true, true, true, true, true, true, false, false, false, false, false] rfl rfl (by kernel_rfl) (by decide) (fun K hK => ?_)
  refine goes_ Try.func38 (by kernel_rfl) rfl #[.slice A D.l.length c] (by rfl) rfl rfl (by simp only [List.map_toArray, List.map_cons, List.map_nil]; rfl) ?_
  with_reducible refine (clone38 _ A c D.l (Kd.C_below HC1.out HMX.out.below0) hc1 hl).mono ?_
  rintro e w5 ⟨v5, rfl, hm5, hr5⟩
  refine ⟨_, rfl, ?_⟩
  obtain ⟨A5, q5, rfl⟩ := Kd.R_slice hr5
  have HR5 := Lib.hid hr5
  have HM5 := Lib.hid (HMX.out.trans0 hm5)
  have hm5s := Lib.hid hm5.size
  have m5 := HM5.out
  clear hr5
  refine hK.out _ _ ⟨m5.cell c0 (by simp), m5.cell c1 (by simp)⟩ (fun hHeld => ?_)
  clear hK K
  refine norm_ (a' := ?_) ?_ ?_
  rotate_left
  · show Act.put _ (some 13) _ = _
    simp only [Act.put, List.setIfInBounds_toArray, List.set_cons_zero, List.set_cons_succ, i64_w, i32_w]
    rfl
  refine one_ (i := 9) (N := some 18) #[true, true, true, true, true, true, true, true, true, true, false, false, false, false] rfl rfl (by kernel_rfl) (by decide) (fun K hK => ?_)
  refine goes_ Try.func39 (by kernel_rfl) rfl #[.slice A' D.row.length c'] (by rfl) rfl rfl (by simp only [List.map_toArray, List.map_cons, List.map_nil]; rfl) ?_
  with_reducible refine (clone39 _ A' c' D.row (Kd.C_below HC2.out HM5.out.below0) hc2 hr).mono ?_
  rintro e w6 ⟨v6, rfl, hm6, hr6⟩
  refine ⟨_, rfl, ?_⟩
  obtain ⟨A6, q6, rfl⟩ := Kd.R_slice hr6
  have HR6 := Lib.hid hr6
  have HM6 := Lib.hid hm6
  have m6 := HM5.out.trans0 hm6
  have k6 := hm6.blk (hm5.blk HKX.out (by simp)) (by simp)
  have t0 := (blk_cell k6 0).trans rfl
  have g0 := blk_frozen k6 0
  have k7 := blk_put k6 0 (.slice A5 D.l.length q5) rfl
  have t1 := (blk_cell k7 1).trans rfl
  have g1 := blk_frozen k7 1
  have HK7 := Lib.hid k7
  clear hr6 k6 k7
  refine hK.out _ _ ⟨m6.cell c0 (by simp), m6.cell c1 (by simp)⟩ (fun hHeld => ?_)
  clear hK K
  refine norm_ (a' := ?_) ?_ ?_
  rotate_left
  · show Act.put _ (some 18) _ = _
    simp only [Act.put, List.setIfInBounds_toArray, List.set_cons_zero, List.set_cons_succ, i64_w, i32_w]
    rfl
  refine pure_ (i := 10) (N := some 19) (v := ?_) (a' := ?_) #[true, true, true, true, true, true, true, true, true, true, true, false, false, false] rfl rfl (by kernel_rfl) (fun _ _ _ h => h) (Or.inl ⟨by rfl, ?_⟩) ?_ ?_
  rotate_left
  · intro w'
    go_simp
    with_reducible rfl
  rotate_left
  · simp only [Act.put, List.setIfInBounds_toArray, List.set_cons_zero, List.set_cons_succ, i64_w, i32_w]
    rfl
  refine last_ (i := 11) (N := none) #[true, true, true, true, true, true, true, true, true, true, true, true, false, false] rfl rfl (by kernel_rfl) (by decide) (fun K hK => ?_)
  refine skip_ (w1 := ?_) (by rfl) rfl ?_ ?_
  rotate_left
  · go_simp
    rfl
  refine hK.out _ _ ?_
  clear hK K
  refine pure_ (i := 12) (N := some 20) (v := ?_) (a' := ?_) #[true, true, true, true, true, true, true, true, true, true, true, true, true, false] rfl rfl (by kernel_rfl) (fun _ _ _ h => h) (Or.inl ⟨by rfl, ?_⟩) ?_ ?_
  rotate_left
  · intro w'
    go_simp
    with_reducible rfl
  rotate_left
  · simp only [Act.put, List.setIfInBounds_toArray, List.set_cons_zero, List.set_cons_succ, i64_w, i32_w]
    rfl
  refine last_ (i := 13) (N := none) #[true, true, true, true, true, true, true, true, true, true, true, true, true, true] rfl rfl (by kernel_rfl) (by decide) (fun K hK => ?_)
  refine skip_ (w1 := ?_) (by rfl) rfl ?_ ?_
  rotate_left
  · go_simp
    rfl
  refine hK.out _ _ ?_
  clear hK K
  refine done_ (by kernel_rfl) ?_
  have hb8 := blk_put HK7.out 1 (.slice A6 D.row.length q6) rfl
  have HE := Lib.hid hb8
  have hbw : w.heap.size ≤ b := Nat.le_of_eq HWS.out
  have HMF := Lib.hid (Mod.setCell (p := ⟨b, 1, none⟩) (Mod.setCell (p := ⟨b, 0, none⟩) (HM5.out.trans0 HM6.out) (.inr hbw) (.slice A5 D.l.length q5)) (.inr hbw) (.slice A6 D.row.length q6))
  clear hb8 t0 t1 g0 g1 c0 c1 c2 c3 c4 hHeld c0x c1x m5 m6 hm5 hm6
  go_wp2
  go_ret
  have hbx : b < wx.drew.heap.size := blk_lt HKX.out
  have hx5 : wx.drew.heap.size ≤ w5.heap.size := hm5s.out
  have hwb : w.heap.size = b := HWS.out
  have h56 := HM6.out.size
  have r5 := Kd.R_far (Kd.R_far (Kd.R_below HR5.out HM6.out.below0) (p := ⟨b, 0, none⟩) (fun k hk => by have := hk.1; show k ≠ b; omega) (.slice A5 D.l.length q5)) (p := ⟨b, 1, none⟩) (fun k hk => by have := hk.1; show k ≠ b; omega) (.slice A6 D.row.length q6)
  have r6 := Kd.R_far (Kd.R_far HR6.out (p := ⟨b, 0, none⟩) (fun k hk => by have := hk.1; show k ≠ b; omega) (.slice A5 D.l.length q5)) (p := ⟨b, 1, none⟩) (fun k hk => by have := hk.1; show k ≠ b; omega) (.slice A6 D.row.length q6)
  have hsz : ((w6.setCell ⟨b, 0, none⟩ (.slice A5 D.l.length q5)).setCell ⟨b, 1, none⟩ (.slice A6 D.row.length q6)).heap.size = w6.heap.size := by simp
  refine ⟨b, fun k => w.heap.size ≤ k ∧ k < ((w6.setCell ⟨b, 0, none⟩ (.slice A5 D.l.length q5)).setCell ⟨b, 1, none⟩ (.slice A6 D.row.length q6)).heap.size, rfl, HMF.out, fun k hk => hk.1, .slice A5 D.l.length q5, .slice A6 D.row.length q6, HE.out, Kd.R_mono r5 (fun k hk => ⟨by omega, by rw [hsz]; omega⟩), Kd.R_mono r6 (fun k hk => ⟨by omega, by rw [hsz]; omega⟩), ⟨hbw, by rw [hsz]; omega⟩, fun k hk => hk.2⟩
end Go.Proofs.Ytcohfbmfmlmblaa
