/- A new disk. -/
import Derived.Test.YtcohfbmfmlmblaaDkOps
set_option linter.unusedVariables false
set_option linter.unusedSimpArgs false
namespace Go.Proofs.Ytcohfbmfmlmblaa
open Go.RowKit Go.Proofs.YtcohfbmfmlmblaaW.PrintWords Go.Proofs.Ytcohfbmfmlmblaa.PDiskPlays Go.Proofs.YtcohfbmfmlmblaaW.PrintLast
def ZERO : ByteArray := strOfNums (List.replicate 128 0)
def newD (n : Nat) : DK := ⟨List.replicate n ZERO, [], -1, false, 0⟩
theorem new_bad (n : Int) (w : World) (h : n < 1 ∨ 2048 < n) : Calls Try.prog 18 #[.int .i64 n] w fun e w' => e = .returned (.tuple #[.pointer none, .int .i64 1]) ∧ w = w' := by
  by_cases h1 : n < 1
  · go_enter Try.func18, Try.ntmps18
    go_wp2
    go_ret2
    exact ⟨rfl, rfl⟩
  · have h2 : 2048 < n := by omega
    go_enter Try.func18, Try.ntmps18
    go_wp2
    go_ret2
    exact ⟨rfl, rfl⟩
def NewPost (w : World) (n : Nat) (e : Ending) (w' : World) : Prop :=
  ∃ g fp, e = .returned (.tuple #[.pointer (some ⟨g, 0, none⟩), .int .i64 0]) ∧ Mod [] w w' ∧ (∀ k, fp k → w.heap.size ≤ k) ∧ Dsk w' fp g (newD n)
set_option maxRecDepth 100000 in
set_option maxHeartbeats 2000000 in
theorem new_any (n : Nat) (w : World) (h0 : 1 ≤ n) (h1 : n ≤ 2048) : Calls Try.prog 18 #[.int .i64 (n : Int)] w (NewPost w n) := by
  have e1 : ¬ (n : Int) < 1 := by omega
  have e2 : ¬ (2048 : Int) < (n : Int) := by omega
  have bx := blk_new w (.cells #[.slice none 0 0, .slice none 0 0, .int .i64 (-1), .bool false, .int .i64 0] 67)
  have hm0 := (Mod.refl [] w).alloc (.cells #[.slice none 0 0, .slice none 0 0, .int .i64 (-1), .bool false, .int .i64 0] 67)
  have hsz := World.size_alloc w (.cells #[.slice none 0 0, .slice none 0 0, .int .i64 (-1), .bool false, .int .i64 0] 67)
  go_enter Try.func18, Try.ntmps18
  go_wp2_with fail
  generalize w.alloc _ = w1 at *
  obtain ⟨g, hg⟩ : ∃ g, w.heap.size = g := ⟨_, rfl⟩
  rw [hg] at bx ⊢
  have HGG := Lib.hid hg
  have HBX := Lib.hid bx
  have HM0 := Lib.hid hm0
  clear hg bx hm0 hsz
  go_loopw [14] (fun iv wr => ∃ (k : Nat) (A : Option Addr) (c : Nat), iv = .int .i64 (k : Int) ∧ k ≤ n ∧ wr.heap[g]? = some (.cells #[.slice A k c, .slice none 0 0, .int .i64 (-1), .bool false, .int .i64 0] 67 (0, 0)) ∧ Kd.R Kd.string 9 wr 0 (fun q => w.heap.size ≤ q) (.slice A k c) (List.replicate k ZERO) ∧ Mod [] w wr) (fun iv _ => n - (intOf iv).toNat)
  case atStart => exact ⟨0, none, 0, rfl, Nat.zero_le _, HBX.out, Kd.R_nil _ _ _ _ _, HM0.out⟩
  case round =>
    obtain ⟨k, A, c, rfl, hk, hbx, ho, hm⟩ := hrel
    by_cases hlt : k < n
    · have hlt2 : (k : Int) < (n : Int) := by omega
      have u0 := (blk_cell hbx 0).trans rfl
      have hgl0 := blk_lt hbx
      have HG0 := Lib.hid hbx
      have HO0 := Lib.hid ho
      have HM1 := Lib.hid hm
      clear hbx ho hm
      go_upto_region 6 with fail
      have HG := Lib.hid (show wr.drew.heap[g]? = some (.cells #[.slice A k c, .slice none 0 0, .int .i64 (-1), .bool false, .int .i64 0] 67 (0, 0)) from HG0.out)
      have HO := Lib.hid (Kd.R_drew HO0.out)
      have HM := Lib.hid HM1.out.drew
      have hgl : g < wr.drew.heap.size := hgl0
      clear HG0 HO0 HM1 hgl0
      refine start_ (n := 12) (S := fun w' => w'.cell? ⟨g, 0, none⟩ = some (.slice A k c)) (ds := [11]) #[false, false, false, false, false, false, false, false, false, false, false, false] (by kernel_rfl) rfl rfl (u0) (fun hHeld => ?_)
      generalize wr.drew = W at *
      refine pure_ (i := 0) (N := some 16) (v := ?_) (a' := ?_) #[true, false, false, false, false, false, false, false, false, false, false, false] rfl rfl (by kernel_rfl) (fun _ _ _ h => h) (Or.inl ⟨by rfl, ?_⟩) ?_ ?_
      rotate_left
      · intro w'
        go_simp
        with_reducible rfl
      rotate_left
      · simp only [Act.put, List.setIfInBounds_toArray, List.set_cons_zero, List.set_cons_succ, i64_w, i32_w]
        rfl
      refine pure_ (i := 1) (N := some 17) (v := ?_) (a' := ?_) #[true, true, false, false, false, false, false, false, false, false, false, false] rfl rfl (by kernel_rfl) (fun _ _ _ h => h) (Or.inl ⟨by rfl, ?_⟩) ?_ ?_
      rotate_left
      · intro w'
        go_simp
        with_reducible rfl
      rotate_left
      · simp only [Act.put, List.setIfInBounds_toArray, List.set_cons_zero, List.set_cons_succ, i64_w, i32_w]
        rfl
      refine pure_ (i := 2) (N := some 18) (v := ?_) (a' := ?_) #[true, true, true, false, false, false, false, false, false, false, false, false] rfl rfl (by kernel_rfl) (fun _ _ _ h => h) (Or.inl ⟨by rfl, ?_⟩) ?_ ?_
      rotate_left
      · intro w'
        go_simp
        with_reducible rfl
      rotate_left
      · simp only [Act.put, List.setIfInBounds_toArray, List.set_cons_zero, List.set_cons_succ, i64_w, i32_w]
        rfl
      refine pure_ (i := 3) (N := some 19) (v := ?_) (a' := ?_) #[true, true, true, true, false, false, false, false, false, false, false, false] rfl rfl (by kernel_rfl) (fun _ _ _ h => h) (Or.inl ⟨by rfl, ?_⟩) ?_ ?_
      rotate_left
      · intro w'
        go_simp
        with_reducible rfl
      rotate_left
      · simp only [Act.put, List.setIfInBounds_toArray, List.set_cons_zero, List.set_cons_succ, i64_w, i32_w]
        rfl
      refine take_ (i := 4) (N := some 20) (v := ?_) (a' := ?_) #[true, true, true, true, true, false, false, false, false, false, false, false] rfl rfl (by kernel_rfl) (fun _ _ _ h => h) (Or.inl ⟨by rfl, ?_⟩) hHeld ?_ ?_
      rotate_left
      · intro w' s0
        go_simp
        with_reducible rfl
      rotate_left
      · simp only [Act.put, List.setIfInBounds_toArray, List.set_cons_zero, List.set_cons_succ, i64_w, i32_w]
        rfl
      refine one_ (i := 5) (N := some 21) #[true, true, true, true, true, true, false, false, false, false, false, false] rfl rfl (by kernel_rfl) (by decide) (fun K hK => ?_)
      refine Kd.R_make_step (Kd.int .u8) (w0 := W) 0 5 (by rfl) (N := 21) rfl 68 _ _ rfl 128 rfl rfl Try.underlying68 (.int .u8 0) 1 info5 rfl (by decide) (by omega) 0 (ok := fun _ => True) (okp := fun _ => True) rfl (fun _ hk => hk) trivial (by omega) (by omega) (Below.refl _ _) (Nat.zero_le _) ?_
      intro v5 w5 ho5 hb5 hg5 hn5
      obtain ⟨A5, k5, rfl, hc5, hr5⟩ := Kd.R_reads ho5
      simp only [Int.reduceToNat, List.length_replicate] at hr5 ⊢
      have hcv := Kd.C_string (src := 68) (dst := 9) (c := k5) Try.underlying68 Try.underlying5 Try.underlying9 hr5
      have G5 := (hg5.block g hgl (by simp)).trans HG.out
      have O5 := Kd.R_grown HO.out hg5 (fun _ _ => by simp)
      have M5 := HM.out.trans0 (Mod.of_grown hg5)
      refine hK.out _ _ ((blk_cell G5 0).trans rfl) (fun hHeld => ?_)
      clear hK K
      refine norm_ (a' := ?_) ?_ ?_
      rotate_left
      · show Act.put _ (some 21) _ = _
        simp only [Act.put, List.setIfInBounds_toArray, List.set_cons_zero, List.set_cons_succ, i64_w, i32_w]
        rfl
      refine one_ (i := 6) (N := some 22) #[true, true, true, true, true, true, true, false, false, false, false, false] rfl rfl (by kernel_rfl) (by decide) (fun K hK => ?_)
      refine value_ (w1 := ?_) (v := ?_) (by rfl) rfl ?_ ?_
      rotate_left 2
      · go_simp
        constructor
        · rfl
        · rfl
      refine hK.out _ _ ((blk_cell G5 0).trans rfl) (fun hHeld => ?_)
      clear hK K
      refine norm_ (a' := ?_) ?_ ?_
      rotate_left
      · show Act.put _ (some 22) _ = _
        simp only [Act.put, List.setIfInBounds_toArray, List.set_cons_zero, List.set_cons_succ, i64_w, i32_w]
        rfl
      refine one_ (i := 7) (N := some 23) #[true, true, true, true, true, true, true, true, false, false, false, false] rfl rfl (by kernel_rfl) (by decide) (fun K hK => ?_)
      refine value_ (w1 := ?_) (v := ?_) (by rfl) rfl ?_ ?_
      rotate_left 2
      · go_simp
        constructor
        · rfl
        · rfl
      refine hK.out _ _ ((blk_cell (blk_old G5 _) 0).trans rfl) (fun hHeld => ?_)
      clear hK K
      refine norm_ (a' := ?_) ?_ ?_
      rotate_left
      · show Act.put _ (some 23) _ = _
        simp only [Act.put, List.setIfInBounds_toArray, List.set_cons_zero, List.set_cons_succ, i64_w, i32_w]
        rfl
      refine one_ (i := 8) (N := some 24) #[true, true, true, true, true, true, true, true, true, false, false, false] rfl rfl (by kernel_rfl) (by decide) (fun K hK => ?_)
      refine Kd.R_append_step Kd.string (w0 := w5) 0 (by rfl) (.tmp 20) (.tmp 23) 46 9 (.string ⟨#[]⟩) 16 rfl Try.underlying46 info9 rfl (by decide) (by omega) (.slice A k c) (List.replicate k ZERO) ZERO [.string ZERO] (fun q => w.heap.size ≤ q) (fun _ => False) rfl rfl rfl (fun _ hk => hk.elim) (fun q hq => Nat.le_trans M5.size hq) O5 (Below.refl _ _) (Nat.zero_le _) (by rw [List.length_replicate]; omega) ?_
      intro v8 w8 ho8 hb8 hg8 hat8
      obtain ⟨A8, k8, rfl⟩ := Kd.R_slice ho8
      have G8 := (hg8.block g (blk_lt G5) (Kd.R_ne O5 G5 (by decide))).trans G5
      have z8 := (blk_cell G8 0).trans rfl
      have f8 := blk_frozen G8 0
      rw [List.length_append, List.length_replicate, List.length_singleton] at ho8 ⊢
      refine hK.out _ _ ((blk_cell G8 0).trans rfl) (fun hHeld => ?_)
      clear hK K
      refine norm_ (a' := ?_) ?_ ?_
      rotate_left
      · show Act.put _ (some 24) _ = _
        simp only [Act.put, List.setIfInBounds_toArray, List.set_cons_zero, List.set_cons_succ, i64_w, i32_w]
        rfl
      refine pure_ (i := 9) (N := some 25) (v := ?_) (a' := ?_) #[true, true, true, true, true, true, true, true, true, true, false, false] rfl rfl (by kernel_rfl) (fun _ _ _ h => h) (Or.inl ⟨by rfl, ?_⟩) ?_ ?_
      rotate_left
      · intro w'
        go_simp
        with_reducible rfl
      rotate_left
      · simp only [Act.put, List.setIfInBounds_toArray, List.set_cons_zero, List.set_cons_succ, i64_w, i32_w]
        rfl
      refine pure_ (i := 10) (N := some 26) (v := ?_) (a' := ?_) #[true, true, true, true, true, true, true, true, true, true, true, false] rfl rfl (by kernel_rfl) (fun _ _ _ h => h) (Or.inl ⟨by rfl, ?_⟩) ?_ ?_
      rotate_left
      · intro w'
        go_simp
        with_reducible rfl
      rotate_left
      · simp only [Act.put, List.setIfInBounds_toArray, List.set_cons_zero, List.set_cons_succ, i64_w, i32_w]
        rfl
      refine last_ (i := 11) (N := none) #[true, true, true, true, true, true, true, true, true, true, true, true] rfl rfl (by kernel_rfl) (by decide) (fun K hK => ?_)
      refine skip_ (w1 := ?_) (by rfl) rfl ?_ ?_
      rotate_left
      · go_simp
        rfl
      refine hK.out _ _ ?_
      clear hK K
      refine done_ (by kernel_rfl) ?_
      have hb9 := blk_put G8 0 (.slice A8 (k + 1) k8) rfl
      have hm8 : Mod [] w w8 := M5.trans (Mod.of_grown hg8) (fun t ht => .inr (O5.1 t (by simpa using ht)))
      have hm9 := hm8.setCell (p := ⟨g, 0, none⟩) (.inr (by rw [HGG.out]; exact Nat.le_refl _)) (.slice A8 (k + 1) k8)
      have ho9 := Kd.R_set ho8 G8 (fun q hq => by simp [Kd.string, Kd.scalar] at hq; omega) 0 (.slice A8 (k + 1) k8)
      rw [← List.replicate_succ'] at ho9
      have HE := Lib.hid (And.intro hb9 (And.intro ho9 hm9))
      generalize w8.setCell ⟨g, 0, none⟩ (.slice A8 (k + 1) k8) = w9 at *
      clear hb9 hm8 hm9 ho9 z8 f8 hHeld hat8 ho8 hg8 hb8 G8 hn5 hc5 hr5 hcv G5 O5 M5 hg5 hb5 ho5 HG HO HM
      go_wp2
      go_roundw
      case rel => exact ⟨k + 1, A8, k8, by go_num, by omega, HE.out.1, HE.out.2.1, HE.out.2.2⟩
      case measure => simp [intOf]; omega
    · obtain rfl : k = n := by omega
      have HE := Lib.hid (And.intro hbx (And.intro ho hm))
      clear hbx ho hm
      go_wp2
      go_ret2
      refine ⟨g, fun q => w.heap.size ≤ q ∧ q < wr.heap.size, rfl, HE.out.2.2, fun q hq => hq.1, .slice A k c, .slice none 0 0, HE.out.1, ?_, Kd.R_nil _ _ _ _ _, ⟨Nat.le_of_eq HGG.out, blk_lt HE.out.1⟩, fun q hq => hq.2⟩
      exact Kd.R_mono (Kd.R_bound HE.out.2.1) (fun q hq => ⟨hq.1, hq.2.2.1⟩)
end Go.Proofs.Ytcohfbmfmlmblaa
