/- The document's checksum, bit by bit: its functions come to the same register as the program's. -/
import Derived.Test.YtdkmkiiaklkcgaaCrcMath
import Derived.StillTailTactics
import Derived.Deep.RegionHeld3
set_option linter.unusedVariables false
set_option linter.unusedSimpArgs false
namespace Go.Proofs.Ytdkmkiiaklkcgaa
open Go.RowKit Go.Proofs.YtdkmkiiaklkcgaaW.PrintWords
theorem blk_new2 (w : World) (o o' : Obj) : ((w.alloc o).alloc o').heap[w.heap.size + 1]? = some o' := by
  have := blk_new (w.alloc o) o'
  rwa [World.size_alloc] at this
def bl (l : List Bool) : Array Value := (l.map Value.bool).toArray
theorem bl_size (l : List Bool) : (bl l).size = l.length := by simp [bl]
theorem bl_set (l : List Bool) (i : Nat) (b : Bool) : (bl l).setIfInBounds i (.bool b) = bl (l.set i b) := by simp [bl, List.map_set]
theorem bl_at {w : World} {g : Nat} {t : TypeId} {l : List Bool} (h : w.heap[g]? = some (.cells (bl l) t (0, 0))) (i : Nat) (hi : i < l.length) : w.cell? ⟨g, i, none⟩ = some (.bool (l.getD i false)) := by
  rw [blk_cell h]; simp [bl, List.getD_eq_getElem?_getD, hi]
theorem bl_store {w : World} {g : Nat} {t : TypeId} {l : List Bool} (h : w.heap[g]? = some (.cells (bl l) t (0, 0))) (i : Nat) (b : Bool) : (w.setCell ⟨g, i, none⟩ (.bool b)).heap[g]? = some (.cells (bl (l.set i b)) t (0, 0)) := by
  rw [blk_set h, bl_set]
theorem pow_half (x k : Nat) : x / 2 ^ k / 2 = x / 2 ^ (k + 1) := by rw [Nat.div_div_eq_div_mul, ← Nat.pow_succ]
theorem refbit_any (x i : Nat) (w : World) (hx : x < 4294967296) (hi : i < 64) :
    Calls Try.prog 48 #[.int .u32 x, .int .i64 i] w fun e w' => e = .returned (.bool (x.testBit i)) ∧ w = w' := by
  go_enter Try.func48, Try.ntmps48
  go_wp2
  go_loop [0, 1] (fun t i' => ∃ k j : Nat, k + j = i ∧ i' = .int .i64 j ∧ t = .int .u32 (x / 2 ^ k : Nat)) (fun _ i => (intOf i).toNat)
  case atStart => exact ⟨0, i, by omega, rfl, by simp⟩
  case round =>
    obtain ⟨k, j, hk, rfl, rfl⟩ := hrel
    have hle : x / 2 ^ k ≤ x := Nat.div_le_self _ _
    obtain ⟨y, hy⟩ : ∃ y, x / 2 ^ k = y := ⟨_, rfl⟩
    rw [hy] at hle ⊢
    have HY := Lib.hid hy
    have HK := Lib.hid hk
    have hj : j < 64 := by omega
    clear hy hk
    by_cases hlt : 0 < j
    · have h1 : (1 : Int) ≤ j := by omega
      go_wp2
      go_round
      case rel => exact ⟨k + 1, j - 1, by have := HK.out; omega, by congr 1; omega, by rw [← pow_half, HY.out]; congr 1⟩
      case measure => simp [intOf]; omega
    · have : j = 0 := by omega
      subst this
      have hk : k = i := by have := HK.out; omega
      have HT := Lib.hid (show x.testBit i = ((y : Int) % 2 == 1) by
        rw [Nat.testBit_eq_decide_div_mod_eq, ← hk, HY.out]
        by_cases h : y % 2 = 1
        · rw [h]; simp; omega
        · have h2 : y % 2 = 0 := by omega
          rw [h2, eq_comm, beq_eq_false_iff_ne.2 (by omega)]; simp)
      clear hk
      go_wp2
      go_ret
      exact ⟨by rw [HT.out]; rfl, rfl⟩
/-- A register's bits. -/
def bits32 (f : Nat → Bool) : List Bool := (List.range 32).map f
theorem bits32_len (f : Nat → Bool) : (bits32 f).length = 32 := by simp [bits32]
theorem bits32_at (f : Nat → Bool) (i : Nat) (h : i < 32) : (bits32 f).getD i false = f i := by simp [bits32, List.getD_eq_getElem?_getD, h]
theorem bits32_set (f : Nat → Bool) (i : Nat) (b : Bool) : (bits32 f).set i b = bits32 (fun j => if j = i then b else f j) := by
  apply List.ext_getElem
  · simp [bits32]
  · intro n h1 h2
    simp only [bits32, List.getElem_set, List.getElem_map, List.getElem_range]
    by_cases h : i = n
    · rw [if_pos h, if_pos h.symm]
    · rw [if_neg h, if_neg (fun e => h e.symm)]
theorem size60 : (Try.prog.info? 60).map (·.size) = some 32 := by kernel_rfl
theorem info60 (f : Nat → Bool) : (Try.prog.info? 60).map (·.size) = some (bl (bits32 f)).size := by rw [bl_size, bits32_len]; exact size60
theorem bl_same (f g : Nat → Bool) : (bl (bits32 f)).size = (bl (bits32 g)).size := by rw [bl_size, bl_size, bits32_len, bits32_len]
theorem bl_one (l : List Bool) : (bl l).all (·.oneCell') = true := by
  rw [Array.all_eq_true_iff_forall_mem]
  intro v hv
  simp only [bl, List.mem_toArray, List.mem_map] at hv
  obtain ⟨b, _, rfl⟩ := hv
  rfl
theorem refOf_any (x : Nat) (w : World) (hx : x < 4294967296) :
    Calls Try.prog 35 #[.int .u32 x] w fun e w' => e = .returned (.agg (bl (bits32 fun i => !x.testBit i))) ∧ Mod [] w w' := by
  have hm0 := ((Mod.refl [] w).alloc (.cells (bl (bits32 fun _ => false)) 60)).alloc (.cells (bl (bits32 fun _ => false)) 60)
  have hb0 := blk_old (blk_new w (.cells (bl (bits32 fun _ => false)) 60)) (.cells (bl (bits32 fun _ => false)) 60)
  have hb1 := blk_new2 w (.cells (bl (bits32 fun _ => false)) 60) (.cells (bl (bits32 fun _ => false)) 60)
  have H0 := Lib.hid hb0
  have H1 := Lib.hid hb1
  have HM := Lib.hid hm0
  clear hb0 hb1 hm0
  go_enter Try.func35, Try.ntmps35
  go_wp2
  go_loopw [4] (fun i wr => ∃ k : Nat, k ≤ 32 ∧ i = .int .i64 k ∧ Mod [] w wr ∧ wr.heap[w.heap.size]? = some (.cells (bl (bits32 fun _ => false)) 60 (0, 0)) ∧ wr.heap[w.heap.size + 1]? = some (.cells (bl (bits32 fun i => decide (i < k) && !x.testBit i)) 60 (0, 0))) (fun i _ => 32 - (intOf i).toNat)
  case atStart => exact ⟨0, by omega, rfl, HM.out, H0.out, by
    rw [show (fun i => decide (i < 0) && !x.testBit i) = fun _ => false from funext fun i => by simp]; exact H1.out⟩
  case round =>
    obtain ⟨k, hk, rfl, hm, hb0, hb1⟩ := hrel
    clear H0 H1 HM
    by_cases hlt : k < 32
    · have hc := bl_at hb1 k (by rw [bits32_len]; omega)
      have hf := blk_frozen hb1 k
      have HB0 := Lib.hid hb0
      have HB1 := Lib.hid hb1
      clear hb0 hb1
      go_wp2_with (go_at_call 48; refine (refbit_any _ _ _ hx (by omega)).mono ?_; rintro e w1 ⟨rfl, rfl⟩)
      go_roundw
      case rel => 
        refine ⟨k + 1, by omega, by go_num, hm.setCell (by simp) _, by rw [blk_far HB0.out (by simp)], ?_⟩
        rw [bl_store HB1.out, bits32_set]
        congr 5
        funext i
        by_cases h : i = k
        · subst h; simp
        · rw [if_neg h]; congr 1; rw [decide_eq_decide]; omega
      case measure => simp [intOf]; omega
    · have : k = 32 := by omega
      subst this
      have HB0 := Lib.hid hb0
      have HB1 := Lib.hid hb1
      clear hb0 hb1
      have he : (bits32 fun i => decide (i < 32) && !x.testBit i) = bits32 fun i => !x.testBit i := by
        unfold bits32
        refine List.map_congr_left fun i hi => ?_
        rw [List.mem_range] at hi
        simp [hi]
      rw [he] at HB1
      go_wp2_with (first | (refine wpList_load_row rfl 60 (.tmp 3) rfl (w.heap.size + 1) rfl 60 _ (0, 0) _ HB1.out Try.underlying60 rfl (info60 _) ?_) | (refine wpList_store_row rfl 60 (.tmp 2) (.tmp 15) rfl w.heap.size _ rfl rfl 60 _ HB0.out (info60 _) (bl_same _ _) (bl_one _) ?_))
      refine bodyPost_ret (results_cell_row rfl _ _ w.heap.size 60 _ (0, 0) _ rfl (setRow_heap _ _ _ _ _ _ HB0.out) Try.underlying60 rfl (info60 _)) rfl ⟨rfl, ?_⟩
      exact hm.setRow (.inr (Nat.le_refl _)) _
/-- A register of 32 bits at a block. -/
def Arr (w : World) (g : Nat) (f : Nat → Bool) : Prop := w.heap[g]? = some (.cells (bl (bits32 f)) 60 (0, 0))
theorem Arr.cell {w : World} {g : Nat} {f : Nat → Bool} (h : Arr w g f) (i : Nat) (hi : i < 32) : w.cell? ⟨g, i, none⟩ = some (.bool (f i)) := by
  rw [bl_at h i (by rw [bits32_len]; exact hi), bits32_at f i hi]
theorem Arr.frozen {w : World} {g : Nat} {f : Nat → Bool} (h : Arr w g f) (i : Nat) : w.frozen? ⟨g, i, none⟩ = false := blk_frozen h i
theorem Arr.set {w : World} {g : Nat} {f : Nat → Bool} (h : Arr w g f) (i : Nat) (b : Bool) {f' : Nat → Bool} (hf : ∀ j, j < 32 → f' j = if j = i then b else f j) : Arr (w.setCell ⟨g, i, none⟩ (.bool b)) g f' := by
  unfold Arr
  rw [bl_store h, bits32_set]
  have : bits32 (fun j => if j = i then b else f j) = bits32 f' := List.map_congr_left fun j hj => (hf j (List.mem_range.1 hj)).symm
  rw [this]
theorem Arr.far {w : World} {g : Nat} {f : Nat → Bool} (h : Arr w g f) {p : Addr} (hp : g ≠ p.block) (u : Value) : Arr (w.setCell p u) g f := blk_far h hp u
theorem Arr.new (w : World) (f : Nat → Bool) : Arr (w.alloc (.cells (bl (bits32 f)) 60)) w.heap.size f := blk_new w _
theorem Arr.old {w : World} {g : Nat} {f : Nat → Bool} (h : Arr w g f) (o : Obj) : Arr (w.alloc o) g f := blk_old h o
theorem Arr.congr {w : World} {g : Nat} {f f' : Nat → Bool} (h : Arr w g f) (hf : ∀ j, j < 32 → f' j = f j) : Arr w g f' := by
  have : bits32 f' = bits32 f := List.map_congr_left fun j hj => hf j (List.mem_range.1 hj)
  unfold Arr; rw [this]; exact h
theorem Arr.lt {w : World} {g : Nat} {f : Nat → Bool} (h : Arr w g f) : g < w.heap.size := blk_lt h
theorem step_bit (f : Nat → Bool) (x k j : Nat) : (if j = k then (f k ^^ (decide (k < k) && x.testBit k)) != x.testBit k else (f j ^^ (decide (j < k) && x.testBit j))) = (f j ^^ (decide (j < k + 1) && x.testBit j)) := by
  by_cases h : j = k
  · subst h; simp
  · rw [if_neg h]; congr 2; rw [decide_eq_decide]; omega
theorem refStep_any (R c : Nat) (w : World) (hR : R < 4294967296) (hc : c < 256) :
    Calls Try.prog 36 #[.agg (bl (bits32 fun i => R.testBit i)), .int .u8 c] w fun e w' => e = .returned (.agg (bl (bits32 fun i => (feed R (fun i => c.testBit i) 8).testBit i))) ∧ Mod [] w w' := by
  have H0 := (Arr.new w (fun i => R.testBit i)).old (.cells (bl (bits32 fun _ => false)) 60)
  have H1 : Arr ((w.alloc (.cells (bl (bits32 fun i => R.testBit i)) 60)).alloc (.cells (bl (bits32 fun _ => false)) 60)) (w.heap.size + 1) (fun _ => false) := blk_new2 _ _ _
  have hm0 := ((Mod.refl [] w).alloc (.cells (bl (bits32 fun i => R.testBit i)) 60)).alloc (.cells (bl (bits32 fun _ => false)) 60)
  have HM := Lib.hid hm0
  clear hm0
  generalize hbl : bl (bits32 fun i => R.testBit i) = rb at *
  go_enter Try.func36, Try.ntmps36
  go_wp2
  go_loopw [5] (fun i wr => ∃ k : Nat, k ≤ 8 ∧ i = .int .i64 k ∧ Mod [] w wr ∧ Arr wr w.heap.size (fun i => R.testBit i ^^ (decide (i < k) && c.testBit i)) ∧ Arr wr (w.heap.size + 1) (fun _ => false)) (fun i _ => 8 - (intOf i).toNat)
  case atStart => exact ⟨0, by omega, rfl, HM.out, H0.congr fun j _ => by simp, H1⟩
  case round =>
    obtain ⟨k, hk, rfl, hm, hA, hB⟩ := hrel
    clear H0 H1 HM
    by_cases hlt : k < 8
    · have hc := hA.cell k (by omega)
      have hf := hA.frozen k
      go_wp2
      have k8 : (k : Int) < 32 := by omega
      have wc : IntKind.u32.wrap (c : Int) = c := by rw [IntKind.wrap_u32]; omega
      refine wp_region_still_tail 9 (by kernel_rfl) (by kernel_rfl) ?_
      simp only [List.take_succ_cons, List.take_zero, List.drop_succ_cons, List.drop_zero]
      repeat still_step
      still_call ((refbit_any c k _ (by omega) (by omega)).mono fun _ _ ⟨h1, h2⟩ => ⟨h1, h2.symm⟩)
      still_step
      refine wpStill_nil ?_
      go_wp2
      go_roundw
      case rel =>
        refine ⟨k + 1, by omega, by go_num, (hm.setCell (by simp) _).drew, ?_, ?_⟩
        · exact hA.set k _ (fun j _ => by
            by_cases h : j = k
            · subst h; simp; cases R.testBit j <;> cases c.testBit j <;> rfl
            · rw [if_neg h]; congr 2; rw [decide_eq_decide]; omega)
        · exact hB.far (by simp) _
      case measure => simp [intOf]; omega
    · have hk8 : k = 8 := by omega
      subst hk8
      have hA2 : Arr wr w.heap.size (fun i => (Ls 0 (R ^^^ c)).testBit i) := hA.congr fun j _ => by
        rw [Ls, Nat.testBit_xor]
        by_cases h : j < 8
        · simp [h]
        · have : c.testBit j = false := Nat.testBit_lt_two_pow (by
            have := Nat.pow_le_pow_right (n := 2) (by decide) (show 8 ≤ j by omega)
            omega)
          rw [this]; simp
      clear hA
      have HM := Lib.hid hm
      clear hm
      go_wp2
      go_loopw [6] (fun i wr => ∃ k : Nat, k ≤ 8 ∧ i = .int .i64 k ∧ Mod [] w wr ∧ Arr wr w.heap.size (fun i => (Ls k (R ^^^ c)).testBit i) ∧ Arr wr (w.heap.size + 1) (fun _ => false)) (fun i _ => 8 - (intOf i).toNat)
      case atStart => exact ⟨0, by omega, rfl, HM.out, hA2, hB⟩
      case round =>
        clear hA2 hB HM
        obtain ⟨k, hk, rfl, hm, hA, hB⟩ := hrel
        by_cases hlt : k < 8
        · have hlt' : (k : Int) < 8 := by omega
          have hT : R ^^^ c < 4294967296 := Nat.xor_lt_two_pow (n := 32) hR (by omega)
          have hT2 := Ls_lt k hT
          have HL := Lib.hid (show Ls (k + 1) (R ^^^ c) = L (Ls k (R ^^^ c)) from rfl)
          generalize Ls k (R ^^^ c) = T at hA hT2 HL
          obtain ⟨wo, rfl⟩ : ∃ wo : World, wo = wr := ⟨_, rfl⟩
          have hc0 := hA.cell 0 (by omega)
          obtain ⟨o, ho⟩ : ∃ o, T.testBit 0 = o := ⟨_, rfl⟩
          rw [ho] at hc0
          have HO := Lib.hid ho
          clear ho
          have hm1 := hm.alloc (.cells (bl (bits32 fun _ => false)) 60)
          have hA1 := hA.old (.cells (bl (bits32 fun _ => false)) 60)
          have hB1 := hB.old (.cells (bl (bits32 fun _ => false)) 60)
          have hN1 := Arr.new wo (fun _ => false)
          have hlA := hA.lt
          have hlB := hB.lt
          clear hA hB hm
          have HM := Lib.hid hm1
          clear hm1
          go_wp2
          go_loopw [9] (fun i wr => ∃ j : Nat, j ≤ 31 ∧ i = .int .i64 j ∧ Mod [] w wr ∧ Arr wr w.heap.size (fun i => T.testBit i) ∧ Arr wr (w.heap.size + 1) (fun _ => false) ∧ Arr wr wo.heap.size (fun i => decide (i < j) && T.testBit (i + 1))) (fun i _ => 31 - (intOf i).toNat)
          case atStart => exact ⟨0, by omega, rfl, HM.out, hA1, hB1, hN1.congr fun j _ => by simp⟩
          case round =>
            clear hA1 hB1 hN1 HM hc0
            obtain ⟨j, hj, rfl, hm, hA, hB, hN⟩ := hrel
            by_cases hjt : j < 31
            · have hc1 := hA.cell (j + 1) (by omega)
              have hc2 := hN.cell j (by omega)
              have hf2 := hN.frozen j
              go_wp2
              go_roundw
              case rel =>
                refine ⟨j + 1, by omega, by go_num, hm.setCell (.inr (by simp; omega)) _, hA.far (by simp; omega) _, hB.far (by simp; omega) _, hN.set j _ fun i _ => ?_⟩
                by_cases h : i = j
                · subst h; simp
                · rw [if_neg h]; congr 1; rw [decide_eq_decide]; omega
              case measure => simp [intOf]; omega
            · have hj31 : j = 31 := by omega
              subst hj31
              have HM := Lib.hid hm
              clear hm
              go_wp2
              go_loopw [10] (fun i wr => ∃ j : Nat, j ≤ 32 ∧ i = .int .i64 j ∧ Mod [] w wr ∧ Arr wr w.heap.size (fun i => T.testBit i) ∧ Arr wr (w.heap.size + 1) (fun _ => false) ∧ Arr wr wo.heap.size (fun i => (decide (i < 31) && T.testBit (i + 1)) ^^ (decide (i < j) && o && poly.testBit i))) (fun i _ => 32 - (intOf i).toNat)
              case atStart => exact ⟨0, by omega, rfl, HM.out, hA, hB, hN.congr fun j _ => by simp⟩
              case round =>
                clear hA hB hN HM
                obtain ⟨j, hj, rfl, hm, hA, hB, hN⟩ := hrel
                by_cases hjt : j < 32
                · have hc2 := hN.cell j (by omega)
                  have hf2 := hN.frozen j
                  have j32 : (j : Int) < 32 := by omega
                  have e1 : (decide (j < j)) = false := by simp
                  rw [e1, Bool.false_and, Bool.false_and, Bool.xor_false] at hc2
                  clear e1
                  obtain ⟨b, hb⟩ : ∃ b, (decide (j < 31) && T.testBit (j + 1)) = b := ⟨_, rfl⟩
                  rw [hb] at hc2
                  have HBb := Lib.hid hb
                  clear hb
                  go_wp2
                  refine wp_region_still_tail 10 (by kernel_rfl) (by kernel_rfl) ?_
                  simp only [List.take_succ_cons, List.take_zero, List.drop_succ_cons, List.drop_zero]
                  cases o with
                  | true =>
                    repeat still_step
                    still_call ((refbit_any poly j _ (by decide) (by omega)).mono fun _ _ ⟨h1, h2⟩ => ⟨h1, h2.symm⟩)
                    repeat still_step
                    refine wpStill_nil ?_
                    go_wp2
                    go_roundw
                    case rel =>
                      repeat apply Exists.intro
                      refine ⟨⟨j + 1, by omega, by go_num, (hm.setCell (.inr (by simp; omega)) _).drew, hA.far (by simp; omega) _, hB.far (by simp; omega) _, ?_⟩, rfl⟩
                      refine hN.set j _ fun i _ => ?_
                      by_cases h : i = j
                      · subst h; rw [HBb.out]; simp; cases b <;> cases poly.testBit i <;> rfl
                      · rw [if_neg h]; congr 3; rw [decide_eq_decide]; omega
                    case measure => simp [intOf]; omega
                  | false =>
                    repeat still_step
                    refine wpStill_nil ?_
                    go_wp2
                    go_roundw
                    case rel =>
                      repeat apply Exists.intro
                      refine ⟨⟨j + 1, by omega, by go_num, (hm.setCell (.inr (by simp; omega)) _).drew, hA.far (by simp; omega) _, hB.far (by simp; omega) _, ?_⟩, rfl⟩
                      refine hN.set j _ fun i _ => ?_
                      by_cases h : i = j
                      · subst h; rw [HBb.out]; simp
                      · rw [if_neg h]; simp
                    case measure => simp [intOf]; omega
                · have hj32 : j = 32 := by omega
                  subst hj32
                  have hN' : Arr wr wo.heap.size (fun i => (Ls (k + 1) (R ^^^ c)).testBit i) := hN.congr fun i hi => by
                    rw [HL.out, L, Nat.testBit_xor, Nat.testBit_div_two]
                    have h31 : (decide (i < 31) && T.testBit (i + 1)) = T.testBit (i + 1) := by
                      by_cases h : i < 31
                      · simp [h]
                      · have : i = 31 := by omega
                        subst this
                        have : T.testBit (31 + 1) = false := Nat.testBit_lt_two_pow (by omega)
                        simp [this]
                    rw [h31]
                    congr 1
                    have ho := HO.out
                    rw [Nat.testBit_zero] at ho
                    by_cases h1 : T % 2 = 1
                    · rw [if_pos h1]; simp [h1] at ho; subst ho; simp [hi]
                    · rw [if_neg h1]; simp [h1] at ho; subst ho; simp
                  have HM := Lib.hid hm
                  clear hm hN
                  go_wp2_with (first | (refine wpList_load_row rfl 60 (.tmp 8) rfl wo.heap.size rfl 60 _ (0, 0) _ hN' Try.underlying60 rfl (info60 _) ?_) | (refine wpList_store_row rfl 60 (.tmp 2) (.tmp 56) rfl w.heap.size _ rfl rfl 60 _ hA (info60 _) (bl_same _ _) (bl_one _) ?_))
                  go_roundw
                  case rel =>
                    repeat apply Exists.intro
                    exact ⟨⟨k + 1, by omega, by go_num, HM.out.setRow (.inr (Nat.le_refl _)) _, setRow_heap _ _ _ _ _ _ hA, (setRow_other _ _ _ _ (by omega)).trans hB⟩, rfl⟩
                  case measure => simp [intOf]; omega
        · have hk8 : k = 8 := by omega
          subst hk8
          have HM := Lib.hid hm
          clear hm
          go_wp2_with (first | (refine wpList_load_row rfl 60 (.tmp 2) rfl w.heap.size rfl 60 _ (0, 0) _ hA Try.underlying60 rfl (info60 _) ?_) | (refine wpList_store_row rfl 60 (.tmp 4) (.tmp 57) rfl (w.heap.size + 1) _ rfl rfl 60 _ hB (info60 _) (bl_same _ _) (bl_one _) ?_))
          refine bodyPost_ret (results_cell_row rfl _ _ (w.heap.size + 1) 60 _ (0, 0) _ rfl (setRow_heap _ _ _ _ _ _ hB) Try.underlying60 rfl (info60 _)) rfl ⟨?_, HM.out.setRow (.inr (by omega)) _⟩
          rw [feed_all (by omega)]
end Go.Proofs.Ytdkmkiiaklkcgaa
