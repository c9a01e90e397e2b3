/- The walk of the law CrcPieces: for every list of pieces it comes to true. -/
import Derived.Test.YtdkmkiiaklkcgaaCrc
import Derived.Test.YtdkmkiiaklkcgaaArgs
import Derived.Laws.BitsAllLaws
set_option linter.unusedVariables false
set_option linter.unusedSimpArgs false
namespace Go.Proofs.Ytdkmkiiaklkcgaa
open Go.RowKit Go.Proofs.YtdkmkiiaklkcgaaW.PrintWords
theorem crcNot_val (r : Int) (h0 : 0 ≤ r) (h1 : r ≤ 4294967295) : crcNot r = 4294967295 - r := by
  obtain ⟨n, rfl⟩ := Int.eq_ofNat_of_zero_le h0
  unfold crcNot
  rw [show IntKind.u32.max = ((4294967295 : Nat) : Int) from rfl, Go.u32_xor_nat _ _ (by omega) (by omega)]
  have h : (BitVec.allOnes 32 ^^^ BitVec.ofNat 32 n) = ~~~(BitVec.ofNat 32 n) := BitVec.allOnes_xor
  have h2 := congrArg BitVec.toNat h
  simp only [BitVec.toNat_xor, BitVec.toNat_allOnes, BitVec.toNat_not, BitVec.toNat_ofNat] at h2
  rw [Nat.mod_eq_of_lt (by omega)] at h2
  have h3 : (4294967295 ^^^ n : Nat) = 4294967295 - n := by simpa using h2
  rw [h3]; omega
theorem crcNot_not (r : Int) (h0 : 0 ≤ r) (h1 : r ≤ 4294967295) : crcNot (crcNot r) = r := by
  rw [crcNot_val r h0 h1, crcNot_val _ (by omega) (by omega)]; omega
theorem crcMore_more (a b : List Int) : crcMore (crcMore 0 a) b = crcMore 0 (a ++ b) := by
  unfold crcMore
  have h := crcOn_bd (crcNot 0) (crcNot_bd 0).1 (crcNot_bd 0).2 a
  rw [crcNot_not _ h.1 h.2, crcOn_append]
theorem crcMore_nil : crcMore 0 [] = 0 := by decide +kernel
theorem crcPieces_any (A : Option Addr) (n c : Nat) (rows : List (List Int)) (w : World) (hr : ReadsRows w .u8 A n rows) :
    Calls Try.prog 4 #[.slice A n c] w fun e w' => e = .returned (.bool true) ∧ Mod [] w w' := by
  have hmax := hr.max
  have E0 := Lib.hid crcMore_nil
  by_cases hn : n ≤ 50
  · have hn' : ¬ (50 : Int) < n := by omega
    have hm0 := (Mod.refl [] w).alloc (.cells #[.int .u32 4294967295] 65)
    have HB0 := Lib.hid (blk_new w (.cells #[.int .u32 4294967295] 65))
    go_enter Try.func4, Try.ntmps4
    go_wp2_with (go_at_call 15; refine (new_any _).mono ?_; rintro e w1 ⟨rfl, rfl⟩)
    go_loopw [3, 4, 6] (fun al s i wr => ∃ (k : Nat) (bs : List Int), k ≤ n ∧ i = .int .i64 k ∧ Mod [] w wr ∧ bs.length ≤ 500 * k ∧ Bytes bs ∧ s = .int .u32 (crcMore 0 bs) ∧ w.heap.size < wr.heap.size ∧ wr.heap[w.heap.size]? = some (.cells #[.int .u32 (crcOn (crcNot 0) bs)] 65 (0, 0)) ∧ wr.ownsRow (w.heap.size + 1) 5 1 al bs.length (nums .u8 bs)) (fun _ _ i _ => n - (intOf i).toNat)
    case atStart => exact ⟨0, [], by omega, rfl, hm0, by simp, by intro b hb; simp at hb, by rw [E0.out], by simp, HB0.out, own_nil _ _ _ _⟩
    case round =>
      obtain ⟨k, bs, hk, rfl, hm, hlen, hbs, rfl, hsz, hb, hown⟩ := hrel
      have HB := Lib.hid hb
      have HO := Lib.hid hown
      have hs := crcMore_bd 0 bs
      obtain ⟨A1, c1, rfl⟩ := own_slice hown
      clear hb hown HB0 hm0
      by_cases hlt : k < n
      · obtain ⟨a, rfl, Ai, ni, ci, hcell0, hnc, hri0, hwf⟩ := hr.row k (by omega)
        have hbi := bytes_wf hwf
        have hmi := hri0.2.1
        have HL := Lib.hid hri0.1
        generalize rows.getD k [] = ys at hri0 hwf hbi HL
        clear hwf
        have H0 := Lib.hid (show ∀ w1, Mod [] w w1 → w1.cell? (a.add k) = some (.slice Ai ni ci) from fun w1 h => h.cell hcell0 (by simp))
        clear hcell0
        have hcell := H0.out _ hm
        by_cases hni : ni ≤ 500
        · have hni' : ¬ (500 : Int) < ni := by omega
          go_wp2_with (at_builtin; refine append_row (w.heap.size + 1) rfl (.tmp 26) (.tmp 30) 22 5 .u8 1 rfl Try.underlying22 info5 (by decide) (.slice A1 bs.length c1) bs ys Ai ni ci rfl rfl HO.out (hm.reads hri0 (by simp)) hm (by omega) (by omega) (by omega) ?_; intro v1 w1 hown1 hm1 hg1 hat; clear hat; have hcell1 := H0.out _ hm1)
          have hb1 := blk_grown HB.out hg1 (fun e => by have := own_base HO.out _ e.symm; omega)
          have hsz1 := hg1.size
          clear hcell hg1 HO HB
          refine (more_any (crcMore 0 bs) Ai ni ci ys w1 (hm1.reads hri0 (by simp)) hbi).mono ?_
          rintro e w2 ⟨rfl, hm2⟩
          have hbb : Bytes (bs ++ ys) := fun b hb => (List.mem_append.1 hb).elim (hbs b) (hbi b)
          have hll : (bs ++ ys).length ≤ 500 * (k + 1) := by rw [List.length_append, HL.out]; omega
          rw [crcMore_more]
          obtain ⟨zs, hz⟩ : ∃ zs, bs ++ ys = zs := ⟨_, rfl⟩
          rw [hz] at hbb hll hown1 ⊢
          have HZ := Lib.hid hz
          clear hz
          have hm12 := hm1.trans0 hm2
          have hcell2 := H0.out _ hm12
          have hown2 := hm2.own hown1 (by simp)
          have HB2 := Lib.hid (hm2.blk hb1 (by simp))
          have hsz2 := hm2.size
          clear hcell1 hown1 hb1 hm1 hm2
          go_wp2_with fail
          refine (take_any w.heap.size (crcOn (crcNot 0) bs) Ai ni ci ys w2 (crcOn_bd _ (crcNot_bd 0).1 (crcNot_bd 0).2 bs).1 (crcOn_bd _ (crcNot_bd 0).1 (crcNot_bd 0).2 bs).2 HB2.out (hm12.reads hri0 (by simp)) (fun x e hn => by have := reads_lt hri0 x e hn; omega) hbi).mono ?_
          rintro e w3 ⟨rfl, hm3, hsz3, hb3⟩
          have hown3 := hm3.own hown2 (fun g e => by have := own_base hown2 g e; simp; omega)
          have hm13 : Mod [] w w3 := hm12.trans hm3 (by simp)
          rw [← crcOn_append, HZ.out] at hb3
          have HB3 := Lib.hid hb3
          have hge : w.heap.size < w3.heap.size := by omega
          clear hcell2 hown2 HB2 hm12 hb3 hsz3 hsz2 hsz1
          go_wp2_with fail
          refine (regsum_any _ _ _ HB3.out).mono ?_
          rintro e w4 ⟨rfl, rfl⟩
          rw [show crcNot (crcOn (crcNot 0) zs) = crcMore 0 zs from rfl]
          go_wp2_with fail
          refine (regsum_any _ _ _ HB3.out).mono ?_
          rintro e w4 ⟨rfl, rfl⟩
          rw [show crcNot (crcOn (crcNot 0) zs) = crcMore 0 zs from rfl]
          have HO3 := Lib.hid hown3
          obtain ⟨A3, c3, rfl, _, hr3, _⟩ := own_form hown3
          clear hown3
          go_wp2_with fail
          refine (sum_any A3 zs.length c3 zs w3 hr3 hbb).mono ?_
          rintro e w4 ⟨rfl, hm4⟩
          have hown4 := hm4.own HO3.out (by simp)
          have hm14 := hm13.trans0 hm4
          have HB4 := Lib.hid (hm4.blk HB3.out (by simp))
          have hsz4 := hm4.size
          clear hr3 HO3 hm13 hm4
          go_wp2
          go_roundw
          case rel => exact ⟨k + 1, zs, by omega, by go_num, hm14, hll, hbb, rfl, by omega, HB4.out, hown4⟩
          case measure => simp [intOf]; omega
        · have hni' : (500 : Int) < ni := by omega
          go_wp2_with fail
          refine (lives_any _).mono ?_
          rintro e w4 ⟨rfl, hm1⟩
          go_wp2
          go_ret
          exact ⟨rfl, hm.trans0 hm1⟩
      · have : k = n := by omega
        subst this
        go_wp2_with fail
        refine (take_nil _ _).mono ?_
        rintro e w1 ⟨rfl, rfl⟩
        go_wp2_with fail
        refine (regsum_nil _).mono ?_
        rintro e w1 ⟨rfl, rfl⟩
        obtain ⟨A3, c3, hv3, _, hr3, _⟩ := own_form HO.out
        obtain ⟨rfl, _, rfl⟩ := Value.slice.inj hv3
        clear hv3
        go_wp2_with fail
        refine (sum_any _ bs.length _ bs _ hr3 hbs).mono ?_
        rintro e w4 ⟨rfl, hm4⟩
        have hm5 := hm.trans0 hm4
        clear hr3 hm hm4
        go_wp2_with fail
        refine (lives_any _).mono ?_
        rintro e w4 ⟨rfl, hm1⟩
        go_wp2
        go_ret
        exact ⟨rfl, hm5.trans0 hm1⟩
  · have hn' : (50 : Int) < n := by omega
    go_enter Try.func4, Try.ntmps4
    go_wp2_with fail
    refine (lives_any _).mono ?_
    rintro e w4 ⟨rfl, hm1⟩
    go_wp2
    go_ret
    exact ⟨rfl, hm1⟩
theorem crcPieces_walk {H : Type} {enc : TypeId × Value → H} (v : Value) (d : DataW H) (p : List MemPlace) (w : World) (ho : Value.okWide Try.prog w .any 0 28 v) (h : DataW.Trod enc Try.prog w 0 (fun _ => true) true 28 v d p) :
    Calls Try.prog 4 #[v] w fun e w' => e = .returned (.bool true) ∧ Mod [] w w' := by
  obtain ⟨A, n, c, rows, rfl, _, hr⟩ := rows_of_trod Try.underlying28 Try.underlying22 Try.underlying5 (by kernel_rfl) (by kernel_rfl) (Go.WideShapes.okWide_slice Try.underlying28 ho) h
  exact crcPieces_any A n c rows w hr
end Go.Proofs.Ytdkmkiiaklkcgaa
