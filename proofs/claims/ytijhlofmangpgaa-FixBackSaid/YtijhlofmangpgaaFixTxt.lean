/- The program's numbers: sizes, quotients, remainders, texts. -/
import Derived.Test.YtijhlofmangpgaaFixMul
set_option linter.unusedVariables false
set_option linter.unusedSimpArgs false
namespace Go.Proofs.Ytijhlofmangpgaa
open Go.RowKit Go.Proofs.YtijhlofmangpgaaW.PrintWords Go.Proofs.Ytijhlofmangpgaa.Dig
theorem info5 : (Try.prog.info? 5).map (fun i => (i.zero, i.size, i.bytes)) = some (some (.int .u8 0), 1, 1) := by kernel_rfl
theorem size_any (a : Int) (w : World) (h0 : -9223372036854775808 ≤ a) (h1 : a ≤ 9223372036854775807) :
    Calls Try.prog 36 #[.int .i64 a] w fun e w' => e = .returned (.int .u64 (a.natAbs : Int)) ∧ w = w' := by
  by_cases h : a < 0
  · have q1 : IntKind.u64.wrap (-IntKind.u64.wrap a) = (a.natAbs : Int) := by rw [IntKind.wrap_u64, IntKind.wrap_u64]; omega
    go_enter Try.func36, Try.ntmps36
    go_wp2
    go_ret
    exact ⟨by rw [← q1]; rfl, rfl⟩
  · have q1 : IntKind.u64.wrap a = (a.natAbs : Int) := by rw [IntKind.wrap_u64]; omega
    go_enter Try.func36, Try.ntmps36
    go_wp2
    go_ret
    exact ⟨by rw [← q1]; rfl, rfl⟩
theorem based_any (b : Int) (w : World) :
    Calls Try.prog 40 #[.int .i64 b] w fun e w' => e = .returned (.bool (decide (2 ≤ b ∧ b ≤ 16))) ∧ w = w' := by
  by_cases h : 2 ≤ b
  · by_cases h2 : b ≤ 16
    · have HF := Lib.hid (show decide (2 ≤ b ∧ b ≤ 16) = true by simp; omega)
      rw [HF.out]
      go_enter Try.func40, Try.ntmps40
      go_wp2
      go_ret
      exact ⟨rfl, rfl⟩
    · have HF := Lib.hid (show decide (2 ≤ b ∧ b ≤ 16) = false by simp; omega)
      rw [HF.out]
      go_enter Try.func40, Try.ntmps40
      go_wp2
      go_ret
      exact ⟨rfl, rfl⟩
  · have HF := Lib.hid (show decide (2 ≤ b ∧ b ≤ 16) = false by simp; omega)
    rw [HF.out]
    go_enter Try.func40, Try.ntmps40
    go_wp2
    go_ret
    exact ⟨rfl, rfl⟩
/-- A digit's character. -/
def ch (d : Nat) : Int := if d < 10 then 48 + d else 87 + d
theorem ch_all : ∀ i : Fin 16, (((({ data := #[48, 49, 50, 51, 52, 53, 54, 55, 56, 57, 97, 98, 99, 100, 101, 102] } : ByteArray)[i.val]'(i.isLt)).toNat : Nat) : Int) = ch i.val := by decide
theorem ch_at {d : Nat} (h : d < 16) (h' : d < ({ data := #[48, 49, 50, 51, 52, 53, 54, 55, 56, 57, 97, 98, 99, 100, 101, 102] } : ByteArray).size) : (((({ data := #[48, 49, 50, 51, 52, 53, 54, 55, 56, 57, 97, 98, 99, 100, 101, 102] } : ByteArray)[d]'h').toNat : Nat) : Int) = ch d := ch_all ⟨d, h⟩
def TB (b n : Nat) : List Int := if h : n = 0 ∨ b < 2 then [] else ch (n % b) :: TB b (n / b)
termination_by n
decreasing_by exact Nat.div_lt_self (by omega) (by omega)
def TT (b n : Nat) : List Int := if n = 0 then [48] else TB b n
theorem TB_zero (b : Nat) : TB b 0 = [] := by rw [TB]; simp
theorem TB_pos {b n : Nat} (hn : n ≠ 0) (hb : 2 ≤ b) : TB b n = ch (n % b) :: TB b (n / b) := by rw [TB, dif_neg (by omega)]
theorem TB_len (b n : Nat) (hb : 2 ≤ b) : ∀ L, n < 2 ^ L → (TB b n).length ≤ L := by
  induction n using Nat.strongRecOn with
  | _ n ih =>
    intro L hL
    by_cases h0 : n = 0
    · subst h0; rw [TB_zero]; simp
    · rw [TB_pos h0 hb]
      cases L with
      | zero => simp at hL; omega
      | succ L =>
        have h1 : n / b ≤ n / 2 := Nat.div_le_div_left hb (by omega)
        rw [Nat.pow_succ] at hL
        have := ih (n / b) (Nat.div_lt_self (by omega) (by omega)) L (by omega)
        simpa using this
theorem TT_len (b n : Nat) (hb : 2 ≤ b) (hn : n ≤ 9223372036854775808) : (TT b n).length ≤ 64 := by
  unfold TT
  split
  · simp
  · exact TB_len b n hb 64 (by omega)
theorem two_n (n : Nat) : n ≤ 9223372036854775808 → (n : Int) ≤ 9223372036854775808 := by omega
theorem size_own {a : Int} : a.natAbs = a.natAbs := rfl
def txt (a : Int) (b : Nat) : List Int := (if a < 0 then [45] else []) ++ (TT b a.natAbs).reverse
/-- How far a row is turned round. -/
def turnedTo (full xs : List Int) (n k : Nat) : Prop := xs.length = n ∧ ∀ j, j < n → xs.getD j 0 = if j < k ∨ n - 1 - j < k then full.getD (n - 1 - j) 0 else full.getD j 0
theorem turned_start (full : List Int) : turnedTo full full full.length 0 := ⟨rfl, fun j hj => by rw [if_neg (by omega)]⟩
theorem turned_end {full xs : List Int} {n k : Nat} (hn : full.length = n) (h : turnedTo full xs n k) (hk : k = n / 2) : xs = full.reverse := by
  apply List.ext_getElem
  · rw [List.length_reverse, h.1, hn]
  · intro j h1 h2
    have hj : j < n := by rw [h.1] at h1; exact h1
    have h3 := h.2 j hj
    rw [List.getElem_reverse]
    rw [List.getD_eq_getElem?_getD, List.getElem?_eq_getElem h1] at h3
    simp only [Option.getD_some] at h3
    have e : ∀ i, (hi : i < n) → full.getD i 0 = full[i]'(by omega) := fun i hi => by
      rw [List.getD_eq_getElem?_getD, List.getElem?_eq_getElem (by omega)]; rfl
    rw [h3]
    split
    · rw [e _ (by omega)]; congr 1; omega
    · rw [e _ hj]; congr 1; omega
theorem turned_step {full xs : List Int} {n k : Nat} (h : turnedTo full xs n k) (hk : k < n / 2) : turnedTo full ((xs.set k (xs.getD (n - 1 - k) 0)).set (n - 1 - k) (xs.getD k 0)) n (k + 1) := by
  refine ⟨by simp [h.1], fun j hj => ?_⟩
  have h1 := h.2 k (by omega)
  have h2 := h.2 (n - 1 - k) (by omega)
  have h3 := h.2 j hj
  rw [if_neg (by omega)] at h1 h2
  rw [List.getD_eq_getElem?_getD, List.getElem?_set, List.getElem?_set]
  rw [h1, h2]
  by_cases e1 : n - 1 - k = j
  · rw [if_pos e1, if_pos (by simp [h.1]; omega)]
    simp only [Option.getD_some]
    rw [if_pos (by omega)]; congr 1; omega
  · rw [if_neg e1]
    by_cases e2 : k = j
    · rw [if_pos e2, if_pos (by rw [h.1]; omega)]
      simp only [Option.getD_some]
      rw [if_pos (by omega)]; congr 1; omega
    · rw [if_neg e2, ← List.getD_eq_getElem?_getD, h3]
      by_cases e3 : j < k ∨ n - 1 - j < k
      · rw [if_pos e3, if_pos (by omega)]
      · rw [if_neg e3, if_neg (by omega)]
set_option maxRecDepth 100000 in
set_option maxHeartbeats 1000000 in
theorem text_any (a : Int) (b : Nat) (w : World) (h0 : -9223372036854775808 ≤ a) (h1 : a ≤ 9223372036854775807) (hb0 : 2 ≤ b) (hb1 : b ≤ 16) :
    Calls Try.prog 30 #[.int .i64 a, .int .i64 (b : Int)] w fun e w' => e = .returned (.string (strOfNums (txt a b))) ∧ Mod [] w w' := by
  have hB := based_any (b : Int) w
  rw [show decide (2 ≤ (b : Int) ∧ (b : Int) ≤ 16) = true by simp; omega] at hB
  have hS := size_any a w h0 h1
  have hx : a.natAbs ≤ 9223372036854775808 := by omega
  obtain ⟨x, hxx⟩ : ∃ x, a.natAbs = x := ⟨_, rfl⟩
  rw [hxx] at hS hx
  have qb : IntKind.u64.wrap (b : Int) = (b : Int) := by rw [IntKind.wrap_u64]; omega
  go_enter Try.func30, Try.ntmps30
  go_wp2_with fail
  refine hB.mono ?_
  rintro e w1 ⟨rfl, rfl⟩
  go_wp2_with fail
  refine hS.mono ?_
  rintro e w1 ⟨rfl, rfl⟩
  go_wp2_with fail
  go_loopw [5, 6] (fun v n wr => ∃ (q : Nat) (os : List Int), n = .int .u64 q ∧ q ≤ x ∧ Mod [] w wr ∧ wr.ownsRow w.heap.size 5 1 v os.length (nums .u8 os) ∧ (os = [] ∧ q = x ∨ os ≠ [] ∧ os ++ TB b q = TT b x)) (fun v n _ => 2 * (intOf n).toNat + (match v with | .slice _ 0 _ => 1 | _ => 0))
  case atStart => exact ⟨x, [], rfl, by omega, Mod.refl _ _, own_nil _ _ _ _, .inl ⟨rfl, rfl⟩⟩
  case round =>
    obtain ⟨q, os, rfl, hq, hmr, hown, hinv⟩ := hrel
    obtain ⟨A, c, rfl, hc, hrd, hA⟩ := own_form hown
    by_cases hgo : q = 0 ∧ os ≠ []
    · obtain ⟨rfl, hne⟩ := hgo
      have hos : os = TT b x := by
        rcases hinv with h | h
        · exact absurd h.1 hne
        · rw [← h.2, TB_zero]; simp
      have hl0 : 0 < os.length := by cases os with | nil => exact absurd rfl hne | cons _ _ => simp
      have hl0' : (os.length == 0) = false := by simp; omega
      have hl1' : ((os.length : Int) == 0) = false := by simp; omega
      have HO := Lib.hid (show wr.ownsRow w.heap.size 5 1 (.slice A os.length c) os.length (nums .u8 os) from hown)
      have hz := hmr.size
      have hol : os.length ≤ 64 := by rw [hos]; exact TT_len b x hb0 hx
      have HT := Lib.hid (show txt a b = (os ++ (if a < 0 then [45] else [])).reverse by unfold txt; rw [hxx, ← hos]; split <;> simp)
      have HOS := Lib.hid hos
      clear hown hinv hrd hos
      go_upto_if 33 with fail
      go_cut [5] (fun v wx => Mod [] w wx ∧ wx.ownsRow w.heap.size 5 1 v (os ++ (if a < 0 then [45] else [])).length (nums .u8 (os ++ (if a < 0 then [45] else []))))
      case first =>
        by_cases ha : a < 0
        · go_wp2_with (at_builtin; refine append_one w.heap.size rfl (.tmp 34) (.tmp 35) 54 5 .u8 1 rfl Try.underlying54 info5 (by decide) _ os _ rfl rfl HO.out hmr (Nat.le_refl _) hz (by omega) ?_; intro v1 w2 hown1 hm1 hg hat; clear hg hat; have HN := Lib.hid hown1; clear hown1)
          go_meet
          exact ⟨hm1, by rw [if_pos ha]; exact HN.out⟩
        · go_wp2
          go_meet
          exact ⟨hmr, by rw [if_neg (by omega), List.append_nil]; exact HO.out⟩
      case rest =>
        obtain ⟨hmc, hownc⟩ := hcut
        have hfl : (os ++ (if a < 0 then [45] else [])).length ≤ 65 := by rw [List.length_append]; split <;> simp <;> omega
        have hfp : 0 < (os ++ (if a < 0 then [45] else [])).length := by rw [List.length_append]; omega
        obtain ⟨full, hf⟩ : ∃ full, os ++ (if a < 0 then [45] else []) = full := ⟨_, rfl⟩
        rw [hf] at hownc hfl hfp HT
        have HF := Lib.hid hf
        clear hf HO
        obtain ⟨n, hn⟩ : ∃ n, full.length = n := ⟨_, rfl⟩
        rw [hn] at hownc hfl hfp
        have HN := Lib.hid hn
        clear hn
        rcases hownc with ⟨hw1, ⟨_, h9⟩ | ⟨g, cap, cur, rfl, hgb, hblk, hncap, hcap, hcur, htk⟩⟩
        · omega
        · have HG := Lib.hid (show wc.ownsRow w.heap.size 5 1 (.slice (some ⟨g, 0, none⟩) n cap) n (nums .u8 full) from ⟨hw1, .inr ⟨g, cap, cur, rfl, hgb, hblk, hncap, hcap, hcur, htk⟩⟩)
          clear hw1 hblk hcur htk
          have hnd : ((n : Int).tdiv 2) = ((n / 2 : Nat) : Int) := by rw [Int.tdiv_eq_ediv_of_nonneg (by omega)]; rfl
          obtain ⟨wo, rfl⟩ : ∃ wo : World, wo = wc := ⟨_, rfl⟩
          have hmc0 := hmc
          go_wp2_with fail
          go_loopw [40] (fun i wr => ∃ (k : Nat) (xs : List Int), i = .int .i64 k ∧ k ≤ n / 2 ∧ Mod [] w wr ∧ turnedTo full xs n k ∧ wr.ownsRow w.heap.size 5 1 (.slice (some ⟨g, 0, none⟩) n cap) n (nums .u8 xs)) (fun i _ => n / 2 - (intOf i).toNat)
          case atStart => exact ⟨0, full, rfl, by omega, hmc0, by have := turned_start full; rw [HN.out] at this; exact this, HG.out⟩
          case round =>
            obtain ⟨k, xs, rfl, hk, hmk, htt, hownk⟩ := hrel
            obtain ⟨A8, c8, e8, hc8, hr8, hA8⟩ := own_form hownk
            cases e8
            by_cases hlt : k < n / 2
            · obtain ⟨a1, ea1, hk1⟩ := hr8.at_ (k : Int) (by omega) (by omega)
              obtain ⟨a2, ea2, hk2⟩ := hr8.at_ ((n - 1 - k : Nat) : Int) (by omega) (by omega)
              cases ea1
              cases ea2
              rw [add_plain, Int.toNat_natCast] at hk1 hk2
              have er1 : rd xs (k : Int) = xs.getD k 0 := rfl
              have er2 : rd xs ((n - 1 - k : Nat) : Int) = xs.getD (n - 1 - k) 0 := rfl
              rw [er1] at hk1
              rw [er2] at hk2
              have hst := Lib.hid (turned_step htt hlt)
              have HXL := Lib.hid htt.1
              have HOK := Lib.hid hownk
              have hfz : ∀ i, wr.frozen? ⟨g, i, none⟩ = false := fun i => by
                rcases hownk with ⟨_, ⟨h9, _⟩ | ⟨g', cap', cur', h9, _, hb9, _⟩⟩
                · cases h9
                · cases h9; exact blk_frozen hb9 i
              have q1 : IntKind.i64.wrap ((n : Int) - 1) = (n : Int) - 1 := IntWalk.i64_in _ (by omega)
              have q2 : IntKind.i64.wrap ((n : Int) - 1 - k) = ((n - 1 - k : Nat) : Int) := by rw [IntWalk.i64_in _ (by omega)]; omega
              have q3 : IntKind.i64.wrap ((k : Int) + 1) = (k : Int) + 1 := IntWalk.i64_in _ (by omega)
              have hjn : n - 1 - k < n := by omega
              have hkn : k < n := by omega
              have hkj : k ≠ n - 1 - k := by omega
              have f1 := hfz k
              have f2 := hfz (n - 1 - k)
              generalize xs.getD k 0 = u at *
              generalize xs.getD (n - 1 - k) 0 = v at *
              obtain ⟨j, hj⟩ : ∃ j, n - 1 - k = j := ⟨_, rfl⟩
              rw [hj] at q2 hjn hkj f2 hk2 hst
              clear hownk hr8 er1 er2 hfz htt hj
              go_wp2_with fail
              go_region_with (fail)
              all_goals
                go_wp2
                go_roundw
                case rel =>
                  have o1 := own_put (g := g) (cap := cap) (xs := xs) (by rw [HXL.out]; exact HOK.out) (k : Int) v
                  rw [Int.toNat_natCast, show (xs.set k v).length = xs.length by simp] at o1
                  have o2 := own_put (g := g) (cap := cap) (xs := xs.set k v) (by rw [show (xs.set k v).length = xs.length by simp]; exact o1) (j : Int) u
                  rw [Int.toNat_natCast, show ((xs.set k v).set j u).length = n by simp [HXL.out], show (xs.set k v).length = n by simp [HXL.out]] at o2
                  have hm2 : Mod [] w ((wr.setCell ⟨g, k, none⟩ (.int .u8 v)).setCell ⟨g, j, none⟩ (.int .u8 u)).drew := ((hmk.setCell (p := ⟨g, k, none⟩) (.inr hgb) _).setCell (p := ⟨g, j, none⟩) (.inr hgb) _).drew
                  repeat apply Exists.intro
                  exact ⟨⟨k + 1, (xs.set k v).set j u, by go_num, by omega, hm2, hst.out, o2⟩, rfl⟩
                case measure => simp [intOf]; omega
            · have hkn : k = n / 2 := by omega
              have hrev := turned_end HN.out htt hkn
              have hcv := string_of_reads (src := 54) (dst := 9) Try.underlying54 Try.underlying5 Try.underlying9 hr8 (c := cap)
              rw [hrev, ← HT.out] at hcv
              clear hr8 htt hrev hownk
              go_wp2
              go_ret
              exact ⟨rfl, hmk⟩
    · have hTl : os.length ≤ 64 := by
        rcases hinv with h | h
        · rw [h.1]; simp
        · have := TT_len b x hb0 hx; rw [← h.2, List.length_append] at this; omega
      have qm : ((q : Int).tmod (b : Int)) = ((q % b : Nat) : Int) := by rw [Int.tmod_eq_emod_of_nonneg (by omega)]; rfl
      have qd : ((q : Int).tdiv (b : Int)) = ((q / b : Nat) : Int) := by rw [Int.tdiv_eq_ediv_of_nonneg (by omega)]; rfl
      have hlt : q % b < 16 := Nat.lt_of_lt_of_le (Nat.mod_lt _ (by omega)) hb1
      have HO := Lib.hid hown
      have hz := hmr.size
      clear hown hrd
      have hst : os ++ [ch (q % b)] ++ TB b (q / b) = TT b x := by
        by_cases hq0 : q = 0
        · rcases hinv with h | h
          · obtain ⟨rfl, rfl⟩ := h
            subst hq0
            simp [TT, TB_zero, ch]
          · exact absurd ⟨hq0, h.1⟩ hgo
        · rw [List.append_assoc, List.singleton_append, ← TB_pos hq0 hb0]
          rcases hinv with h | h
          · obtain ⟨rfl, rfl⟩ := h
            unfold TT; rw [if_neg hq0]; rfl
          · exact h.2
      have HST := Lib.hid hst
      have hqb : q / b ≤ q := Nat.div_le_self _ _
      have hme : 2 * (q / b) < 2 * q + (if os.length = 0 then 1 else 0) := by
        by_cases hq0 : q = 0
        · have : os = [] := by
            by_cases h : os = []
            · exact h
            · exact absurd ⟨hq0, h⟩ hgo
          rw [this, hq0]; simp
        · have := Nat.div_lt_self (n := q) (k := b) (by omega) (by omega)
          omega
      have hq1 : 0 < q ∨ ¬ 0 < q ∧ os.length = 0 := by
        by_cases h : 0 < q
        · exact .inl h
        · refine .inr ⟨h, ?_⟩
          by_cases h2 : os = []
          · rw [h2]; rfl
          · exact absurd ⟨by omega, h2⟩ hgo
      have HME := Lib.hid hme
      clear hst hme hinv hgo
      generalize q % b = md at *
      generalize q / b = dq at *
      rcases hq1 with hq1 | ⟨hq1, hq2⟩
      · have t1 : decide (0 < q) = true := by simpa using hq1
        go_wp2_with (at_builtin; refine append_one w.heap.size rfl (.tmp 20) (.tmp 26) 54 5 .u8 1 rfl Try.underlying54 info5 (by decide) _ os _ rfl rfl HO.out hmr (Nat.le_refl _) hz (by omega) ?_; intro v1 w2 hown1 hm1 hg hat; clear hg hat; rw [ch_at hlt] at hown1; obtain ⟨A5, c5, rfl, hc5, hr5, hA5⟩ := own_form hown1)
        have e5 : (os ++ [ch md]).length = os.length + 1 := by simp
        rw [e5] at hown1
        refine ⟨⟨dq, os ++ [ch md], rfl, by omega, hm1, by rw [e5]; exact hown1, .inr ⟨by simp, HST.out⟩⟩, ?_⟩
        have hm9 := HME.out
        simp only [intOf, Int.toNat_natCast]
        revert hm9
        generalize os.length = L
        intro hm9
        cases L with
        | zero => simpa using hm9
        | succ L => simpa using hm9
      · have t1 : decide (0 < q) = false := by simpa using hq1
        have t2 : (os.length == 0) = true := by simpa using hq2
        have t3 : ((os.length : Int) == 0) = true := by simpa using hq2
        have HQ2 := Lib.hid hq2
        clear hq2
        go_wp2_with (at_builtin; refine append_one w.heap.size rfl (.tmp 20) (.tmp 26) 54 5 .u8 1 rfl Try.underlying54 info5 (by decide) _ os _ rfl rfl HO.out hmr (Nat.le_refl _) hz (by omega) ?_; intro v1 w2 hown1 hm1 hg hat; clear hg hat; rw [ch_at hlt] at hown1; obtain ⟨A5, c5, rfl, hc5, hr5, hA5⟩ := own_form hown1)
        have e5 : (os ++ [ch md]).length = os.length + 1 := by simp
        rw [e5] at hown1
        refine ⟨⟨dq, os ++ [ch md], rfl, by omega, hm1, by rw [e5]; exact hown1, .inr ⟨by simp, HST.out⟩⟩, ?_⟩
        have hm9 := HME.out
        simp only [intOf, Int.toNat_natCast]
        revert hm9
        generalize os.length = L
        intro hm9
        cases L with
        | zero => simpa using hm9
        | succ L => simpa using hm9
end Go.Proofs.Ytijhlofmangpgaa
