/- A record's bytes, as the program writes them. -/
import Derived.Test.YtopfaafgfgjfaaaObEnc
set_option linter.unusedVariables false
set_option linter.unusedSimpArgs false
namespace Go.Proofs.Ytopfaafgfgjfaaa
open Go.RowKit Go.Proofs.YtopfaafgfgjfaaaW.PrintWords Go.Proofs.Ytopfaafgfgjfaaa.PObjLinks
/-- What follows a part's kind. -/
def ptail (p : S54) : List Int :=
  if p.f0 = 1 ∨ p.f0 = 3 ∨ p.f0 = 5 ∨ p.f0 = 8 then uput p.f1.toNat else if p.f0 = 2 then uput (zz p.f1) else if p.f0 = 4 then uput p.f2.size ++ bys p.f2 else []
def pbytes (p : S54) : List Int := p.f0 % 256 :: ptail p
def lbytes (l : List S54) : List Int := (l.map pbytes).flatten
theorem lbytes_take (l : List S54) (i : Nat) (h : i < l.length) : lbytes (l.take (i + 1)) = lbytes (l.take i) ++ pbytes l[i] := by
  unfold lbytes
  rw [List.take_add_one, List.getElem?_eq_getElem h, List.map_append, List.flatten_append]
  simp
/-- A part that a record can hold. -/
structure Part (p : S54) : Prop where
  lo : -9223372036854775808 ≤ p.f1
  hi : p.f1 ≤ 9223372036854775807
  sz : p.f2.size ≤ 100
theorem ptail_le {p : S54} (h : Part p) : (ptail p).length ≤ 110 := by
  obtain ⟨h1, h2, h3⟩ := h
  unfold ptail
  split
  · have := uput_len10 (n := p.f1.toNat) (by omega); omega
  · split
    · have := uput_len10 (n := zz p.f1) (zz_lt h1 h2); omega
    · split
      · have := uput_len10 (n := p.f2.size) (by omega)
        rw [List.length_append, bys_length]; omega
      · simp
theorem lbytes_le {l : List S54} (h : ∀ p ∈ l, Part p) : (lbytes l).length ≤ 111 * l.length := by
  induction l with
  | nil => simp [lbytes]
  | cons p l ih =>
    have h1 := ptail_le (h p (List.mem_cons_self ..))
    have h2 := ih (fun q hq => h q (List.mem_cons_of_mem _ hq))
    show (pbytes p ++ lbytes l).length ≤ _
    rw [List.length_append, List.length_cons]
    show (ptail p).length + 1 + (lbytes l).length ≤ _
    omega
def hbytes (a : Int) (n : Nat) : List Int := a % 256 :: uput n
def wbytes (a : Int) (l : List S54) (s : ByteArray) : List Int := (hbytes a l.length ++ lbytes l) ++ (uput s.size ++ bys s)
set_option maxRecDepth 100000 in
set_option maxHeartbeats 16000000 in
theorem write_any (a : Int) (A : Option Addr) (c : Nat) (l : List S54) (s : ByteArray) (w : World) (hr : Kd.C k54 w A l.length l) (hc : l.length ≤ c) (hl : l.length ≤ 300) (hp : ∀ p ∈ l, Part p) (hs : s.size ≤ 5000) :
    Calls Try.prog 24 #[.agg #[.int .i64 a, .slice A l.length c, .string s]] w fun e w' => ∃ v, e = .returned v ∧ Mod [] w w' ∧ w'.ownsRow w.heap.size 5 1 v (wbytes a l s).length (nums .u8 (wbytes a l s)) := by
  have k0 := blk_new w (.cells #[.int .i64 a, .slice A l.length c, .string s] 32)
  have hm0 := (Mod.refl [] w).alloc (.cells #[.int .i64 a, .slice A l.length c, .string s] 32)
  have HK0 := Lib.hid k0
  have HM0 := Lib.hid hm0
  have HBB := Lib.hid (Nat.le_refl w.heap.size)
  have y0 := (blk_cell k0 0).trans rfl
  have y1 := (blk_cell k0 1).trans rfl
  clear k0 hm0
  go_enter Try.func24, Try.ntmps24
  go_wp2_with fail
  have hr0 : ReadsInt ((w.alloc (.cells #[.int .i64 a, .slice A l.length c, .string s] 32)).alloc (.cells #[.int .u8 (a % 256)] 5)) .u8 (some ⟨w.heap.size + 1, 0, none⟩) 1 [a % 256] := by
    have := reads_lit (w.alloc (.cells #[.int .i64 a, .slice A l.length c, .string s] 32)) .u8 [a % 256] 5 (0, 0) (by simp)
    rwa [World.size_alloc] at this
  have hcn := encCount_any (some ⟨w.heap.size + 1, 0, none⟩) 1 1 (l.length : Int) [a % 256] _ hr0 (by omega) (by omega) (by omega)
  have HM1 := Lib.hid (HM0.out.alloc (.cells #[.int .u8 (a % 256)] 5))
  have HK1 := Lib.hid (blk_old HK0.out (.cells #[.int .u8 (a % 256)] 5))
  refine hcn.mono ?_
  rintro e w1 ⟨v3, rfl, hm1, hown⟩
  clear hcn hr0 y0 y1
  have HM2 := Lib.hid (HM1.out.trans0 hm1)
  have HK2 := Lib.hid (hm1.blk HK1.out (by simp))
  have HO2 := Lib.hid (show w1.ownsRow (w.heap.size + 1) 5 1 v3 (hbytes a l.length).length (nums .u8 (hbytes a l.length)) from own_weaken (by rw [Int.toNat_natCast] at hown; exact hown) (by simp))
  have HHL := Lib.hid (show (hbytes a l.length).length ≤ 11 by
    have := uput_len10 (n := l.length) (by omega)
    unfold hbytes
    rw [List.length_cons]; omega)
  have HLB := Lib.hid (fun (m : Nat) => lbytes_le (l := l.take m) (fun p h => hp p (List.mem_of_mem_take h)))
  have HPP := Lib.hid hp
  clear hm1 hown HM1 HK1 hp
  have HHB : Hid (∃ q, q = hbytes a l.length) := Lib.hid ⟨_, rfl⟩
  obtain ⟨hb, hhb⟩ := HHB.out
  have HHB := Lib.hid hhb.symm
  rw [← hhb] at HO2 HHL
  clear hhb
  have y1 := (blk_cell HK2.out 1).trans rfl
  go_wp2_with fail
  clear y1
  go_loopw [3, 17] (fun v iv wr => ∃ (u : Value) (i : Nat), u = v ∧ iv = .int .i64 (i : Int) ∧ i ≤ l.length ∧ Mod [] w wr ∧ wr.heap[w.heap.size]? = some (.cells #[.int .i64 a, .slice A l.length c, .string s] 32 (0, 0)) ∧ wr.ownsRow (w.heap.size + 1) 5 1 v (hb ++ lbytes (l.take i)).length (nums .u8 (hb ++ lbytes (l.take i)))) (fun _ iv _ => l.length - (intOf iv).toNat)
  case atStart => exact ⟨_, 0, rfl, rfl, Nat.zero_le _, HM2.out, HK2.out, by simpa [lbytes] using HO2.out⟩
  clear HM2 HK2 HO2
  case round =>
    obtain ⟨v, i, hvv, rfl, hi, hm, hkb, hown⟩ := hrel
    subst hvv
    have HM := Lib.hid hm
    have HK := Lib.hid hkb
    have HO := Lib.hid hown
    have HL := Lib.hid (show (hb ++ lbytes (l.take i)).length ≤ 40000 by
      have h1 := HLB.out i
      have h2 := HHL.out
      rw [List.length_take] at h1
      rw [List.length_append]; omega)
    clear hm hkb hown
    by_cases hlt : i < l.length
    · have hi0 : (0 : Int) ≤ (i : Int) := by omega
      have hlt2 : (i : Int) < (l.length : Int) := by omega
      obtain ⟨ad, rfl, e0, e1, e2⟩ := at_T54 (Kd.C_below hr HM.out.below0) (i : Int) hi0 hlt2
      rw [rd54 l i hlt, Int.toNat_natCast] at e0 e1 e2
      have HP := Lib.hid (HPP.out l[i] (List.getElem_mem hlt))
      have HT := Lib.hid (lbytes_take l i hlt)
      generalize l[i] = p at *
      have HKP := Lib.hid (blk_new wr (.cells #[.int .i64 p.f0, .int .i64 p.f1, .string p.f2] 54))
      have HMP := Lib.hid (HM.out.alloc (.cells #[.int .i64 p.f0, .int .i64 p.f1, .string p.f2] 54))
      have HKB := Lib.hid (blk_old HK.out (.cells #[.int .i64 p.f0, .int .i64 p.f1, .string p.f2] 54))
      have HOP := Lib.hid (Mod.own (S := []) ((Mod.refl [] wr).alloc (.cells #[.int .i64 p.f0, .int .i64 p.f1, .string p.f2] 54)) HO.out (by simp))
      have HVB := Lib.hid (fun (g : Nat) (h : v.ownBlock = some g) => And.intro (own_base HO.out g h) (own_lt HO.out g h))
      have z0 := (blk_cell HKP.out 0).trans rfl
      go_upto_region 5 with fail
      clear e0 e1 e2
      generalize wr.alloc (.cells #[.int .i64 p.f0, .int .i64 p.f1, .string p.f2] 54) = wx at *
      generalize wr.heap.size = b5 at *
      have HBL := Lib.hid (show w.heap.size + 1 ≤ wx.heap.size by have := HMP.out.size; have := blk_lt HKB.out; omega)
      obtain ⟨K, N, S⟩ := p
      dsimp only at *
      have hcat : K = 1 ∨ K = 3 ∨ K = 5 ∨ K = 8 ∨ K = 2 ∨ K = 4 ∨ ((K == 1) = false ∧ (K == 3) = false ∧ (K == 5) = false ∧ (K == 8) = false ∧ (K == 2) = false ∧ (K == 4) = false) := by
        simp; omega
      rcases hcat with rfl | rfl | rfl | rfl | rfl | rfl | ⟨n1, n3, n5, n8, n2, n4⟩
      · have HPT : Hid (ptail ⟨1, N, S⟩ = uput N.toNat) := Lib.hid (by unfold ptail; simp)
        go_wp2_with (at_builtin; refine append_one (w.heap.size + 1) rfl (.tmp 21) (.tmp 25) 50 5 .u8 1 rfl Try.underlying50 info5 (by decide) v (hb ++ lbytes (l.take i)) _ rfl rfl HOP.out HMP.out (by omega) HBL.out (by have := HL.out; omega) ?_; intro v1 w2 hown1 hm1 hg hat; clear hat; have hmg := Mod.of_grown hg; have HKP2 := Lib.hid (hmg.blk HKP.out (by intro hq; have := (HVB.out b5 (by simpa using hq)).2; omega)); have HKB2 := Lib.hid (hmg.blk HKB.out (by intro hq; have := (HVB.out _ (by simpa using hq)).1; omega)); have HM2 := Lib.hid hm1; have HO2 := Lib.hid hown1; have z0 := (blk_cell HKP2.out 0).trans rfl; have z1 := (blk_cell HKP2.out 1).trans rfl; have z2 := (blk_cell HKP2.out 2).trans rfl; clear hg hmg hm1 hown1)
        obtain ⟨A1, c1, rfl, hcc, hr1, hA1⟩ := own_form HO2.out
        have hl1 : (hb ++ lbytes (l.take i) ++ [1]).length ≤ 1000000 := by have := HL.out; rw [List.length_append]; simp only [List.length_cons, List.length_nil]; omega
        have HB1 := Lib.hid (blk_lt HKB2.out)
        refine (encCount_any A1 _ c1 N _ w2 hr1 hl1 HP.out.lo HP.out.hi).mono ?_
        rintro e w3 ⟨v4, rfl, hm3, hown3⟩
        have HM3 := Lib.hid (HM2.out.trans0 hm3)
        have HK3 := Lib.hid (hm3.blk HKB2.out (by simp))
        have HO3 := Lib.hid hown3
        clear hm3 hown3 hr1 hl1 hA1
        go_wp2
        refine ⟨⟨v4, i + 1, rfl, by go_num, by omega, HM3.out, HK3.out, ?_⟩, ?_⟩
        · rw [HT.out]
          have h := own_weaken (base' := w.heap.size + 1) HO3.out HB1.out
          have e : hb ++ (lbytes (l.take i) ++ pbytes ⟨1, N, S⟩) = hb ++ lbytes (l.take i) ++ [1] ++ (uput N.toNat) := by
            unfold pbytes
            rw [HPT.out]; simp
          rw [e]; exact h
        · simp [intOf]; omega
      · have HPT : Hid (ptail ⟨3, N, S⟩ = uput N.toNat) := Lib.hid (by unfold ptail; simp)
        go_wp2_with (at_builtin; refine append_one (w.heap.size + 1) rfl (.tmp 21) (.tmp 25) 50 5 .u8 1 rfl Try.underlying50 info5 (by decide) v (hb ++ lbytes (l.take i)) _ rfl rfl HOP.out HMP.out (by omega) HBL.out (by have := HL.out; omega) ?_; intro v1 w2 hown1 hm1 hg hat; clear hat; have hmg := Mod.of_grown hg; have HKP2 := Lib.hid (hmg.blk HKP.out (by intro hq; have := (HVB.out b5 (by simpa using hq)).2; omega)); have HKB2 := Lib.hid (hmg.blk HKB.out (by intro hq; have := (HVB.out _ (by simpa using hq)).1; omega)); have HM2 := Lib.hid hm1; have HO2 := Lib.hid hown1; have z0 := (blk_cell HKP2.out 0).trans rfl; have z1 := (blk_cell HKP2.out 1).trans rfl; have z2 := (blk_cell HKP2.out 2).trans rfl; clear hg hmg hm1 hown1)
        obtain ⟨A1, c1, rfl, hcc, hr1, hA1⟩ := own_form HO2.out
        have hl1 : (hb ++ lbytes (l.take i) ++ [3]).length ≤ 1000000 := by have := HL.out; rw [List.length_append]; simp only [List.length_cons, List.length_nil]; omega
        have HB1 := Lib.hid (blk_lt HKB2.out)
        refine (encCount_any A1 _ c1 N _ w2 hr1 hl1 HP.out.lo HP.out.hi).mono ?_
        rintro e w3 ⟨v4, rfl, hm3, hown3⟩
        have HM3 := Lib.hid (HM2.out.trans0 hm3)
        have HK3 := Lib.hid (hm3.blk HKB2.out (by simp))
        have HO3 := Lib.hid hown3
        clear hm3 hown3 hr1 hl1 hA1
        go_wp2
        refine ⟨⟨v4, i + 1, rfl, by go_num, by omega, HM3.out, HK3.out, ?_⟩, ?_⟩
        · rw [HT.out]
          have h := own_weaken (base' := w.heap.size + 1) HO3.out HB1.out
          have e : hb ++ (lbytes (l.take i) ++ pbytes ⟨3, N, S⟩) = hb ++ lbytes (l.take i) ++ [3] ++ (uput N.toNat) := by
            unfold pbytes
            rw [HPT.out]; simp
          rw [e]; exact h
        · simp [intOf]; omega
      · have HPT : Hid (ptail ⟨5, N, S⟩ = uput N.toNat) := Lib.hid (by unfold ptail; simp)
        go_wp2_with (at_builtin; refine append_one (w.heap.size + 1) rfl (.tmp 21) (.tmp 25) 50 5 .u8 1 rfl Try.underlying50 info5 (by decide) v (hb ++ lbytes (l.take i)) _ rfl rfl HOP.out HMP.out (by omega) HBL.out (by have := HL.out; omega) ?_; intro v1 w2 hown1 hm1 hg hat; clear hat; have hmg := Mod.of_grown hg; have HKP2 := Lib.hid (hmg.blk HKP.out (by intro hq; have := (HVB.out b5 (by simpa using hq)).2; omega)); have HKB2 := Lib.hid (hmg.blk HKB.out (by intro hq; have := (HVB.out _ (by simpa using hq)).1; omega)); have HM2 := Lib.hid hm1; have HO2 := Lib.hid hown1; have z0 := (blk_cell HKP2.out 0).trans rfl; have z1 := (blk_cell HKP2.out 1).trans rfl; have z2 := (blk_cell HKP2.out 2).trans rfl; clear hg hmg hm1 hown1)
        obtain ⟨A1, c1, rfl, hcc, hr1, hA1⟩ := own_form HO2.out
        have hl1 : (hb ++ lbytes (l.take i) ++ [5]).length ≤ 1000000 := by have := HL.out; rw [List.length_append]; simp only [List.length_cons, List.length_nil]; omega
        have HB1 := Lib.hid (blk_lt HKB2.out)
        refine (encCount_any A1 _ c1 N _ w2 hr1 hl1 HP.out.lo HP.out.hi).mono ?_
        rintro e w3 ⟨v4, rfl, hm3, hown3⟩
        have HM3 := Lib.hid (HM2.out.trans0 hm3)
        have HK3 := Lib.hid (hm3.blk HKB2.out (by simp))
        have HO3 := Lib.hid hown3
        clear hm3 hown3 hr1 hl1 hA1
        go_wp2
        refine ⟨⟨v4, i + 1, rfl, by go_num, by omega, HM3.out, HK3.out, ?_⟩, ?_⟩
        · rw [HT.out]
          have h := own_weaken (base' := w.heap.size + 1) HO3.out HB1.out
          have e : hb ++ (lbytes (l.take i) ++ pbytes ⟨5, N, S⟩) = hb ++ lbytes (l.take i) ++ [5] ++ (uput N.toNat) := by
            unfold pbytes
            rw [HPT.out]; simp
          rw [e]; exact h
        · simp [intOf]; omega
      · have HPT : Hid (ptail ⟨8, N, S⟩ = uput N.toNat) := Lib.hid (by unfold ptail; simp)
        go_wp2_with (at_builtin; refine append_one (w.heap.size + 1) rfl (.tmp 21) (.tmp 25) 50 5 .u8 1 rfl Try.underlying50 info5 (by decide) v (hb ++ lbytes (l.take i)) _ rfl rfl HOP.out HMP.out (by omega) HBL.out (by have := HL.out; omega) ?_; intro v1 w2 hown1 hm1 hg hat; clear hat; have hmg := Mod.of_grown hg; have HKP2 := Lib.hid (hmg.blk HKP.out (by intro hq; have := (HVB.out b5 (by simpa using hq)).2; omega)); have HKB2 := Lib.hid (hmg.blk HKB.out (by intro hq; have := (HVB.out _ (by simpa using hq)).1; omega)); have HM2 := Lib.hid hm1; have HO2 := Lib.hid hown1; have z0 := (blk_cell HKP2.out 0).trans rfl; have z1 := (blk_cell HKP2.out 1).trans rfl; have z2 := (blk_cell HKP2.out 2).trans rfl; clear hg hmg hm1 hown1)
        obtain ⟨A1, c1, rfl, hcc, hr1, hA1⟩ := own_form HO2.out
        have hl1 : (hb ++ lbytes (l.take i) ++ [8]).length ≤ 1000000 := by have := HL.out; rw [List.length_append]; simp only [List.length_cons, List.length_nil]; omega
        have HB1 := Lib.hid (blk_lt HKB2.out)
        refine (encCount_any A1 _ c1 N _ w2 hr1 hl1 HP.out.lo HP.out.hi).mono ?_
        rintro e w3 ⟨v4, rfl, hm3, hown3⟩
        have HM3 := Lib.hid (HM2.out.trans0 hm3)
        have HK3 := Lib.hid (hm3.blk HKB2.out (by simp))
        have HO3 := Lib.hid hown3
        clear hm3 hown3 hr1 hl1 hA1
        go_wp2
        refine ⟨⟨v4, i + 1, rfl, by go_num, by omega, HM3.out, HK3.out, ?_⟩, ?_⟩
        · rw [HT.out]
          have h := own_weaken (base' := w.heap.size + 1) HO3.out HB1.out
          have e : hb ++ (lbytes (l.take i) ++ pbytes ⟨8, N, S⟩) = hb ++ lbytes (l.take i) ++ [8] ++ (uput N.toNat) := by
            unfold pbytes
            rw [HPT.out]; simp
          rw [e]; exact h
        · simp [intOf]; omega
      · have HPT : Hid (ptail ⟨2, N, S⟩ = uput (zz N)) := Lib.hid (by unfold ptail; simp)
        go_wp2_with (at_builtin; refine append_one (w.heap.size + 1) rfl (.tmp 21) (.tmp 25) 50 5 .u8 1 rfl Try.underlying50 info5 (by decide) v (hb ++ lbytes (l.take i)) _ rfl rfl HOP.out HMP.out (by omega) HBL.out (by have := HL.out; omega) ?_; intro v1 w2 hown1 hm1 hg hat; clear hat; have hmg := Mod.of_grown hg; have HKP2 := Lib.hid (hmg.blk HKP.out (by intro hq; have := (HVB.out b5 (by simpa using hq)).2; omega)); have HKB2 := Lib.hid (hmg.blk HKB.out (by intro hq; have := (HVB.out _ (by simpa using hq)).1; omega)); have HM2 := Lib.hid hm1; have HO2 := Lib.hid hown1; have z0 := (blk_cell HKP2.out 0).trans rfl; have z1 := (blk_cell HKP2.out 1).trans rfl; have z2 := (blk_cell HKP2.out 2).trans rfl; clear hg hmg hm1 hown1)
        obtain ⟨A1, c1, rfl, hcc, hr1, hA1⟩ := own_form HO2.out
        have hl1 : (hb ++ lbytes (l.take i) ++ [2]).length ≤ 1000000 := by have := HL.out; rw [List.length_append]; simp only [List.length_cons, List.length_nil]; omega
        have HB1 := Lib.hid (blk_lt HKB2.out)
        refine (encWhole_any A1 _ c1 N _ w2 hr1 hl1 HP.out.lo HP.out.hi).mono ?_
        rintro e w3 ⟨v4, rfl, hm3, hown3⟩
        have HM3 := Lib.hid (HM2.out.trans0 hm3)
        have HK3 := Lib.hid (hm3.blk HKB2.out (by simp))
        have HO3 := Lib.hid hown3
        clear hm3 hown3 hr1 hl1 hA1
        go_wp2
        refine ⟨⟨v4, i + 1, rfl, by go_num, by omega, HM3.out, HK3.out, ?_⟩, ?_⟩
        · rw [HT.out]
          have h := own_weaken (base' := w.heap.size + 1) HO3.out HB1.out
          have e : hb ++ (lbytes (l.take i) ++ pbytes ⟨2, N, S⟩) = hb ++ lbytes (l.take i) ++ [2] ++ (uput (zz N)) := by
            unfold pbytes
            rw [HPT.out]; simp
          rw [e]; exact h
        · simp [intOf]; omega
      · have HPT : Hid (ptail ⟨4, N, S⟩ = uput S.size ++ bys S) := Lib.hid (by unfold ptail; simp)
        have HS4 := Lib.hid HP.out.sz
        go_upto_region 15 with (at_builtin; refine append_one (w.heap.size + 1) rfl (.tmp 21) (.tmp 25) 50 5 .u8 1 rfl Try.underlying50 info5 (by decide) v (hb ++ lbytes (l.take i)) _ rfl rfl HOP.out HMP.out (by omega) HBL.out (by have := HL.out; omega) ?_; intro v1 w2 hown1 hm1 hg hat; clear hat; have hmg := Mod.of_grown hg; have HKP2 := Lib.hid (hmg.blk HKP.out (by intro hq; have := (HVB.out b5 (by simpa using hq)).2; omega)); have HKB2 := Lib.hid (hmg.blk HKB.out (by intro hq; have := (HVB.out _ (by simpa using hq)).1; omega)); have HM2 := Lib.hid hm1; have HO2 := Lib.hid hown1; have z0 := (blk_cell HKP2.out 0).trans rfl; have z1 := (blk_cell HKP2.out 1).trans rfl; have z2 := (blk_cell HKP2.out 2).trans rfl; clear hg hmg hm1 hown1)
        obtain ⟨bs, hbs⟩ : ∃ q, hb ++ lbytes (l.take i) ++ [4] = q := ⟨_, rfl⟩
        have HBS := Lib.hid hbs
        have hl0 : bs.length ≤ 1000000 := by rw [← hbs]; have := HL.out; rw [List.length_append]; simp only [List.length_cons, List.length_nil]; omega
        have HO2' := HO2.out
        have e4 : (4 : Int) % 256 = 4 := rfl
        try rw [e4] at HO2'
        rw [hbs] at HO2'
        clear hbs e4 HO2
        obtain ⟨A1, c1, rfl, hcc, hr1, hA1⟩ := own_form HO2'
        clear HO2'
        have hl1 := hl0
        have HB1 := Lib.hid (blk_lt HKB2.out)
        have hsz : S.size ≤ 100 := HS4.out
        obtain ⟨w3, k3, hrun, hm3, hck, hrd, hz⟩ := conv_str (P := Try.prog) w2 9 50 5 S Try.underlying9 Try.underlying50 Try.underlying5 (by omega)
        have HZ3 := Lib.hid hz
        have HM3a := Lib.hid hm3
        have hct := encSized_any A1 (some ⟨w2.heap.size, 0, none⟩) _ c1 S.size k3 _ (bys S) w3 (hm3.reads hr1 (by simp)) hl1 hrd (by omega)
        clear hz hm3
        go_wp2_with fail
        refine hct.mono ?_
        rintro e w4 ⟨v4, rfl, hm4, hown3⟩
        have HM3 := Lib.hid ((HM2.out.trans0 HM3a.out).trans0 hm4)
        have HK3 := Lib.hid ((HM3a.out.trans0 hm4).blk HKB2.out (by simp))
        have HO3 := Lib.hid hown3
        clear hm4 hown3 hr1 hl1 hl0 hA1 hct hrun hrd
        go_wp2
        refine ⟨⟨v4, i + 1, rfl, by go_num, by omega, HM3.out, HK3.out, ?_⟩, ?_⟩
        · rw [HT.out]
          have h := own_weaken (base' := w.heap.size + 1) HO3.out (by have := HZ3.out; have := HB1.out; omega)
          have e : hb ++ (lbytes (l.take i) ++ pbytes ⟨4, N, S⟩) = bs ++ (uput S.size ++ bys S) := by
            unfold pbytes
            rw [HPT.out, ← HBS.out]; simp
          rw [e]; exact h
        · simp [intOf]; omega
      · have HPT : Hid (ptail ⟨K, N, S⟩ = []) := Lib.hid (by
          unfold ptail
          dsimp only
          have m1 : K ≠ 1 := by simpa using n1
          have m3 : K ≠ 3 := by simpa using n3
          have m5 : K ≠ 5 := by simpa using n5
          have m8 : K ≠ 8 := by simpa using n8
          have m2 : K ≠ 2 := by simpa using n2
          have m4 : K ≠ 4 := by simpa using n4
          rw [if_neg (by omega), if_neg (by omega), if_neg (by omega)])
        go_wp2_with (at_builtin; refine append_one (w.heap.size + 1) rfl (.tmp 21) (.tmp 25) 50 5 .u8 1 rfl Try.underlying50 info5 (by decide) v (hb ++ lbytes (l.take i)) _ rfl rfl HOP.out HMP.out (by omega) HBL.out (by have := HL.out; omega) ?_; intro v1 w2 hown1 hm1 hg hat; clear hat; have hmg := Mod.of_grown hg; have HKP2 := Lib.hid (hmg.blk HKP.out (by intro hq; have := (HVB.out b5 (by simpa using hq)).2; omega)); have HKB2 := Lib.hid (hmg.blk HKB.out (by intro hq; have := (HVB.out _ (by simpa using hq)).1; omega)); have HM2 := Lib.hid hm1; have HO2 := Lib.hid hown1; have z0 := (blk_cell HKP2.out 0).trans rfl; have z1 := (blk_cell HKP2.out 1).trans rfl; have z2 := (blk_cell HKP2.out 2).trans rfl; clear hg hmg hm1 hown1)
        refine ⟨⟨v1, i + 1, rfl, by go_num, by omega, HM2.out, HKB2.out, ?_⟩, ?_⟩
        · rw [HT.out]
          have e : hb ++ (lbytes (l.take i) ++ pbytes ⟨K, N, S⟩) = hb ++ lbytes (l.take i) ++ [K % 256] := by
            unfold pbytes
            rw [HPT.out]; simp
          rw [e]; exact HO2.out
        · simp [intOf]; omega
    · obtain rfl : i = l.length := by omega
      have hlt2 : ¬ (l.length : Int) < (l.length : Int) := by omega
      have y2 := (blk_cell HK.out 2).trans rfl
      rw [List.take_length] at HO HL
      obtain ⟨bs, hbs⟩ : ∃ q, hb ++ lbytes l = q := ⟨_, rfl⟩
      have HBS := Lib.hid hbs
      rw [hbs] at HO HL
      clear hbs
      obtain ⟨A1, c1, rfl, hcc, hr1, hA1⟩ := own_form HO.out
      have hl1 : bs.length ≤ 1000000 := by have := HL.out; omega
      have HB1 := Lib.hid (blk_lt HK.out)
      obtain ⟨w3, k3, hrun, hm3, hck, hrd, hz⟩ := conv_str (P := Try.prog) wr 9 50 5 s Try.underlying9 Try.underlying50 Try.underlying5 (by omega)
      have HZ3 := Lib.hid hz
      have HM3a := Lib.hid hm3
      have hct := encSized_any A1 (some ⟨wr.heap.size, 0, none⟩) _ c1 s.size k3 _ (bys s) w3 (hm3.reads hr1 (by simp)) hl1 hrd (by omega)
      clear hz hm3
      go_wp2_with fail
      refine hct.mono ?_
      rintro e w4 ⟨v4, rfl, hm4, hown3⟩
      have HM3 := Lib.hid ((HM.out.trans0 HM3a.out).trans0 hm4)
      have HO3 := Lib.hid (own_weaken (base' := w.heap.size) hown3 (by have := HZ3.out; have := HB1.out; omega))
      clear hm4 hown3 hr1 hl1 hA1 hct hrun hrd y2
      go_wp2
      go_ret
      refine ⟨v4, rfl, HM3.out, ?_⟩
      have e : wbytes a l s = hb ++ lbytes l ++ (uput s.size ++ bys s) := by unfold wbytes; rw [HHB.out]
      rw [e, HBS.out]; exact HO3.out
end Go.Proofs.Ytopfaafgfgjfaaa
