/- The law of cuts, walked. -/
import Derived.Test.YtopfaafgfgjfaaaObPlainR
import Derived.Test.YtopfaafgfgjfaaaObRec
set_option linter.unusedVariables false
set_option linter.unusedSimpArgs false
namespace Go.Proofs.Ytopfaafgfgjfaaa
open Go.RowKit Go.Proofs.YtopfaafgfgjfaaaW.PrintWords Go.Proofs.Ytopfaafgfgjfaaa.PObjLinks
theorem small_all {l : List S40} {s : ByteArray} (h : smallB l s = true) : l.length ≤ 300 ∧ s.size ≤ 5000 := by
  unfold smallB at h
  simp only [Bool.and_eq_true] at h
  exact ⟨of_decide_eq_true h.1, of_decide_eq_true h.2.1⟩
theorem Bytes.app {x y : List Int} (h : Bytes x) (k : Bytes y) : Bytes (x ++ y) := fun b hb => (List.mem_append.1 hb).elim (h b) (k b)
theorem ptail_bytes (q : S54) : Bytes (ptail q) := by
  unfold ptail
  split
  · exact uput_bytes _
  · split
    · exact uput_bytes _
    · split
      · exact (uput_bytes _).app (bys_bytes _)
      · intro b hb; cases hb
theorem pbytes_bytes (q : S54) : Bytes (pbytes q) := fun b hb => by
  rcases List.mem_cons.1 hb with rfl | hb
  · omega
  · exact ptail_bytes q b hb
theorem lbytes_bytes : ∀ l : List S54, Bytes (lbytes l)
  | [] => fun b hb => by simp [lbytes] at hb
  | q :: l => by
    show Bytes (pbytes q ++ lbytes l)
    exact (pbytes_bytes q).app (lbytes_bytes l)
theorem wbytes_bytes (a : Int) (l : List S54) (s : ByteArray) : Bytes (wbytes a l s) := by
  unfold wbytes hbytes
  refine Bytes.app (Bytes.app (fun b hb => ?_) (lbytes_bytes l)) ((uput_bytes _).app (bys_bytes s))
  rcases List.mem_cons.1 hb with rfl | hb
  · omega
  · exact uput_bytes _ b hb
theorem wbytes_le {a : Int} {l : List S54} {s : ByteArray} (hl : l.length ≤ 300) (hp : ∀ p ∈ l, Part p) (hs : s.size ≤ 5000) : (wbytes a l s).length ≤ 50000 := by
  have h := @wbytes_len a l s
  have h1 := uput_len10 (n := l.length) (by omega)
  have h2 := lbytes_le hp
  have h3 := uput_len10 (n := (bys s).length) (by rw [bys_length]; omega)
  rw [List.length_append, bys_length] at h
  rw [bys_length] at h3
  omega
theorem str_cut {x : List Int} (k : Nat) : (strOfNums x).extract 0 k = strOfNums (x.take k) := data_inj (by rw [data_ext]; simp [strOfNums, List.map_take])
theorem wf_of {l : List S40} (h : ∀ p ∈ l, -9223372036854775808 ≤ p.f1 ∧ p.f1 ≤ 9223372036854775807) : Wf54 (l.map to54) := fun p hp => by
  obtain ⟨q, hq, rfl⟩ := List.mem_map.1 hp
  exact h q hq
set_option maxRecDepth 100000 in
set_option maxHeartbeats 8000000 in
theorem cuts_walk (a : Int) (A : Option Addr) (c : Nat) (l : List S40) (s : ByteArray) (cut more : Int) (w : World) (hr : Kd.C k40 w A l.length l) (hc : l.length ≤ c) (hw : ∀ p ∈ l, -9223372036854775808 ≤ p.f1 ∧ p.f1 ≤ 9223372036854775807) (hm0 : 0 ≤ more ∧ more ≤ 255) :
    Calls Try.prog 5 #[.agg #[.int .i64 a, .slice A l.length c, .string s], .int .i64 cut, .int .u8 more] w fun e w' => e = .returned (.bool true) ∧ Mod [] w w' := by
  have HM0 := Lib.hid ((Mod.refl [] w).alloc (.cells #[.int .i64 a, .slice A l.length c, .string s] 24))
  have HK0 := Lib.hid (blk_new w (.cells #[.int .i64 a, .slice A l.length c, .string s] 24))
  have HWF := Lib.hid (wf_of hw)
  have HMR := Lib.hid hm0
  clear hm0 hw
  have hsm := small_any a A c l s (w.alloc (.cells #[.int .i64 a, .slice A l.length c, .string s] 24)) (Kd.C_below hr HM0.out.below0) hc
  have y0 := (blk_cell HK0.out 0).trans rfl
  have y1 := (blk_cell HK0.out 1).trans rfl
  have y2 := (blk_cell HK0.out 2).trans rfl
  go_enter Try.func5, Try.ntmps5
  go_wp2_with fail
  generalize w.alloc (.cells #[.int .i64 a, .slice A l.length c, .string s] 24) = w0 at *
  generalize w.heap.size = b3 at *
  refine hsm.mono ?_
  rintro e w1 ⟨rfl, hm1⟩
  clear hsm y0 y1 y2
  have HM1 := Lib.hid (HM0.out.trans0 hm1)
  have HK1 := Lib.hid (hm1.blk HK0.out (by simp))
  clear hm1 HM0 HK0
  cases hS : smallB l s
  · go_wp2_with fail
    refine (lives_any w1).mono ?_
    rintro e wz ⟨rfl, hmz⟩
    have HMZ := Lib.hid (HM1.out.trans0 hmz)
    clear hmz
    go_wp2
    go_ret
    exact ⟨rfl, HMZ.out⟩
  obtain ⟨h300, h5000⟩ := small_all hS
  clear hS
  have y0 := (blk_cell HK1.out 0).trans rfl
  have y1 := (blk_cell HK1.out 1).trans rfl
  have y2 := (blk_cell HK1.out 2).trans rfl
  go_wp2_with fail
  refine (mine_any a A c l s w1 (Kd.C_below hr HM1.out.below0) hc (by omega)).mono ?_
  rintro e w2 ⟨A1, c1, rfl, hc1, hC1, hm2⟩
  have HM2 := Lib.hid (HM1.out.trans0 hm2)
  clear hm2 y0 y1 y2 HK1
  have hen := encode_any a A1 c1 (l.map to54) s w2 (by simpa using hC1) (by simpa using hc1) (by simp; omega) (by omega) HWF.out
  rw [List.length_map] at hen
  clear hC1 hc1
  have HLL := Lib.hid (show (l.map to54).length ≤ 300 by simpa using h300)
  obtain ⟨L, hL⟩ : ∃ q, l.map to54 = q := ⟨_, rfl⟩
  rw [hL] at hen HWF HLL
  clear hL
  cases hmb : mayR a L s
  · have he : (encE a L s == 0) = false := by
      unfold encE
      rw [hmb]
      cases keptB a <;> rfl
    go_wp2_with fail
    refine hen.mono ?_
    rintro e w3 ⟨rfl, hm3⟩
    have HM3 := Lib.hid (HM2.out.trans0 hm3)
    clear hm3 hen hmb
    generalize encE a L s = ee at *
    generalize encS a L s = es at *
    go_wp2_with fail
    refine (lives_any w3).mono ?_
    rintro e wz ⟨rfl, hmz⟩
    have HMZ := Lib.hid (HM3.out.trans0 hmz)
    clear hmz
    go_wp2
    go_ret
    exact ⟨rfl, HMZ.out⟩
  have hS : encS a L s = strOfNums (wbytes a L s) := if_pos hmb
  obtain ⟨p1, p2, p3, _, _, p6⟩ := may_parts hmb HWF.out
  have hE : encE a L s = 0 := by unfold encE; rw [if_pos p3, if_pos hmb]
  rw [hS, hE] at hen
  have HBB := Lib.hid (wbytes_bytes a L s)
  have HBL := Lib.hid (wbytes_le (a := a) HLL.out p6 h5000)
  have HMO := Lib.hid (dec_more hmb HWF.out more)
  have HCU := Lib.hid (dec_cut hmb HWF.out)
  clear hS hE p1 p2 p3 p6 hmb
  obtain ⟨bs, hbs⟩ : ∃ q, wbytes a L s = q := ⟨_, rfl⟩
  rw [hbs] at hen HBB HBL HMO HCU
  clear hbs
  have hbz : (strOfNums bs).size = bs.length := strOfNums_size bs
  have hmz1 : (strOfNums [more]).size = 1 := strOfNums_size [more]
  have hbl := HBL.out
  have hd1 : rdec (bys (strOfNums bs ++ strOfNums [more])) = noDec 4 := by
    rw [← str_append, bys_str (HBB.out.app (fun b hb => by rw [List.mem_singleton.1 hb]; exact HMR.out))]
    exact HMO.out
  have HD1 := Lib.hid hd1
  have HSZ := Lib.hid (show (strOfNums bs ++ strOfNums [more]).size ≤ 900000 by rw [ByteArray.size_append, hbz, hmz1]; omega)
  have HD2 := Lib.hid (fun (k : Nat) (hk : k < bs.length) => show rdec (bys ((strOfNums bs).extract 0 k)) = noDec 3 by
    rw [str_cut, bys_str (fun b hb => HBB.out b (List.mem_of_mem_take hb))]
    exact HCU.out k hk)
  have HS2 := Lib.hid (fun (k : Nat) => show ((strOfNums bs).extract 0 k).size ≤ 900000 by rw [ByteArray.size_extract, hbz]; omega)
  clear hd1
  go_wp2_with fail
  refine hen.mono ?_
  rintro e w3 ⟨rfl, hm3⟩
  have HM3 := Lib.hid (HM2.out.trans0 hm3)
  clear hm3 hen
  have hr1 := reads_lit w3 .u8 [more] 5 (0, 0) (by simp)
  have hcv := string_of_reads (P := Try.prog) (dst := 9) (c := 1) Try.underlying50 Try.underlying5 Try.underlying9 hr1
  change (convert 50 9 (.slice (some ⟨w3.heap.size, 0, none⟩) 1 1)).run Try.prog (w3.alloc (.cells #[.int .u8 more] 5)) = _ at hcv
  have HM4 := Lib.hid (HM3.out.alloc (.cells #[.int .u8 more] 5))
  clear hr1
  generalize hsb : strOfNums bs = sb at *
  generalize strOfNums [more] = sm at *
  have hdc := decode_any (sb ++ sm) (w3.alloc (.cells #[.int .u8 more] 5)) HSZ.out
  rw [HD1.out] at hdc
  unfold DecPost at hdc
  have hcc : ¬ 9223372036854775807 < sb.size + sm.size := by rw [hbz, hmz1]; omega
  have hcc2 : ¬ 9223372036854775807 < bs.length + 1 := by omega
  go_wp2_with fail
  refine hdc.mono ?_
  rintro e w4 ⟨A5, c5, rfl, _, _, hm4⟩
  clear hdc hcv
  have HM5 := Lib.hid (HM4.out.trans0 hm4)
  clear hm4 HD1 HSZ
  dsimp only [noDec]
  have HM6 := Lib.hid (HM5.out.alloc (.cells #[.int .i64 0, .slice A5 0 c5, .string ⟨#[]⟩] 32))
  by_cases hc0 : cut < 0
  · go_wp2_with fail
    refine (lives_any _).mono ?_
    rintro e wz ⟨rfl, hmz⟩
    have HMZ := Lib.hid (HM6.out.trans0 hmz)
    clear hmz
    go_wp2
    go_ret
    exact ⟨rfl, HMZ.out⟩
  · by_cases hc1 : cut < (bs.length : Int)
    · obtain ⟨k, rfl⟩ : ∃ k : Nat, cut = (k : Int) := ⟨cut.toNat, by omega⟩
      have hk : k < bs.length := by omega
      have hdc := decode_any (sb.extract 0 k) (w4.alloc (.cells #[.int .i64 0, .slice A5 0 c5, .string ⟨#[]⟩] 32)) (HS2.out k)
      rw [HD2.out k hk] at hdc
      unfold DecPost at hdc
      have q0 : (0 : Int) ≤ (k : Int) := by omega
      have q1 : (k : Int) ≤ (sb.size : Int) := by rw [hbz]; omega
      have q2 : ¬ (sb.size : Int) ≤ (k : Int) := by rw [hbz]; omega
      have q3 : (k : Int) ≤ (bs.length : Int) := by omega
      have q4 : ¬ bs.length ≤ k := by omega
      clear hc0
      go_wp2_with fail
      refine hdc.mono ?_
      rintro e w5 ⟨A6, c6, rfl, _, _, hm5⟩
      clear hdc
      have HM7 := Lib.hid (HM6.out.trans0 hm5)
      clear hm5
      dsimp only [noDec]
      have HM8 := Lib.hid (HM7.out.alloc (.cells #[.int .i64 0, .slice A6 0 c6, .string ⟨#[]⟩] 32))
      go_wp2_with fail
      refine (lives_any _).mono ?_
      rintro e wz ⟨rfl, hmz⟩
      have HMZ := Lib.hid (HM8.out.trans0 hmz)
      clear hmz
      go_wp2
      go_ret
      exact ⟨rfl, HMZ.out⟩
    · have q2 : (bs.length : Int) ≤ cut := by omega
      have q3 : (sb.size : Int) ≤ cut := by rw [hbz]; omega
      go_wp2_with fail
      refine (lives_any _).mono ?_
      rintro e wz ⟨rfl, hmz⟩
      have HMZ := Lib.hid (HM6.out.trans0 hmz)
      clear hmz
      go_wp2
      go_ret
      exact ⟨rfl, HMZ.out⟩
theorem cuts_law {H : Type} {enc : TypeId × Value → H} (v0 : Value) (D0 : DataW H) (p0 : List MemPlace) (cut more : Int) (w : World)
    (o0 : Value.okWide Try.prog w .any 0 24 v0) (h0 : DataW.Trod enc Try.prog w 0 (fun _ => true) true 24 v0 D0 p0) (hn : (Lit.int .i64 cut).wf = true) (hm : (Lit.int .u8 more).wf = true) :
    Calls Try.prog 5 #[v0, .int .i64 cut, .int .u8 more] w fun e w' => e = .returned (.bool true) ∧ Mod [] w w' := by
  obtain ⟨a, A, c, l, s, rfl, hc, hC, hp, _⟩ := rec_open o0 h0
  exact cuts_walk a A c l s cut more w hC hc (fun p h => (hp p h).2) (bounds_u8 hm)
end Go.Proofs.Ytopfaafgfgjfaaa
