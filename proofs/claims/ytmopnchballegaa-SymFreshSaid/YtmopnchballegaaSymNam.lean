/- Two names have one number just if they are the same; a number's name has that number. -/
import Derived.Test.YtmopnchballegaaSymLaw
set_option linter.unusedVariables false
set_option linter.unusedSimpArgs false
namespace Go.Proofs.Ytmopnchballegaa
open Go.RowKit Go.WideMaps Go.Proofs.YtmopnchballegaaW.PrintWords Go.Proofs.Ytmopnchballegaa.PSymPlays
noncomputable def numI (xs : List ByteArray) (s : ByteArray) : Int := if mayB s then (match idx xs s with | some i => (i : Int) | none => (xs.length : Int)) else 0
noncomputable def numE (s : ByteArray) : Int := if mayB s then 0 else 1
theorem number_any (w : World) (fp : Nat → Prop) (g : Nat) (xs : List ByteArray) (s : ByteArray) (h : Tab w fp g xs) (hs : s.size ≤ maxLen) (hl : xs.length ≤ 16000) :
    Calls Try.prog 14 #[.pointer (some ⟨g, 0, none⟩), .string s] w (NumPost w fp g (numI xs s) (numE s) (numL xs s)) := by
  by_cases hm : mayB s = true
  · cases e : idx xs s with
    | some i =>
      rw [show numI xs s = i by simp [numI, hm, e], show numE s = 0 by simp [numE, hm], numL_old e]
      exact number_old w fp g xs s h hs hm i e
    | none =>
      rw [show numI xs s = xs.length by simp [numI, hm, e], show numE s = 0 by simp [numE, hm], numL_new hm e]
      exact number_new w fp g xs s h hs hm e hl
  · have hm' : mayB s = false := by simpa using hm
    rw [show numI xs s = 0 by simp [numI, hm'], show numE s = 1 by simp [numE, hm'], numL_bad hm']
    exact number_bad w fp g xs s h hs hm'
theorem numL_ext {xs : List ByteArray} {t s : ByteArray} {i : Nat} (h : xs[i]? = some s) : (numL xs t)[i]? = some s := by
  unfold numL
  split
  · split
    · exact h
    · rw [List.getElem?_append_left (List.getElem?_eq_some_iff.1 h).1]; exact h
  · exact h
theorem numI_at {xs : List ByteArray} {s : ByteArray} (hm : mayB s = true) : ∃ i : Nat, numI xs s = (i : Int) ∧ (numL xs s)[i]? = some s := by
  cases e : idx xs s with
  | some i =>
    refine ⟨i, by simp [numI, hm, e], ?_⟩
    rw [numL_old e]; exact (idx_some e).2.1
  | none =>
    refine ⟨xs.length, by simp [numI, hm, e], ?_⟩
    rw [numL_new hm e]; simp
theorem idx_of {xs : List ByteArray} (hn : xs.Nodup) {i : Nat} {s : ByteArray} (h : xs[i]? = some s) : idx xs s = some i := by
  obtain ⟨h1, h2⟩ := List.getElem?_eq_some_iff.1 h
  rw [← h2]; exact idx_at hn h1
theorem nameS_of {xs : List ByteArray} {i : Nat} {s : ByteArray} (h : xs[i]? = some s) : nameS xs (i : Int) = s := by
  unfold nameS
  rw [if_pos (by omega), Int.toNat_natCast, List.getD_eq_getElem?_getD, h]; rfl
theorem ij_of {ys : List ByteArray} (hn : ys.Nodup) {i j : Nat} {a b : ByteArray} (h1 : ys[i]? = some a) (h2 : ys[j]? = some b) : a = b ↔ i = j := by
  constructor
  · rintro rfl
    have e1 := idx_of hn h1
    rw [idx_of hn h2] at e1
    exact (Option.some.inj e1).symm
  · rintro rfl
    rw [h1] at h2
    exact Option.some.inj h2
/-- Behind some steps: the table, the names, and what the law's walk keeps. -/
def Ran (w1 : World) (B : Nat) (g : Nat) (ops : List S31) (l : Value) (w' : World) : Prop :=
  ∃ (fp ok : Nat → Prop), St w' B fp ok g l (runS [] ops) ∧ Mod [] w1 w'
set_option maxRecDepth 100000 in
set_option maxHeartbeats 2000000 in
theorem names_any (A : Option Addr) (c : Nat) (ops : List S31) (a b : ByteArray) (w : World) (hr : Kd.C k31 w A ops.length ops) (hc : ops.length ≤ c) :
    Calls Try.prog 4 #[.slice A ops.length c, .string a, .string b] w fun e w' => e = .returned (.bool true) ∧ Mod [] w w' := by
  have HL := light_any A c ops w hr hc
  by_cases hall : lightB ops = true ∧ a.size ≤ 200 ∧ b.size ≤ 200
  · obtain ⟨hlb, ha, hb⟩ := hall
    obtain ⟨hl60, hl200⟩ := lightB_true hlb
    rw [hlb] at HL
    have HR := Lib.hid hr
    have H200 := Lib.hid hl200
    clear hlb hr hl200
    go_enter Try.func4, Try.ntmps4
    go_wp2_with fail
    refine HL.mono ?_
    rintro e w1 ⟨rfl, hm1⟩
    go_wp2_with fail
    refine (new_any w1).mono ?_
    rintro e w2 ⟨rfl, hm2, ht2⟩
    have HST := Lib.hid (St.start hm2 ht2)
    have HR1 := Lib.hid (C_mod HR.out hm1)
    have HM1 := Lib.hid hm1
    have HM2 := Lib.hid hm2
    clear hm1 hm2 ht2 HR
    generalize (fun k => k = w1.heap.size ∨ k = w1.heap.size + 1) = fp0 at *
    generalize w1.heap.size + 1 = g at *
    obtain ⟨B, hB⟩ : ∃ B, w1.heap.size = B := ⟨_, rfl⟩
    rw [hB] at HST
    have HB := Lib.hid hB
    clear hB
    go_wp2_with fail
    go_loopw [8, 9] (fun l i wr => ∃ (k : Nat) (v : Value), k ≤ ops.length ∧ i = .int .i64 (k : Int) ∧ v = l ∧ Ran w1 B g (ops.take k) v wr) (fun _ i _ => ops.length - (intOf i).toNat)
    case atStart => exact ⟨0, _, by omega, rfl, rfl, fp0, nobody, HST.out, HM2.out⟩
    case round =>
      obtain ⟨k, v, hk, rfl, rfl, fp, ok, hst, hbl⟩ := hrel
      have hrl := runS_len [] (ops.take k)
      rw [List.length_take, Nat.min_eq_left hk] at hrl
      simp only [List.length_nil, Nat.zero_add] at hrl
      by_cases hlt : k < ops.length
      · obtain ⟨ad, rfl, p0, p1⟩ := op_at HR1.out k hlt
        have o0 := hbl.cell p0 (by simp)
        have o1 := hbl.cell p1 (by simp)
        clear p0 p1
        have HSN := Lib.hid (runS_snoc [] ops k hlt)
        have hsz := H200.out ops[k] (List.getElem_mem hlt)
        have hki : (0 : Int) ≤ (k : Int) := by omega
        have hki2 : (k : Int) < (ops.length : Int) := by omega
        generalize ops[k].f0 = kd at *
        generalize ops[k].f1 = nm at *
        generalize runS [] (ops.take k) = xs at *
        have HS := step_any wr B fp ok g v xs kd nm hst (by omega) hsz
        have HST' := Lib.hid hst
        clear hst
        go_wp2_with fail
        refine HS.mono ?_
        rintro e w3 ⟨v', fp', ok', rfl, hf3, hst3, _, _⟩
        have hbl3 : Mod [] w1 w3 := ((Fr.of_mod0 (F := nobody) hbl).trans hf3 (fun t ht => .inr (by
          rw [HB.out]
          exact ht.elim (HST'.out.fpB t) (HST'.out.okB t)))).mod (fun _ h => h.elim)
        have HBL3 := Lib.hid hbl3
        have HST3 := Lib.hid hst3
        clear hbl hbl3 hst3 hf3 o0 o1
        go_wp2
        go_roundw
        case rel => exact ⟨k + 1, v', by omega, by go_num, rfl, fp', ok', by rw [HSN.out]; exact HST3.out, HBL3.out⟩
        case measure => simp [intOf]; omega
      · have hkn : k = ops.length := by omega
        subst hkn
        rw [List.take_length] at hst hrl
        generalize runS [] ops = xs at *
        have HST9 := Lib.hid hst
        have hn2 := numL_len xs a
        have N1 := number_any wr fp g xs a hst.tab (by unfold maxLen; omega) (by omega)
        have HBL := Lib.hid hbl
        clear hst hbl
        have hnd1 : (numL xs a).Nodup := numL_nodup HST9.out.nd
        have hnd2 : (numL (numL xs a) b).Nodup := numL_nodup hnd1
        have MA := may_any a
        have MB := may_any b
        have fin : ∀ w3 w4 w5 : World, Fr fp wr w3 → Fr (grow fp wr w3) w3 w4 → Mod [] w4 w5 → Mod [] w w5 := fun w3 w4 w5 h3 h4 h5 => by
          have f4 : Fr fp wr w4 := h3.grow h4
          exact (HM1.out.trans0 ((((Fr.of_mod0 (F := nobody) HBL.out).trans f4 (fun t ht => .inr (by rw [HB.out]; exact HST9.out.fpB t ht))).mod (fun _ h => h.elim)))).trans0 h5
        have FIN := Lib.hid fin
        clear fin
        by_cases hma : mayB a = true
        · by_cases hmb : mayB b = true
          · obtain ⟨i, hi, hi2⟩ := numI_at (xs := xs) hma
            obtain ⟨j, hj, hj2⟩ := numI_at (xs := numL xs a) hmb
            have hi3 := numL_ext (t := b) hi2
            have e1 := Lib.hid (nameS_of hi3)
            have e2 := Lib.hid (nameS_of hj2)
            have e3 := Lib.hid (idx_of hnd2 hi3)
            have ij := ij_of hnd2 hi3 hj2
            have IJ := Lib.hid ij
            rw [hi, show numE a = 0 by simp [numE, hma]] at N1
            have N2 := fun w3 fp3 (h3 : Tab w3 fp3 g (numL xs a)) => number_any w3 fp3 g (numL xs a) b h3 (by unfold maxLen; omega) (by omega)
            rw [hj, show numE b = 0 by simp [numE, hmb]] at N2
            rw [hma] at MA
            rw [hmb] at MB
            clear hi hj hi2 hj2 hi3 hnd1 hnd2 ij hma hmb hn2
            generalize numL (numL xs a) b = ys at *
            generalize numL xs a = zs at *
            go_wp2_with fail
            refine N1.mono ?_
            rintro e w3 ⟨rfl, hf3, ht3⟩
            go_wp2_with fail
            refine (N2 w3 _ ht3).mono ?_
            rintro e w4 ⟨rfl, hf4, ht4⟩
            have HF3 := Lib.hid hf3
            have HF4 := Lib.hid hf4
            clear hf3 hf4 ht3
            go_wp2_with fail
            refine (MA w4).mono ?_
            rintro e w5 ⟨rfl, hm5⟩
            go_wp2_with fail
            refine (MB w5).mono ?_
            rintro e w6 ⟨rfl, hm6⟩
            have ht6 := (ht4.mod hm5).mod hm6
            have n1 := name_any w6 _ g ys (i : Int) ht6
            have n2 := name_any w6 _ g ys (j : Int) ht6
            have fd := find_any w6 _ g ys a ht6 (by unfold maxLen; omega)
            rw [e1.out] at n1
            rw [e2.out] at n2
            rw [e3.out] at fd
            simp only [Option.getD_some, Option.isSome_some] at fd
            have HM6 := Lib.hid (FIN.out w3 w4 w6 HF3.out HF4.out (hm5.trans0 hm6))
            clear ht4 ht6 hm5 hm6
            go_wp2_with fail
            refine n1.mono ?_
            rintro e w7 ⟨rfl, rfl⟩
            go_wp2_with fail
            refine fd.mono ?_
            rintro e w7 ⟨rfl, rfl⟩
            by_cases hab : a = b
            · have hij := IJ.out.1 hab
              subst hab hij
              go_wp2_with (first | (go_at_call 16; refine n1.mono ?_; rintro e w7 ⟨rfl, rfl⟩) | (go_at_call 8; refine (lives_any _).mono ?_; rintro e w8 ⟨rfl, hm8⟩))
              go_ret
              exact ⟨rfl, HM6.out.trans0 hm8⟩
            · have hij : ¬ i = j := fun e => hab (IJ.out.2 e)
              have t1 : ((i : Int) == (j : Int)) = false := by simp; omega
              have t2 : (i == j) = false := by simpa using hij
              have t3 : (a.toList == b.toList) = false := by
                rw [beq_eq_false_iff_ne]; exact fun e => hab (toList_inj e)
              clear hab hij
              go_wp2_with fail
              refine n1.mono ?_
              rintro e w7 ⟨rfl, rfl⟩
              go_wp2_with fail
              refine n2.mono ?_
              rintro e w7 ⟨rfl, rfl⟩
              go_wp2_with (go_at_call 8; refine (lives_any _).mono ?_; rintro e w8 ⟨rfl, hm8⟩)
              go_ret
              exact ⟨rfl, HM6.out.trans0 hm8⟩
          · have hmb' : mayB b = false := by simpa using hmb
            rw [show numE a = 0 by simp [numE, hma]] at N1
            have N2 := fun w3 fp3 (h3 : Tab w3 fp3 g (numL xs a)) => number_any w3 fp3 g (numL xs a) b h3 (by unfold maxLen; omega) (by omega)
            rw [show numE b = 1 by simp [numE, hmb']] at N2
            rw [hma] at MA
            rw [hmb'] at MB
            clear hnd1 hnd2 hma hmb hmb' hn2
            generalize numI (numL xs a) b = j at *
            generalize numL (numL xs a) b = ys at *
            generalize numI xs a = i at *
            generalize numL xs a = zs at *
            go_wp2_with fail
            refine N1.mono ?_
            rintro e w3 ⟨rfl, hf3, ht3⟩
            go_wp2_with fail
            refine (N2 w3 _ ht3).mono ?_
            rintro e w4 ⟨rfl, hf4, ht4⟩
            have HF3 := Lib.hid hf3
            have HF4 := Lib.hid hf4
            clear hf3 hf4 ht3 ht4
            go_wp2_with fail
            refine (MA w4).mono ?_
            rintro e w5 ⟨rfl, hm5⟩
            go_wp2_with fail
            refine (MB w5).mono ?_
            rintro e w6 ⟨rfl, hm6⟩
            have HM6 := Lib.hid (FIN.out w3 w4 w6 HF3.out HF4.out (hm5.trans0 hm6))
            clear hm5 hm6
            go_wp2_with (go_at_call 8; refine (lives_any _).mono ?_; rintro e w8 ⟨rfl, hm8⟩)
            go_ret
            exact ⟨rfl, HM6.out.trans0 hm8⟩
        · have hma' : mayB a = false := by simpa using hma
          have N2 := fun w3 fp3 (h3 : Tab w3 fp3 g (numL xs a)) => number_any w3 fp3 g (numL xs a) b h3 (by unfold maxLen; omega) (by omega)
          rw [show numE a = 1 by simp [numE, hma']] at N1
          rw [hma'] at MA
          clear hnd1 hnd2 hma hma' hn2
          by_cases hmb : mayB b = true
          · rw [show numE b = 0 by simp [numE, hmb]] at N2
            rw [hmb] at MB
            clear hmb
            generalize numI (numL xs a) b = j at *
            generalize numL (numL xs a) b = ys at *
            generalize numI xs a = i at *
            generalize numL xs a = zs at *
            go_wp2_with fail
            refine N1.mono ?_
            rintro e w3 ⟨rfl, hf3, ht3⟩
            go_wp2_with fail
            refine (N2 w3 _ ht3).mono ?_
            rintro e w4 ⟨rfl, hf4, ht4⟩
            have HF3 := Lib.hid hf3
            have HF4 := Lib.hid hf4
            clear hf3 hf4 ht3 ht4
            go_wp2_with fail
            refine (MA w4).mono ?_
            rintro e w5 ⟨rfl, hm5⟩
            go_wp2_with fail
            refine (MB w5).mono ?_
            rintro e w6 ⟨rfl, hm6⟩
            have HM6 := Lib.hid (FIN.out w3 w4 w6 HF3.out HF4.out (hm5.trans0 hm6))
            clear hm5 hm6
            go_wp2_with (go_at_call 8; refine (lives_any _).mono ?_; rintro e w8 ⟨rfl, hm8⟩)
            go_ret
            exact ⟨rfl, HM6.out.trans0 hm8⟩
          · have hmb' : mayB b = false := by simpa using hmb
            rw [show numE b = 1 by simp [numE, hmb']] at N2
            rw [hmb'] at MB
            clear hmb hmb'
            generalize numI (numL xs a) b = j at *
            generalize numL (numL xs a) b = ys at *
            generalize numI xs a = i at *
            generalize numL xs a = zs at *
            go_wp2_with fail
            refine N1.mono ?_
            rintro e w3 ⟨rfl, hf3, ht3⟩
            go_wp2_with fail
            refine (N2 w3 _ ht3).mono ?_
            rintro e w4 ⟨rfl, hf4, ht4⟩
            have HF3 := Lib.hid hf3
            have HF4 := Lib.hid hf4
            clear hf3 hf4 ht3 ht4
            go_wp2_with fail
            refine (MA w4).mono ?_
            rintro e w5 ⟨rfl, hm5⟩
            go_wp2_with fail
            refine (MB w5).mono ?_
            rintro e w6 ⟨rfl, hm6⟩
            have HM6 := Lib.hid (FIN.out w3 w4 w6 HF3.out HF4.out (hm5.trans0 hm6))
            clear hm5 hm6
            go_wp2_with (go_at_call 8; refine (lives_any _).mono ?_; rintro e w8 ⟨rfl, hm8⟩)
            go_ret
            exact ⟨rfl, HM6.out.trans0 hm8⟩
  · have HLi := lives_any
    by_cases hlb : lightB ops = true
    · rw [hlb] at HL
      by_cases ha : a.size ≤ 200
      · have hb : ¬ b.size ≤ 200 := fun hb => hall ⟨hlb, ha, hb⟩
        have ta : ¬ (200 : Int) < (a.size : Int) := by omega
        have tb : (200 : Int) < (b.size : Int) := by omega
        clear hall hlb
        go_enter Try.func4, Try.ntmps4
        go_wp2_with fail
        refine HL.mono ?_
        rintro e w1 ⟨rfl, hm1⟩
        go_wp2_with (go_at_call 8; refine (lives_any _).mono ?_; rintro e w8 ⟨rfl, hm8⟩)
        go_ret
        exact ⟨rfl, hm1.trans0 hm8⟩
      · have ta : (200 : Int) < (a.size : Int) := by omega
        clear hall hlb
        go_enter Try.func4, Try.ntmps4
        go_wp2_with fail
        refine HL.mono ?_
        rintro e w1 ⟨rfl, hm1⟩
        go_wp2_with (go_at_call 8; refine (lives_any _).mono ?_; rintro e w8 ⟨rfl, hm8⟩)
        go_ret
        exact ⟨rfl, hm1.trans0 hm8⟩
    · have hlb' : lightB ops = false := by simpa using hlb
      rw [hlb'] at HL
      clear hlb hlb' hall
      go_enter Try.func4, Try.ntmps4
      go_wp2_with fail
      refine HL.mono ?_
      rintro e w1 ⟨rfl, hm1⟩
      go_wp2_with (go_at_call 8; refine (lives_any _).mono ?_; rintro e w8 ⟨rfl, hm8⟩)
      go_ret
      exact ⟨rfl, hm1.trans0 hm8⟩
theorem names_walk {H : Type} {enc : TypeId × Value → H} (v : Value) (d : DataW H) (p : List MemPlace) (a b : ByteArray) (w : World) (ho : Value.okWide Try.prog w .any 0 22 v) (h : DataW.Trod enc Try.prog w 0 (fun _ => true) true 22 v d p) (ha : a.size ≤ 140737488351232) (hb : b.size ≤ 140737488351232) :
    Calls Try.prog 4 #[v, .string a, .string b] w fun e w' => e = .returned (.bool true) ∧ Mod [] w w' := by
  obtain ⟨A, c, ops, rfl, hc, hr, hb⟩ := ops_open ho h
  exact names_any A c ops a b w hr hc
end Go.Proofs.Ytmopnchballegaa
