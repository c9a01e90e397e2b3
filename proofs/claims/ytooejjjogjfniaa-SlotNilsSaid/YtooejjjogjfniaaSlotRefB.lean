/- The document's bytes. -/
import Derived.Test.YtooejjjogjfniaaSlotMade
set_option linter.unusedVariables false
set_option linter.unusedSimpArgs false
namespace Go.Proofs.Ytooejjjogjfniaa
open Go.RowKit Go.Proofs.YtooejjjogjfniaaW.PrintWords Go.Proofs.Ytooejjjogjfniaa.PSlotRoom Go.Proofs.YtooejjjogjfniaaW.PrintLast
theorem str_bys (s : ByteArray) : strOfNums (bys s) = s := by
  refine data_inj ?_
  rw [strOfNums_data, bys, List.map_map]
  conv => rhs; rw [← List.map_id s.data.toList]
  exact List.map_congr_left (fun x _ => by simp)
theorem conv_lit (w : World) (xs : List Int) (hm : xs.length ≤ 9223372036854775807) :
    (convert 58 9 (.slice (some ⟨w.heap.size, 0, none⟩) xs.length xs.length)).run Try.prog (w.alloc (.cells (xs.map (Value.int .u8)).toArray 5)) = .ok (.string (strOfNums xs)) (w.alloc (.cells (xs.map (Value.int .u8)).toArray 5)) :=
  string_of_reads Try.underlying58 Try.underlying5 Try.underlying9 (reads_lit w .u8 xs 5 (0, 0) hm)
theorem conv_one (w : World) (x : Int) : (convert 58 9 (.slice (some ⟨w.heap.size, 0, none⟩) 1 1)).run Try.prog (w.alloc (.cells #[.int .u8 x] 5)) = .ok (.string (strOfNums [x])) (w.alloc (.cells #[.int .u8 x] 5)) := conv_lit w [x] (by simp)
theorem conv_two (w : World) (x y : Int) : (convert 58 9 (.slice (some ⟨w.heap.size, 0, none⟩) 2 2)).run Try.prog (w.alloc (.cells #[.int .u8 x, .int .u8 y] 5)) = .ok (.string (strOfNums [x, y])) (w.alloc (.cells #[.int .u8 x, .int .u8 y] 5)) := conv_lit w [x, y] (by simp)
/-- Where a slot of the document's row lies. -/
theorem ref_at {w : World} {A : Option Addr} {l : List S42} (hr : Kd.C k42 w A l.length l) (i : Nat) (h : i < l.length) :
    ∃ ad : Addr, A = some ad ∧ w.cell? (ad.add (i * 2)) = some (.bool l[i].f0) ∧ w.cell? ⟨(ad.add (i * 2)).block, (ad.add (i * 2)).off + 1, none⟩ = some (.string l[i].f1) := by
  have := at_T42 hr (i : Int) (by omega) (by omega)
  rwa [rd42 l i h, Int.toNat_natCast] at this
set_option maxRecDepth 100000 in
set_option maxHeartbeats 2000000 in
theorem refBytes_any (A : Option Addr) (c : Nat) (l : List S42) (w : World) (hr : Kd.C k42 w A l.length l) (hc : l.length ≤ c) (hi : Inv l) :
    Calls Try.prog 24 #[.slice A l.length c] w fun e w' => e = .returned (.string (bytesS l)) ∧ Mod [] w w' := by
  have hln := hi.len
  have HR := Lib.hid hr
  have HI := Lib.hid hi
  have q0 : IntKind.u8.wrap (l.length : Int) = (l.length : Int) := by rw [IntKind.wrap_u8]; omega
  have hcv := conv_one w (l.length : Int)
  have HM0 := Lib.hid ((Mod.refl [] w).alloc (.cells #[.int .u8 (l.length : Int)] 5))
  clear hr hi
  go_enter Try.func24, Try.ntmps24
  go_wp2_with fail
  clear hcv q0
  generalize w.alloc _ = w1 at *
  go_loopw [3, 4, 5] (fun a b i wr => ∃ k : Nat, i = .int .i64 (k : Int) ∧ k ≤ l.length ∧ a = .string (strOfNums ((l.length : Int) :: ents (l.take k))) ∧ b = .string (strOfNums (datas (l.take k))) ∧ Mod [] w wr) (fun _ _ i _ => l.length - (intOf i).toNat)
  case atStart => exact ⟨0, rfl, by omega, by simp [ents], by simp [datas]; rfl, HM0.out⟩
  case round =>
    obtain ⟨k, rfl, hk, rfl, rfl, hm⟩ := hrel
    by_cases hlt : k < l.length
    · obtain ⟨ad, rfl, p0, p1⟩ := ref_at HR.out k hlt
      have o0 := hm.cell p0 (by simp)
      have o1 := hm.cell p1 (by simp)
      have hki : (0 : Int) ≤ (k : Int) := by omega
      have hki2 : (k : Int) < (l.length : Int) := by omega
      obtain ⟨hsz, hle⟩ := lenN_le HI.out k hlt
      have hE : strOfNums ((l.length : Int) :: ents (l.take (k + 1))) = strOfNums ((l.length : Int) :: ents (l.take k)) ++ strOfNums (ent l[k]) := by rw [← str_append, ents_snoc l k hlt, List.cons_append]
      have hD : strOfNums (datas (l.take (k + 1))) = strOfNums (datas (l.take k)) ++ l[k].f1 := by rw [datas_snoc l k hlt, str_append, str_bys]
      have HE := Lib.hid hE
      have HD := Lib.hid hD
      have hent : ent l[k] = [((lenN l[k] / 256 : Nat) : Int), ((lenN l[k] % 256 : Nat) : Int)] := rfl
      have hlv : lenN l[k] = if l[k].f0 = true then l[k].f1.size + 1 else 0 := rfl
      have HEN := Lib.hid hent
      have HLV := Lib.hid hlv
      have hel := ents_len (l.take k)
      rw [List.length_take, Nat.min_eq_left hk] at hel
      have hdl := datas_len (l.take k)
      have hdt := szs_take_le l k
      have hzn := szs_need l
      have hnd := HI.out.nd
      have hs1 : (strOfNums ((l.length : Int) :: ents (l.take k))).size ≤ 200 := by rw [str_size, List.length_cons, hel]; omega
      have hs2 : (strOfNums (datas (l.take k))).size ≤ 600 := by rw [str_size, hdl]; omega
      have hs3 : (strOfNums (ent l[k])).size = 2 := by rw [str_size, HEN.out]; rfl
      clear p0 p1 hE hD hent hlv hel hdl hdt hzn hnd
      generalize ent l[k] = en at *
      generalize strOfNums ((l.length : Int) :: ents (l.take k)) = s1 at *
      generalize strOfNums (datas (l.take k)) = s2 at *
      generalize hb : l[k].f0 = b at *
      generalize l[k].f1 = s at *
      generalize lenN l[k] = n at *
      clear hb
      cases b
      · obtain rfl : n = 0 := by have := HLV.out; simpa using this
        have HM1 := Lib.hid (hm.alloc (.cells #[.int .u8 (0), .int .u8 (0)] 5))
        have hcv := conv_two wr (0) (0)
        have o1b := ((Mod.refl [] wr).alloc (.cells #[.int .u8 (0), .int .u8 (0)] 5)).cell o1 (by simp)
        have hen : [(0 : Int), 0] = en := by rw [HEN.out]; simp
        rw [hen] at hcv
        have HMM := Lib.hid hm
        clear hen hm
        go_wp2_with fail
        clear hcv
        go_roundw
        case rel => exact ⟨k + 1, by go_num, by omega, by rw [HE.out], by rw [HD.out], HM1.out⟩
        case measure => simp [intOf]; omega
      · obtain rfl : n = s.size + 1 := by have := HLV.out; simpa using this
        have x1 : IntKind.u8.wrap (((s.size : Int) + 1) / 256) = ((s.size : Int) + 1) / 256 := by rw [IntKind.wrap_u8]; omega
        have x2 : IntKind.u8.wrap (((s.size : Int) + 1) % 256) = ((s.size : Int) + 1) % 256 := by rw [IntKind.wrap_u8]; omega
        have HM1 := Lib.hid (hm.alloc (.cells #[.int .u8 (((s.size : Int) + 1) / 256), .int .u8 (((s.size : Int) + 1) % 256)] 5))
        have hcv := conv_two wr (((s.size : Int) + 1) / 256) (((s.size : Int) + 1) % 256)
        have o1b := ((Mod.refl [] wr).alloc (.cells #[.int .u8 (((s.size : Int) + 1) / 256), .int .u8 (((s.size : Int) + 1) % 256)] 5)).cell o1 (by simp)
        have hen : [(((s.size : Int) + 1) / 256 : Int), ((s.size : Int) + 1) % 256] = en := by rw [HEN.out]; simp
        rw [hen] at hcv
        have HMM := Lib.hid hm
        clear hen hm
        go_wp2_with fail
        clear hcv
        go_roundw
        case rel => exact ⟨k + 1, by go_num, by omega, by rw [HE.out], by rw [HD.out], HM1.out⟩
        case measure => simp [intOf]; omega
    · have hkn : k = l.length := by omega
      subst hkn
      have hki2 : ¬ ((l.length : Nat) : Int) < (l.length : Int) := by omega
      rw [List.take_length]
      have hel := ents_len l
      have hdl := datas_len l
      have hnd := HI.out.nd
      have hzn := szs_need l
      have hneed : need l = 1 + 2 * l.length + szs l := rfl
      have hs1 : (strOfNums ((l.length : Int) :: ents l)).size ≤ 200 := by rw [str_size, List.length_cons, hel]; omega
      have hs2 : (strOfNums (datas l)).size ≤ 600 := by rw [str_size, hdl]; omega
      have hs12 : (strOfNums ((l.length : Int) :: ents l) ++ strOfNums (datas l)).size = need l := by rw [size_app, str_size, str_size, List.length_cons, hel, hdl]; omega
      have hall : strOfNums ((l.length : Int) :: ents l) ++ strOfNums (datas l) ++ strOfNums (List.replicate (512 - need l) (0 : Int)) = bytesS l := by
        unfold bytesS bytesN
        rw [← str_append, ← str_append]
      have HA := Lib.hid hall
      obtain ⟨bs, hbs⟩ : ∃ bs, strOfNums (List.replicate (512 - need l) (0 : Int)) = bs := ⟨_, rfl⟩
      have hbz : bs.size ≤ 512 := by rw [← hbs, str_size, List.length_replicate]; omega
      have HBS := Lib.hid hbs
      have HM := Lib.hid hm
      obtain ⟨out, hout⟩ : ∃ out, bytesS l = out := ⟨_, rfl⟩
      rw [hbs] at HA
      rw [hout] at HA
      have HOUT := Lib.hid hout
      clear hbs hall hout hm
      generalize strOfNums ((l.length : Int) :: ents l) = s1 at *
      generalize strOfNums (datas l) = s2 at *
      generalize need l = nn at *
      have HS12 := Lib.hid hs12
      have hle12 : (s1 ++ s2).size ≤ 512 := by omega
      have hle13 : s1.size + s2.size ≤ 512 := by rw [size_app] at hs12; omega
      have hsz0 : (512 - ((s1.size : Int) + (s2.size : Int))).toNat = 512 - nn := by rw [size_app] at hs12; omega
      have HSZ := Lib.hid hsz0
      clear hs12 hsz0 hneed hel hdl
      go_wp2_with (at_make; refine Kd.R_make (Kd.scalar (Value.int .u8) (fun _ => rfl)) _ 5 rfl (N := 54) rfl 58 _ _ rfl (512 - ((s1.size : Int) + (s2.size : Int))) rfl rfl Try.underlying58 (.int .u8 0) 1 info5 rfl (by decide) (by omega) 0 (ok := fun _ => True) (okp := fun _ => True) rfl (fun _ hk => hk) trivial (by omega) (by rw [HSZ.out]; omega) (Below.refl _ _) (Nat.le_refl _) ?_; intro v1 w5 hr5 hb5 hg5 hn5; have hcv : (convert 58 9 v1).run Try.prog w5 = .ok (.string bs) w5 := (by rw [← HBS.out, ← HSZ.out]; exact own_string Try.underlying58 Try.underlying5 Try.underlying9 (Kd.own_of_R hr5)); have HB5 := Lib.hid (Mod.of_below hb5); clear hr5 hb5 hg5 hn5)
      go_ret
      exact ⟨by rw [HOUT.out, ← HA.out]; rfl, HM.out.trans0 HB5.out⟩
end Go.Proofs.Ytooejjjogjfniaa
