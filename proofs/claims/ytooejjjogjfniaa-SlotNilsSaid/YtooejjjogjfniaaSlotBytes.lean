/- The bytes of a page: the program's. -/
import Derived.Test.YtooejjjogjfniaaSlotDrop
import Derived.Test.YtooejjjogjfniaaWZeros
set_option linter.unusedVariables false
set_option linter.unusedSimpArgs false
namespace Go.Proofs.Ytooejjjogjfniaa
open Go.RowKit Go.Proofs.YtooejjjogjfniaaW.PrintWords Go.Proofs.Ytooejjjogjfniaa.PSlotRoom Go.Proofs.YtooejjjogjfniaaW.PrintLast
def lenN (x : S42) : Nat := if x.f0 = true then x.f1.size + 1 else 0
def ent (x : S42) : List Int := [((lenN x / 256 : Nat) : Int), ((lenN x % 256 : Nat) : Int)]
def ents (l : List S42) : List Int := l.flatMap ent
def datas (l : List S42) : List Int := l.flatMap (fun x => bys x.f1)
def bytesN (l : List S42) : List Int := ((l.length : Nat) : Int) :: ents l ++ datas l ++ List.replicate (512 - need l) 0
def bytesS (l : List S42) : ByteArray := strOfNums (bytesN l)
theorem ents_len (l : List S42) : (ents l).length = 2 * l.length := by
  induction l with
  | nil => rfl
  | cons x l ih => simp [ents, ent] at *; omega
theorem datas_len (l : List S42) : (datas l).length = szs l := by
  induction l with
  | nil => rfl
  | cons x l ih => rw [szs_cons, ← ih]; simp [datas, bys_length]
theorem ents_snoc (l : List S42) (k : Nat) (h : k < l.length) : ents (l.take (k + 1)) = ents (l.take k) ++ ent l[k] := by
  unfold ents; rw [List.take_succ_eq_append_getElem h, List.flatMap_append]; simp
theorem datas_snoc (l : List S42) (k : Nat) (h : k < l.length) : datas (l.take (k + 1)) = datas (l.take k) ++ bys l[k].f1 := by
  unfold datas; rw [List.take_succ_eq_append_getElem h, List.flatMap_append]; simp
theorem lenN_le {l : List S42} (h : Inv l) (k : Nat) (hk : k < l.length) : l[k].f1.size ≤ 511 ∧ lenN l[k] ≤ 512 := by
  have h1 := szs_mem (List.getElem_mem hk)
  have h2 := h.nd
  unfold need at h2
  unfold lenN
  split <;> omega
theorem u8_hi {n : Nat} (h : n ≤ 65535) : IntKind.u8.wrap ((n : Int) / 256) = ((n / 256 : Nat) : Int) := by rw [IntKind.wrap_u8]; omega
theorem u8_lo (n : Nat) : IntKind.u8.wrap (n : Int) = ((n % 256 : Nat) : Int) := by rw [IntKind.wrap_u8]; omega
theorem bytes_nil (w : World) : Calls Try.prog 17 #[.pointer none] w fun e w' => e = .returned (.string ⟨#[]⟩) ∧ w = w' := by
  go_enter Try.func17, Try.ntmps17
  go_wp2
  go_ret
  exact ⟨rfl, rfl⟩
set_option maxRecDepth 100000 in
set_option maxHeartbeats 2000000 in
theorem bytes_any (w : World) (fp : Nat → Prop) (g : Nat) (l : List S42) (h : Pg w fp g l) (hi : Inv l) :
    Calls Try.prog 17 #[.pointer (some ⟨g, 0, none⟩)] w fun e w' => e = .returned (.string (bytesS l)) ∧ Mod [] w w' := by
  have hln := hi.len
  obtain ⟨A, c, h1, hc, _, hr⟩ := h.open
  have c0 := (blk_cell h1 0).trans rfl
  have HC0 := Lib.hid c0
  have HR := Lib.hid hr
  have q0 : IntKind.u8.wrap (l.length : Int) = (l.length : Int) := by rw [IntKind.wrap_u8]; omega
  have hz := Lib.hid (show (w.alloc (.cells #[.int .u8 (l.length : Int)] 5)).ownsRow w.heap.size 5 1 (.slice (some ⟨w.heap.size, 0, none⟩) 1 1) [(l.length : Int)].length (nums .u8 [(l.length : Int)]) from own_lit w w.heap.size 5 .u8 [(l.length : Int)] (Nat.le_refl _) (by simp))
  have hm0 := (Mod.refl [] w).alloc (.cells #[.int .u8 (l.length : Int)] 5)
  have HM0 := Lib.hid hm0
  have HI := Lib.hid hi
  have hnd := hi.nd
  have hzn := szs_need l
  clear h1 hr hm0 hi
  go_enter Try.func17, Try.ntmps17
  go_upto_region 4 with fail
  have d0 := HM0.out.cell HC0.out (by simp)
  clear c0
  generalize w.alloc _ = w1 at *
  obtain ⟨B, hB⟩ : ∃ B, w.heap.size = B := ⟨_, rfl⟩
  rw [hB] at hz ⊢
  have HB := Lib.hid hB
  clear hB
  go_wp2_with fail
  clear d0
  go_loopw [3, 5, 6, 23] (fun v _ _ i wr => ∃ k : Nat, i = .int .i64 (k : Int) ∧ k ≤ l.length ∧ wr.ownsRow B 5 1 v ((l.length : Int) :: ents (l.take k)).length (nums .u8 ((l.length : Int) :: ents (l.take k))) ∧ Mod [] w wr) (fun _ _ _ i _ => l.length - (intOf i).toNat)
  case atStart => exact ⟨0, rfl, Nat.zero_le _, by simpa [ents] using hz.out, HM0.out⟩
  case round =>
    obtain ⟨k, rfl, hk, hown, hm⟩ := hrel
    by_cases hlt : k < l.length
    · obtain ⟨ad, rfl, p0, p1⟩ := sl_at (C_mod HR.out hm) k hlt
      have hki : (0 : Int) ≤ (k : Int) := by omega
      have hki2 : (k : Int) < (l.length : Int) := by omega
      obtain ⟨hsz, hle⟩ := lenN_le HI.out k hlt
      have HE := Lib.hid (ents_snoc l k hlt)
      have hel := ents_len (l.take k)
      rw [List.length_take, Nat.min_eq_left hk] at hel
      have hbb : B ≤ wr.heap.size := by rw [← HB.out]; exact hm.size
      have hent : ent l[k] = [((lenN l[k] / 256 : Nat) : Int), ((lenN l[k] % 256 : Nat) : Int)] := rfl
      have HEN := Lib.hid hent
      clear hent
      have hlv : lenN l[k] = if l[k].f0 = true then l[k].f1.size + 1 else 0 := rfl
      have HLV := Lib.hid hlv
      clear hlv
      generalize ents (l.take k) = xs at *
      have HO := Lib.hid hown
      clear hown
      by_cases hf : l[k].f0 = true
      · have _u := hf
        rw [hf] at p0
        have e1 := HLV.out
        rw [if_pos hf] at e1
        have hmb := hm.alloc (.cells #[.bool true, .string l[k].f1] 60)
        have hob := ((Mod.refl [] wr).alloc (.cells #[.bool true, .string l[k].f1] 60)).own HO.out (fun _ _ => by simp)
        have b0 := (blk_cell (blk_new wr (.cells #[.bool true, .string l[k].f1] 60)) 0).trans rfl
        have b1 := (blk_cell (blk_new wr (.cells #[.bool true, .string l[k].f1] 60)) 1).trans rfl
        rw [e1] at HEN
        generalize l[k].f1 = s at *
        have x1 : IntKind.u8.wrap (((s.size : Int) + 1) / 256) = (((s.size + 1) / 256 : Nat) : Int) := by rw [IntKind.wrap_u8]; omega
        have x2 : IntKind.u8.wrap ((s.size : Int) + 1) = (((s.size + 1) % 256 : Nat) : Int) := by rw [IntKind.wrap_u8]; omega
        have HMB := Lib.hid hmb
        have HOB := Lib.hid hob
        clear e1 hf  hmb hob
        go_upto_region 10 with fail
        clear b0 b1
        have hb5 : B ≤ (wr.alloc (.cells #[.bool true, .string s] 60)).heap.size := by rw [World.size_alloc]; omega
        generalize wr.alloc (.cells #[.bool true, .string s] 60) = w5 at *
        have how := ((Mod.refl [] w5).alloc (.cells #[.int .u8 (((s.size + 1) / 256 : Nat) : Int), .int .u8 (((s.size + 1) % 256 : Nat) : Int)] 5)).own HOB.out (fun _ _ => by simp)
        have hrd : ReadsInt (w5.alloc (.cells #[.int .u8 (((s.size + 1) / 256 : Nat) : Int), .int .u8 (((s.size + 1) % 256 : Nat) : Int)] 5)) .u8 (some ⟨w5.heap.size, 0, none⟩) 2 [(((s.size + 1) / 256 : Nat) : Int), (((s.size + 1) % 256 : Nat) : Int)] := reads_lit w5 .u8 [(((s.size + 1) / 256 : Nat) : Int), (((s.size + 1) % 256 : Nat) : Int)] 5 (0, 0) (by simp)
        have hmw := HMB.out.alloc (.cells #[.int .u8 (((s.size + 1) / 256 : Nat) : Int), .int .u8 (((s.size + 1) % 256 : Nat) : Int)] 5)
        have HOW := Lib.hid how
        have HRD := Lib.hid hrd
        have HMW := Lib.hid hmw
        have hbw : B ≤ (w5.alloc (.cells #[.int .u8 (((s.size + 1) / 256 : Nat) : Int), .int .u8 (((s.size + 1) % 256 : Nat) : Int)] 5)).heap.size := by rw [World.size_alloc]; omega
        have hwB : w.heap.size ≤ B := by rw [HB.out]; exact Nat.le_refl _
        have hl2 : (((l.length : Int) :: xs).length + 2) * 1 ≤ 140737488355328 := by simp; omega
        clear how hrd hmw
        go_wp2_with (at_builtin; refine append_row (S := []) (a0 := w) B rfl (.tmp 33) (.tmp 39) 58 5 .u8 1 rfl Try.underlying58 info5 (by decide) u3 ((l.length : Int) :: xs) [(((s.size + 1) / 256 : Nat) : Int), (((s.size + 1) % 256 : Nat) : Int)] (some ⟨w5.heap.size, 0, none⟩) 2 2 rfl rfl HOW.out HRD.out HMW.out hwB hbw hl2 ?_; intro v1 w6 hown1 hm6 hg6 _; have HO6 := Lib.hid hown1; have HM6 := Lib.hid hm6; clear hown1 hm6 hg6)
        go_roundw
        case rel => exact ⟨k + 1, by go_num, by omega, by rw [HE.out, HEN.out]; exact HO6.out, HM6.out⟩
        case measure => simp [intOf]; omega
      · have hf' : l[k].f0 = false := by simpa using hf
        rw [hf'] at p0
        have e1 := HLV.out
        rw [if_neg hf] at e1
        have hmb := hm.alloc (.cells #[.bool false, .string l[k].f1] 60)
        have hob := ((Mod.refl [] wr).alloc (.cells #[.bool false, .string l[k].f1] 60)).own HO.out (fun _ _ => by simp)
        have b0 := (blk_cell (blk_new wr (.cells #[.bool false, .string l[k].f1] 60)) 0).trans rfl
        have b1 := (blk_cell (blk_new wr (.cells #[.bool false, .string l[k].f1] 60)) 1).trans rfl
        rw [e1] at HEN
        generalize l[k].f1 = s at *
        have x1 : IntKind.u8.wrap (0 / 256) = ((0 / 256 : Nat) : Int) := by rw [IntKind.wrap_u8]; omega
        have x2 : IntKind.u8.wrap (0) = ((0 % 256 : Nat) : Int) := by rw [IntKind.wrap_u8]; omega
        have HMB := Lib.hid hmb
        have HOB := Lib.hid hob
        clear e1 hf hf' hmb hob
        go_upto_region 10 with fail
        clear b0 b1
        have hb5 : B ≤ (wr.alloc (.cells #[.bool false, .string s] 60)).heap.size := by rw [World.size_alloc]; omega
        generalize wr.alloc (.cells #[.bool false, .string s] 60) = w5 at *
        have how := ((Mod.refl [] w5).alloc (.cells #[.int .u8 ((0 / 256 : Nat) : Int), .int .u8 ((0 % 256 : Nat) : Int)] 5)).own HOB.out (fun _ _ => by simp)
        have hrd : ReadsInt (w5.alloc (.cells #[.int .u8 ((0 / 256 : Nat) : Int), .int .u8 ((0 % 256 : Nat) : Int)] 5)) .u8 (some ⟨w5.heap.size, 0, none⟩) 2 [((0 / 256 : Nat) : Int), ((0 % 256 : Nat) : Int)] := reads_lit w5 .u8 [((0 / 256 : Nat) : Int), ((0 % 256 : Nat) : Int)] 5 (0, 0) (by simp)
        have hmw := HMB.out.alloc (.cells #[.int .u8 ((0 / 256 : Nat) : Int), .int .u8 ((0 % 256 : Nat) : Int)] 5)
        have HOW := Lib.hid how
        have HRD := Lib.hid hrd
        have HMW := Lib.hid hmw
        have hbw : B ≤ (w5.alloc (.cells #[.int .u8 ((0 / 256 : Nat) : Int), .int .u8 ((0 % 256 : Nat) : Int)] 5)).heap.size := by rw [World.size_alloc]; omega
        have hwB : w.heap.size ≤ B := by rw [HB.out]; exact Nat.le_refl _
        have hl2 : (((l.length : Int) :: xs).length + 2) * 1 ≤ 140737488355328 := by simp; omega
        clear how hrd hmw
        go_wp2_with (at_builtin; refine append_row (S := []) (a0 := w) B rfl (.tmp 33) (.tmp 39) 58 5 .u8 1 rfl Try.underlying58 info5 (by decide) u3 ((l.length : Int) :: xs) [((0 / 256 : Nat) : Int), ((0 % 256 : Nat) : Int)] (some ⟨w5.heap.size, 0, none⟩) 2 2 rfl rfl HOW.out HRD.out HMW.out hwB hbw hl2 ?_; intro v1 w6 hown1 hm6 hg6 _; have HO6 := Lib.hid hown1; have HM6 := Lib.hid hm6; clear hown1 hm6 hg6)
        go_roundw
        case rel => exact ⟨k + 1, by go_num, by omega, by rw [HE.out, HEN.out]; exact HO6.out, HM6.out⟩
        case measure => simp [intOf]; omega
    · have hkn : k = l.length := by omega
      subst hkn
      rw [List.take_length] at hown
      have hel := ents_len l
      have HO1 := Lib.hid hown
      have d0 := hm.cell HC0.out (by simp)
      have HM1 := Lib.hid hm
      have hwB : w.heap.size ≤ B := by rw [HB.out]; exact Nat.le_refl _
      have hbb : B ≤ wr.heap.size := by rw [← HB.out]; exact hm.size
      clear hown hm
      obtain ⟨xs, hxs⟩ : ∃ xs, ents l = xs := ⟨_, rfl⟩
      rw [hxs] at HO1 hel
      have HXS := Lib.hid hxs
      clear hxs
      obtain ⟨wo, rfl⟩ : ∃ wo : World, wo = wr := ⟨_, rfl⟩
      go_upto_block 2 with fail
      clear d0
      go_wp2_with fail
      go_loopw [3, 8, 47] (fun v _ i wq => ∃ k : Nat, i = .int .i64 (k : Int) ∧ k ≤ l.length ∧ wq.ownsRow B 5 1 v ((l.length : Int) :: xs ++ datas (l.take k)).length (nums .u8 ((l.length : Int) :: xs ++ datas (l.take k))) ∧ Mod [] w wq) (fun _ _ i _ => l.length - (intOf i).toNat)
      case atStart => exact ⟨0, rfl, Nat.zero_le _, by simpa [datas] using HO1.out, HM1.out⟩
      case round =>
        obtain ⟨k, rfl, hk, hown, hm⟩ := hrel
        have hbr : B ≤ wr.heap.size := by rw [← HB.out]; exact hm.size
        have hdl := datas_len (l.take k)
        have hdt := szs_take_le l k
        by_cases hlt : k < l.length
        · obtain ⟨ad, rfl, p0, p1⟩ := sl_at (C_mod HR.out hm) k hlt
          have hki : (0 : Int) ≤ (k : Int) := by omega
          have hki2 : (k : Int) < (l.length : Int) := by omega
          obtain ⟨hsz, _⟩ := lenN_le HI.out k hlt
          have HE := Lib.hid (datas_snoc l k hlt)
          have HO := Lib.hid hown
          clear hown
          generalize hds : datas (l.take k) = ds at *
          clear hds
          have hmb := hm.alloc (.cells #[.bool l[k].f0, .string l[k].f1] 60)
          have hob := ((Mod.refl [] wr).alloc (.cells #[.bool l[k].f0, .string l[k].f1] 60)).own HO.out (fun _ _ => by simp)
          have b1 := (blk_cell (blk_new wr (.cells #[.bool l[k].f0, .string l[k].f1] 60)) 1).trans rfl
          generalize l[k].f0 = b at *
          generalize l[k].f1 = s at *
          have HMB := Lib.hid hmb
          have HOB := Lib.hid hob
          clear hmb hob
          go_upto_region 15 with fail
          have hb5 : B ≤ (wr.alloc (.cells #[.bool b, .string s] 60)).heap.size := by rw [World.size_alloc]; omega
          generalize wr.alloc (.cells #[.bool b, .string s] 60) = w5 at *
          have hl2 : ((l.length : Int) :: xs ++ ds).length + s.size ≤ 140737488355328 := by simp; omega
          go_wp2_with (at_builtin; refine print_append_str (w0 := w5) B rfl (.tmp 51) (.tmp 53) 58 9 5 rfl Try.underlying58 Try.underlying9 info5 u3 ((l.length : Int) :: xs ++ ds) s rfl rfl HOB.out (Below.refl B w5) hb5 hl2 ?_; intro v1 w6 hown1 hb6 hg6; have HO6 := Lib.hid hown1; have HG6 := Lib.hid hg6; have HB6 := Lib.hid hb6; clear hown1 hb6 hg6)
          go_roundw
          case rel => exact ⟨k + 1, by go_num, by omega, by rw [HE.out, ← List.append_assoc]; exact HO6.out, Mod.of_grown_own HG6.out (own_base HOB.out) HMB.out hwB⟩
          case measure => simp [intOf]; omega
        · have hkn : k = l.length := by omega
          subst hkn
          rw [List.take_length] at hown hdl
          have hbl : ((l.length : Int) :: xs ++ datas l).length = need l := by rw [List.length_append, List.length_cons, hel, hdl]; unfold need; omega
          have HBL := Lib.hid hbl
          have hR := Kd.R_of_own (enc := Value.int .u8) (h1 := fun _ => rfl) (ok := fun _ => True) hown (fun _ _ => trivial)
          have HRO := Lib.hid hR
          have hvs : ∃ A2 c2, u3 = .slice A2 (need l) c2 := by
            obtain ⟨A2, c2, e2, _⟩ := own_form hown
            exact ⟨A2, c2, by rw [e2, hbl]⟩
          obtain ⟨A2, c2, rfl⟩ := hvs
          have hbs : strOfNums (((l.length : Int) :: xs ++ datas l) ++ List.replicate (512 - (need l : Int)).toNat 0) = bytesS l := by
            unfold bytesS bytesN
            rw [HXS.out, show (512 - (need l : Int)).toNat = 512 - need l by omega]
          have HBS := Lib.hid hbs
          have hl2 : (((l.length : Int) :: xs ++ datas l).length + (512 - (need l : Int)).toNat) * 1 ≤ 140737488355328 := by rw [hbl]; omega
          have hz0 : (0 : Int) ≤ 512 - (need l : Int) := by omega
          have HZ0 := Lib.hid hz0
          have HL2 := Lib.hid hl2
          clear hown hbl hdl hdt hel hbs hz0 hl2 hR
          generalize datas l = ds at *
          generalize need l = nn at *
          obtain ⟨bs, hbe⟩ : ∃ bs, bytesS l = bs := ⟨_, rfl⟩
          rw [hbe] at HBS
          have HBE := Lib.hid hbe
          clear hbe
          go_wp2_with (at_builtin; refine Kd.R_append_zeros (Kd.scalar (Value.int .u8) (fun _ => rfl)) (w0 := wr) B rfl (.tmp 56) (.tmp 59) 58 3 5 (.int .u8 0) 1 rfl Try.underlying58 Try.underlying3 info5 rfl (by decide) (by decide) (.slice A2 nn c2) ((l.length : Int) :: xs ++ ds) (0 : Int) (512 - (nn : Int)) (fun _ => True) rfl rfl rfl (fun _ _ => trivial) HRO.out HZ0.out (Below.refl B wr) hbr HL2.out ?_; intro v1 w6 hr6 hb6 hg6 _; have hcv : (convert 58 9 v1).run Try.prog w6 = .ok (.string bs) w6 := (by rw [← HBS.out]; exact own_string Try.underlying58 Try.underlying5 Try.underlying9 (Kd.own_of_R hr6)); have HG6 := Lib.hid hg6; clear hr6 hb6 hg6)
          go_ret
          refine ⟨by rw [HBE.out]; rfl, Mod.of_grown_own HG6.out (fun k hk => ?_) hm hwB⟩
          obtain ⟨inner, ho⟩ := Kd.R_own HRO.out
          exact own_base ho k hk
end Go.Proofs.Ytooejjjogjfniaa
