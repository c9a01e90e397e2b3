/- Writing of numbers and bytes, as the program and the document do it: each comes to plain lists of bytes. -/
import Derived.Test.YtopfaafgfgjfaaaObRef
import Derived.WalkSpells
import Derived.Laws.BitsAllLaws
set_option linter.unusedVariables false
set_option linter.unusedSimpArgs false
namespace Go.Proofs.Ytopfaafgfgjfaaa
open Go.RowKit Go.Proofs.YtopfaafgfgjfaaaW.PrintWords
theorem info5 : (Try.prog.info? 5).map (fun i => (i.zero, i.size, i.bytes)) = some (some (.int .u8 0), 1, 1) := by kernel_rfl
theorem bclone_any (A : Option Addr) (n c : Nat) (bs : List Int) (w : World) (hr : ReadsInt w .u8 A n bs) (hn : n ≤ 140737488355000) :
    Calls Try.prog 48 #[.slice A n c] w fun e w' => ∃ v, e = .returned v ∧ Mod [] w w' ∧ w'.ownsRow w.heap.size 5 1 v bs.length (nums .u8 bs) := by
  have hm0 := (Mod.refl [] w).alloc (.cells #[] 5)
  have hr0 := hm0.reads hr (by simp)
  have H0 := own_lit w w.heap.size 5 .u8 [] (Nat.le_refl _) (by simp)
  have HL := Lib.hid hr.1
  have kn := fun (w : World) (A : Option Addr) (n c : Nat) => Lib.run_eql_slice_nil (P := Try.prog) w 50 5 A n c 0 0 Try.underlying50
  cases A with
  | none =>
    have h0 : n = 0 := by
      rcases Nat.eq_zero_or_pos n with h | h
      · exact h
      · obtain ⟨a, e, _⟩ := hr.2.2 h; cases e
    subst h0
    obtain rfl : bs = [] := List.eq_nil_of_length_eq_zero HL.out
    go_enter Try.func48, Try.ntmps48
    go_wp2
    go_ret
    exact ⟨_, rfl, Mod.refl _ _, own_nil _ _ _ _⟩
  | some a =>
    go_enter Try.func48, Try.ntmps48
    go_wp2_with (at_builtin; refine append_row w.heap.size rfl (.tmp 5) (.tmp 6) 50 5 .u8 1 rfl Try.underlying50 info5 (by decide) _ [] bs (some a) n c rfl rfl H0 hr0 hm0 (Nat.le_refl _) (by simp) (by simp; omega) ?_; intro v1 w1 hown hm1 hg hat; clear hg hat)
    go_ret
    exact ⟨_, rfl, hm1, by simpa using hown⟩
/-- A number in sevens of bits, the lowest first. -/
def uput (n : Nat) : List Int := if n < 128 then [(n : Int)] else ((n % 128 + 128 : Nat) : Int) :: uput (n / 128)
termination_by n
decreasing_by omega
theorem uput_lo {n : Nat} (h : n < 128) : uput n = [(n : Int)] := by rw [uput, if_pos h]
theorem uput_hi {n : Nat} (h : ¬ n < 128) : uput n = ((n % 128 + 128 : Nat) : Int) :: uput (n / 128) := by rw [uput, if_neg h]
theorem uput_bytes (n : Nat) : Bytes (uput n) := by
  induction n using Nat.strongRecOn with
  | _ n ih =>
    by_cases h : n < 128
    · rw [uput_lo h]; intro b hb; simp at hb; omega
    · rw [uput_hi h]; intro b hb
      rcases List.mem_cons.1 hb with hb | hb
      · omega
      · exact ih _ (by omega) b hb
theorem uput_len (n : Nat) : ∀ k : Nat, n < 128 ^ (k + 1) → (uput n).length ≤ k + 1 := by
  induction n using Nat.strongRecOn with
  | _ n ih =>
    intro k hk
    by_cases h : n < 128
    · rw [uput_lo h]; simp
    · rw [uput_hi h, List.length_cons]
      cases k with
      | zero => simp at hk; omega
      | succ k =>
        rw [Nat.pow_succ] at hk
        have := ih (n / 128) (by omega) k (by omega)
        omega
theorem uput_len10 {n : Nat} (h : n < 18446744073709551616) : (uput n).length ≤ 10 := uput_len n 9 (by omega)
theorem uput_pos (n : Nat) : 0 < (uput n).length := by
  by_cases h : n < 128
  · rw [uput_lo h]; simp
  · rw [uput_hi h]; simp
theorem or128_all : ∀ x : Fin 256, (x.val ||| 128) = x.val % 128 + 128 := by decide +kernel
theorem or128 (y : Nat) : Go.bits .or .u8 ((y : Int) % 256) 128 = ((y % 128 + 128 : Nat) : Int) := by
  have e1 : (y : Int) % 256 = ((y % 256 : Nat) : Int) := by omega
  rw [e1, show (128 : Int) = ((128 : Nat) : Int) from rfl, Go.u8_or_nat _ _ (by omega) (by omega)]
  have := or128_all ⟨y % 256, by omega⟩
  simp only at this
  rw [this]; omega
set_option maxRecDepth 100000 in
theorem put_any (A : Option Addr) (n c x : Nat) (bs : List Int) (w : World) (hr : ReadsInt w .u8 A n bs) (hn : n ≤ 1000000) (hx : x < 18446744073709551616) :
    Calls Try.prog 55 #[.slice A n c, .int .u64 (x : Int)] w fun e w' => ∃ v, e = .returned v ∧ Mod [] w w' ∧ w'.ownsRow w.heap.size 5 1 v (bs ++ uput x).length (nums .u8 (bs ++ uput x)) := by
  have HL := Lib.hid hr.1
  have HX := Lib.hid hx
  clear hx
  go_enter Try.func55, Try.ntmps55
  go_wp2_with fail
  refine (bclone_any A n c bs w hr (by omega)).mono ?_
  rintro e w1 ⟨v, rfl, hm1, hown⟩
  have HO := Lib.hid hown
  have HM := Lib.hid hm1
  clear hown hm1
  go_wp2
  go_loopw [1, 5] (fun x' v wr => ∃ (y : Nat) (ys : List Int), y ≤ x ∧ x' = .int .u64 (y : Int) ∧ bs ++ uput x = ys ++ uput y ∧ Mod [] w wr ∧ wr.ownsRow w.heap.size 5 1 v ys.length (nums .u8 ys)) (fun x' _ _ => (intOf x').toNat)
  case atStart => exact ⟨x, bs, by omega, rfl, rfl, HM.out, HO.out⟩
  case round =>
    clear HM HO
    obtain ⟨y, ys, hy, rfl, hys, hm, hown⟩ := hrel
    have hl : ys.length ≤ 1000010 := by
      have h1 := congrArg List.length hys
      have h2 := uput_len10 HX.out
      rw [List.length_append, List.length_append, HL.out] at h1
      omega
    have HY := Lib.hid hys
    have HO := Lib.hid hown
    have hsz := hm.size
    clear hys hown
    by_cases hlt : 128 ≤ y
    · go_wp2_with (at_builtin; refine append_one w.heap.size rfl (.tmp 12) (.tmp 16) 50 5 .u8 1 rfl Try.underlying50 info5 (by decide) _ ys _ rfl rfl HO.out hm (Nat.le_refl _) hsz (by omega) ?_; intro v1 w1 hown1 hm1 hg hat; clear hg hat)
      go_roundw
      case rel =>
        refine ⟨y / 128, _, by omega, by go_num, ?_, hm1, hown1⟩
        rw [HY.out, uput_hi (by omega), or128]; simp
      case measure => simp [intOf]; omega
    · go_wp2_with (at_builtin; refine append_one w.heap.size rfl (.tmp 18) (.tmp 21) 50 5 .u8 1 rfl Try.underlying50 info5 (by decide) _ ys _ rfl rfl HO.out hm (Nat.le_refl _) hsz (by omega) ?_; intro v1 w1 hown1 hm1 hg hat; clear hg hat)
      go_ret
      have e : bs ++ uput x = ys ++ [(y : Int)] := by rw [HY.out, uput_lo (by omega)]
      exact ⟨_, rfl, hm1, by rw [e]; exact hown1⟩
theorem encCount_any (A : Option Addr) (n c : Nat) (x : Int) (bs : List Int) (w : World) (hr : ReadsInt w .u8 A n bs) (hn : n ≤ 1000000) (hx : -9223372036854775808 ≤ x) (hx' : x ≤ 9223372036854775807) :
    Calls Try.prog 41 #[.slice A n c, .int .i64 x] w fun e w' => ∃ v, e = .returned v ∧ Mod [] w w' ∧ w'.ownsRow w.heap.size 5 1 v (bs ++ uput x.toNat).length (nums .u8 (bs ++ uput x.toNat)) := by
  by_cases h0 : 0 ≤ x
  · go_enter Try.func41, Try.ntmps41
    go_wp2_with fail
    obtain ⟨y, rfl⟩ := Int.eq_ofNat_of_zero_le h0
    refine (put_any A n c y bs w hr hn (by omega)).mono ?_
    rintro e w1 ⟨v, rfl, hm, hown⟩
    have HO := Lib.hid hown
    clear hown
    go_wp2
    go_ret
    exact ⟨_, rfl, hm, by rw [Int.toNat_natCast]; exact HO.out⟩
  · have h0' : x < 0 := by omega
    go_enter Try.func41, Try.ntmps41
    go_wp2_with fail
    refine (put_any A n c 0 bs w hr hn (by omega)).mono ?_
    rintro e w1 ⟨v, rfl, hm, hown⟩
    have E0 := Lib.hid (show x.toNat = 0 by omega)
    have HO := Lib.hid hown
    clear hown
    go_wp2
    go_ret
    exact ⟨_, rfl, hm, by rw [E0.out]; exact HO.out⟩
/-- A whole number as one that isn't below 0. -/
def zz (x : Int) : Nat := if 0 ≤ x then 2 * x.toNat else 2 * (-x - 1).toNat + 1
theorem zz_lt {x : Int} (hx : -9223372036854775808 ≤ x) (hx' : x ≤ 9223372036854775807) : zz x < 18446744073709551616 := by unfold zz; split <;> omega
theorem zz_bits {x : Int} (hx : -9223372036854775808 ≤ x) (hx' : x ≤ 9223372036854775807) :
    Go.bits .xor .u64 (IntKind.u64.wrap (IntKind.u64.wrap x * 2)) (IntKind.u64.wrap (x / 9223372036854775808)) = (zz x : Int) := by
  simp only [IntKind.wrap_u64]
  unfold zz
  by_cases h : 0 ≤ x
  · rw [if_pos h]
    have e1 : x / 9223372036854775808 % 18446744073709551616 = ((0 : Nat) : Int) := by omega
    have e2 : x % 18446744073709551616 * 2 % 18446744073709551616 = ((2 * x.toNat : Nat) : Int) := by omega
    rw [e1, e2, Go.u64_xor_nat _ _ (by omega) (by omega), Nat.xor_zero]
  · rw [if_neg h]
    have e1 : x / 9223372036854775808 % 18446744073709551616 = ((18446744073709551615 : Nat) : Int) := by omega
    obtain ⟨m, hm⟩ : ∃ m : Nat, x = -(m : Int) - 1 := ⟨(-x - 1).toNat, by omega⟩
    have e2 : x % 18446744073709551616 * 2 % 18446744073709551616 = ((18446744073709551614 - 2 * m : Nat) : Int) := by omega
    rw [e1, e2, Go.u64_xor_nat _ _ (by omega) (by omega)]
    have e3 : (-x - 1).toNat = m := by omega
    rw [e3]
    have h4 : (BitVec.ofNat 64 (18446744073709551614 - 2 * m) ^^^ BitVec.allOnes 64) = ~~~(BitVec.ofNat 64 (18446744073709551614 - 2 * m)) := BitVec.xor_allOnes
    have h5 := congrArg BitVec.toNat h4
    simp only [BitVec.toNat_xor, BitVec.toNat_allOnes, BitVec.toNat_not, BitVec.toNat_ofNat] at h5
    rw [Nat.mod_eq_of_lt (by omega)] at h5
    have h6 : (18446744073709551614 - 2 * m) ^^^ 18446744073709551615 = 18446744073709551615 - (18446744073709551614 - 2 * m) := by simpa using h5
    rw [h6]; omega
theorem encWhole_any (A : Option Addr) (n c : Nat) (x : Int) (bs : List Int) (w : World) (hr : ReadsInt w .u8 A n bs) (hn : n ≤ 1000000) (hx : -9223372036854775808 ≤ x) (hx' : x ≤ 9223372036854775807) :
    Calls Try.prog 42 #[.slice A n c, .int .i64 x] w fun e w' => ∃ v, e = .returned v ∧ Mod [] w w' ∧ w'.ownsRow w.heap.size 5 1 v (bs ++ uput (zz x)).length (nums .u8 (bs ++ uput (zz x))) := by
  go_enter Try.func42, Try.ntmps42
  go_wp2_with fail
  rw [zz_bits hx hx']
  refine (put_any A n c (zz x) bs w hr hn (zz_lt hx hx')).mono ?_
  rintro e w1 ⟨v, rfl, hm, hown⟩
  have HO := Lib.hid hown
  clear hown
  go_wp2
  go_ret
  exact ⟨_, rfl, hm, HO.out⟩
theorem encSized_any (A D : Option Addr) (n c m k : Nat) (bs ds : List Int) (w : World) (hr : ReadsInt w .u8 A n bs) (hn : n ≤ 1000000) (hd : ReadsInt w .u8 D m ds) (hm' : m ≤ 1000000) :
    Calls Try.prog 43 #[.slice A n c, .slice D m k] w fun e w' => ∃ v, e = .returned v ∧ Mod [] w w' ∧ w'.ownsRow w.heap.size 5 1 v (bs ++ (uput m ++ ds)).length (nums .u8 (bs ++ (uput m ++ ds))) := by
  have HL := Lib.hid hr.1
  go_enter Try.func43, Try.ntmps43
  go_wp2_with fail
  refine (encCount_any A n c m bs w hr hn (by omega) (by omega)).mono ?_
  rintro e w1 ⟨v, rfl, hm, hown⟩
  rw [Int.toNat_natCast] at hown
  have hl : (bs ++ uput m).length + m ≤ 140737488355000 := by
    have := uput_len10 (n := m) (by omega)
    rw [List.length_append, HL.out]; omega
  have hd1 := hm.reads hd (by simp)
  have hsz := hm.size
  generalize hzs : bs ++ uput m = zs at hown hl
  have HZ := Lib.hid hzs
  have HO := Lib.hid hown
  clear hown hzs
  go_wp2_with (at_builtin; refine append_row w.heap.size rfl (.tmp 8) (.tmp 9) 50 5 .u8 1 rfl Try.underlying50 info5 (by decide) _ zs ds D m k rfl rfl HO.out hd1 hm (Nat.le_refl _) hsz (by omega) ?_; intro v1 w2 hown1 hm1 hg hat; clear hg hat)
  go_ret
  exact ⟨_, rfl, hm1, by rw [← List.append_assoc, HZ.out]; exact hown1⟩
end Go.Proofs.Ytopfaafgfgjfaaa
