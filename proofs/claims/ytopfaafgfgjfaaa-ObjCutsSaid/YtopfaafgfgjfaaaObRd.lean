/- The reader of the program: bytes, counts, whole numbers, sized bytes, the end. -/
import Derived.Test.YtopfaafgfgjfaaaObEnc
import Derived.BigQuiet
import Derived.Deep.QuietTactic
import Derived.Deep.DeepCutAuto
import Derived.Deep.RegionHeld3
import Derived.OpenShut
import Derived.IntWalk
set_option linter.unusedVariables false
set_option linter.unusedSimpArgs false
namespace Go.Proofs.Ytopfaafgfgjfaaa
open Go.RowKit Go.Proofs.YtopfaafgfgjfaaaW.PrintWords
/-- A reader at block g: its bytes (behind A), how far it is, its fault. -/
structure Rdr (w : World) (g : Nat) (A : Option Addr) (c : Nat) (bs : List Int) (p : Nat) (e : Int) : Prop where
  blk : w.heap[g]? = some (.cells #[.slice A bs.length c, .int .i64 (p : Int), .int .i64 e] 81 (0, 0))
  cap : bs.length ≤ c
  reads : ReadsInt w .u8 A bs.length bs
  off : ∀ a, A = some a → 0 < bs.length → a.block ≠ g
  bytes : Bytes bs
  le : p ≤ bs.length
  max : bs.length ≤ 1000000
theorem Rdr.mod {S : List Nat} {w w' : World} {g : Nat} {A : Option Addr} {c : Nat} {bs : List Int} {p : Nat} {e : Int} (h : Rdr w g A c bs p e) (hm : Mod S w w') (hg : g ∉ S) (hA : ∀ a, A = some a → 0 < bs.length → a.block ∉ S) : Rdr w' g A c bs p e :=
  ⟨hm.blk h.blk hg, h.cap, hm.reads h.reads hA, h.off, h.bytes, h.le, h.max⟩
theorem Rdr.set {w w' : World} {g : Nat} {A : Option Addr} {c : Nat} {bs : List Int} {p : Nat} {e : Int} (h : Rdr w g A c bs p e) (hm : Mod [g] w w') (p' : Nat) (e' : Int) (hp : p' ≤ bs.length)
    (hb : w'.heap[g]? = some (.cells #[.slice A bs.length c, .int .i64 (p' : Int), .int .i64 e'] 81 (0, 0))) : Rdr w' g A c bs p' e' :=
  ⟨hb, h.cap, hm.reads h.reads (fun a ea hn => by simpa using h.off a ea hn), h.off, h.bytes, hp, h.max⟩
theorem Rdr.c0 {w : World} {g : Nat} {A : Option Addr} {c : Nat} {bs : List Int} {p : Nat} {e : Int} (h : Rdr w g A c bs p e) : w.cell? ⟨g, 0, none⟩ = some (.slice A bs.length c) := by rw [blk_cell h.blk]; rfl
theorem Rdr.c1 {w : World} {g : Nat} {A : Option Addr} {c : Nat} {bs : List Int} {p : Nat} {e : Int} (h : Rdr w g A c bs p e) : w.cell? ⟨g, 1, none⟩ = some (.int .i64 (p : Int)) := by rw [blk_cell h.blk]; rfl
theorem Rdr.c2 {w : World} {g : Nat} {A : Option Addr} {c : Nat} {bs : List Int} {p : Nat} {e : Int} (h : Rdr w g A c bs p e) : w.cell? ⟨g, 2, none⟩ = some (.int .i64 e) := by rw [blk_cell h.blk]; rfl
theorem Rdr.fz {w : World} {g : Nat} {A : Option Addr} {c : Nat} {bs : List Int} {p : Nat} {e : Int} (h : Rdr w g A c bs p e) (i : Nat) : w.frozen? ⟨g, i, none⟩ = false := blk_frozen h.blk i
theorem read_any (A : Option Addr) (n c : Nat) (bs : List Int) (w : World) (hr : ReadsInt w .u8 A n bs) (hn : n ≤ 1000000) (hb : Bytes bs) :
    Calls Try.prog 29 #[.slice A n c] w fun e w' => ∃ g A1 c1, e = .returned (.pointer (some ⟨g, 0, none⟩)) ∧ Mod [] w w' ∧ w.heap.size ≤ g ∧ Rdr w' g A1 c1 bs 0 0 ∧ (∀ a, A1 = some a → w.heap.size ≤ a.block) := by
  have HL := Lib.hid hr.1
  go_enter Try.func29, Try.ntmps29
  go_wp2_with fail
  refine (bclone_any A n c bs w hr (by omega)).mono ?_
  rintro e w1 ⟨v, rfl, hm, hown⟩
  obtain ⟨A1, c1, rfl, hc1, hr1, hA1⟩ := own_form hown
  have hsz := hm.size
  have HN := Lib.hid (show bs.length ≤ 1000000 by have := HL.out; omega)
  clear hown
  go_wp2
  go_ret
  have hm1 := (Mod.refl [] w1).alloc (.cells #[.slice A1 bs.length c1, .int .i64 0, .int .i64 0] 81)
  exact ⟨w1.heap.size, A1, c1, rfl, hm.trans0 hm1, hsz, ⟨blk_new w1 _, hc1, hm1.reads hr1 (by simp), fun a e _ => by have := hA1 a e; omega, hb, by omega, HN.out⟩, fun a e => (hA1 a e).1⟩
theorem rest_any (g : Nat) (A : Option Addr) (c : Nat) (bs : List Int) (p : Nat) (e : Int) (w : World) (h : Rdr w g A c bs p e) :
    Calls Try.prog 50 #[.pointer (some ⟨g, 0, none⟩)] w fun e w' => e = .returned (.int .i64 ((bs.length - p : Nat) : Int)) ∧ Mod [] w w' := by
  have c0 := h.c0
  have c1 := h.c1
  have hle := h.le
  have hmax := h.max
  have q1 : IntKind.i64.wrap ((bs.length : Int) - p) = (bs.length : Int) - p := IntWalk.i64_in _ (by omega)
  have E := Lib.hid (show (bs.length : Int) - p = ((bs.length - p : Nat) : Int) by omega)
  go_enter Try.func50, Try.ntmps50
  go_wp2
  go_quiet (fail)
  go_wp2
  go_ret
  exact ⟨by rw [← E.out]; rfl, (Mod.refl [] w).drewN _⟩
theorem fault_any (g : Nat) (A : Option Addr) (c : Nat) (bs : List Int) (p : Nat) (e : Int) (w : World) (h : Rdr w g A c bs p e) :
    Calls Try.prog 31 #[.pointer (some ⟨g, 0, none⟩)] w fun e' w' => e' = .returned (.int .i64 e) ∧ w = w' := by
  have c2 := h.c2
  go_enter Try.func31, Try.ntmps31
  go_wp2
  go_ret
  exact ⟨rfl, rfl⟩
theorem ready_any (g : Nat) (A : Option Addr) (c : Nat) (bs : List Int) (p : Nat) (e : Int) (w : World) (h : Rdr w g A c bs p e) :
    Calls Try.prog 49 #[.pointer (some ⟨g, 0, none⟩)] w fun e' w' => e' = .returned (.bool (e == 0)) ∧ w = w' := by
  have c2 := h.c2
  go_enter Try.func49, Try.ntmps49
  go_wp2
  go_ret
  exact ⟨rfl, rfl⟩
theorem fail_ok (g : Nat) (A : Option Addr) (c : Nat) (bs : List Int) (p : Nat) (f : Int) (w : World) (h : Rdr w g A c bs p 0) :
    Calls Try.prog 51 #[.pointer (some ⟨g, 0, none⟩), .int .i64 f] w fun e' w' => e' = .returned (.tuple #[]) ∧ Mod [g] w w' ∧ Rdr w' g A c bs p f := by
  have c2 := h.c2
  have f2 := h.fz 2
  go_enter Try.func51, Try.ntmps51
  go_wp2
  go_end0
  have hm := (Mod.refl [g] w).setCell (p := ⟨g, 2, none⟩) (by simp) (.int .i64 f)
  exact ⟨rfl, hm, h.set hm p f h.le (by rw [blk_set h.blk]; rfl)⟩
theorem info5_parts : ∃ i, Try.prog.info? 5 = some i ∧ i.size = 1 := by
  obtain ⟨i, hi, h⟩ := Option.map_eq_some_iff.1 info5
  exact ⟨i, hi, (by simp only [Prod.mk.injEq] at h; exact h.2.1)⟩
theorem p128 (k : Nat) : (2 : Nat) ^ (7 * k) = 128 ^ k := by rw [Nat.pow_mul]
theorem numacc (a k : Nat) (c : Int) (h0 : 0 ≤ c) (h1 : c ≤ 255) (ha : a < 128 ^ k) (hk : k ≤ 8 ∨ k = 9 ∧ c ≤ 1) :
    Go.bits .or .u64 (a : Int) (IntKind.u64.wrap (IntKind.u64.wrap (Go.bits .and .u8 c 127) * 2 ^ (7 * k))) = ((a + c.toNat % 128 * 128 ^ k : Nat) : Int) := by
  obtain ⟨n, rfl⟩ := Int.eq_ofNat_of_zero_le h0
  have e1 : Go.bits .and .u8 (n : Int) 127 = ((n % 128 : Nat) : Int) := by
    rw [show (127 : Int) = ((127 : Nat) : Int) from rfl, Go.u8_and_nat n 127 (by omega) (by decide), show (127 : Nat) = 2 ^ 7 - 1 from rfl, Nat.and_two_pow_sub_one_eq_mod]
  have e2 : (2 : Int) ^ (7 * k) = ((128 ^ k : Nat) : Int) := by rw [← p128]; simp
  rw [e1, e2, IntKind.wrap_u64, IntKind.wrap_u64, Int.toNat_natCast]
  have hm : n % 128 < 128 := Nat.mod_lt _ (by decide)
  have e3 : ((n % 128 : Nat) : Int) % 18446744073709551616 = ((n % 128 : Nat) : Int) := by omega
  rw [e3, ← Int.natCast_mul]
  have hlt : n % 128 * 128 ^ k < 18446744073709551616 := by
    rcases hk with hk | ⟨rfl, hc⟩
    · have : (128 : Nat) ^ k ≤ 128 ^ 8 := Nat.pow_le_pow_right (by decide) hk
      have h2 : n % 128 * 128 ^ k ≤ 127 * 128 ^ 8 := Nat.mul_le_mul (by omega) this
      omega
    · have : n ≤ 1 := by omega
      have h2 : n % 128 * 128 ^ 9 ≤ 1 * 128 ^ 9 := Nat.mul_le_mul_right _ (by omega)
      omega
  have hal : a < 18446744073709551616 := by
    have : (128 : Nat) ^ k ≤ 128 ^ 9 := Nat.pow_le_pow_right (by decide) (by omega)
    omega
  have e4 : ((n % 128 * 128 ^ k : Nat) : Int) % 18446744073709551616 = ((n % 128 * 128 ^ k : Nat) : Int) := Int.emod_eq_of_lt (by omega) (by omega)
  rw [e4, Go.u64_or_nat _ _ hal hlt]
  congr 1
  rw [Nat.or_comm, ← p128, Nat.mul_comm, ← Nat.two_pow_add_eq_or_of_lt (by rw [p128]; exact ha)]
  omega
/-- The number that comes next: its value, how many bytes it has, the fault. -/
def numL : List Int → Nat → Nat → Nat × Nat × Nat
  | [], _, _ => (0, 0, 3)
  | c :: cs, k, a =>
    if k = 10 ∨ k = 9 ∧ 1 < c then (0, 0, 4) else if c < 128 then (if c = 0 ∧ 0 < k then (0, 0, 4) else (a + c.toNat % 128 * 128 ^ k, k + 1, 0)) else numL cs (k + 1) (a + c.toNat % 128 * 128 ^ k)
theorem numL_at (ys : List Int) (k a : Nat) (h : k < ys.length) : numL (ys.drop k) k a = if k = 10 ∨ k = 9 ∧ 1 < rd ys (k : Int) then (0, 0, 4) else if rd ys (k : Int) < 128 then (if rd ys (k : Int) = 0 ∧ 0 < k then (0, 0, 4) else (a + (rd ys (k : Int)).toNat % 128 * 128 ^ k, k + 1, 0)) else numL (ys.drop (k + 1)) (k + 1) (a + (rd ys (k : Int)).toNat % 128 * 128 ^ k) := by
  have e : rd ys (k : Int) = ys[k] := by
    show ys.getD k 0 = _
    rw [List.getD_eq_getElem?_getD, List.getElem?_eq_getElem h]; rfl
  rw [List.drop_eq_getElem_cons h, numL, e]
def numV (r : Nat × Nat × Nat) : Value := .tuple #[.int .u64 (r.1 : Int), .int .i64 (r.2.1 : Int), .int .i64 (r.2.2 : Int)]
set_option maxHeartbeats 1000000 in
theorem number_any (g : Nat) (A : Option Addr) (c : Nat) (bs : List Int) (p : Nat) (e : Int) (w : World) (h : Rdr w g A c bs p e) :
    Calls Try.prog 52 #[.pointer (some ⟨g, 0, none⟩)] w fun e' w' => e' = .returned (numV (numL (bs.drop p) 0 0)) ∧ Mod [] w w' := by
  have c0 := h.c0
  have c1 := h.c1
  have hle := h.le
  have hmax := h.max
  obtain ⟨i5, hi5, hs5⟩ := info5_parts
  obtain ⟨A', hsl, hd⟩ := slice_from (t := 50) Try.underlying50 hi5 hs5 h.reads p h.le h.cap
  clear hi5 hs5
  obtain ⟨m, hm⟩ : ∃ m, bs.length - p = m := ⟨_, rfl⟩
  rw [hm] at hd hsl
  have hbd : Bytes (bs.drop p) := fun b hb => h.bytes b (List.mem_of_mem_drop hb)
  have hm2 : m ≤ 1000000 := by omega
  generalize bs.drop p = ys at hd hbd
  have HL := Lib.hid hd.1
  obtain ⟨R, hR⟩ : ∃ R, numL ys 0 0 = R := ⟨_, rfl⟩
  rw [hR]
  have HR := Lib.hid hR
  clear hm hR
  go_enter Try.func52, Try.ntmps52
  go_wp2
  go_quiet (fail)
  go_wp2
  go_loop [5, 20] (fun acc i => ∃ (k : Nat) (a : Nat), k ≤ m ∧ k ≤ 10 ∧ i = .int .i64 k ∧ acc = .int .u64 (a : Int) ∧ numL (ys.drop k) k a = R ∧ (k = 10 ∨ a < 128 ^ k)) (fun _ i => m - (intOf i).toNat)
  case atStart => exact ⟨0, 0, by omega, by omega, rfl, rfl, HR.out, .inr (by decide)⟩
  case round =>
    obtain ⟨k, a, hk, hk', rfl, rfl, hnum, ha⟩ := hrel
    have HN := Lib.hid hnum
    have HA := Lib.hid ha
    clear hnum ha
    by_cases hlt : k < m
    · obtain ⟨ad, rfl, hcell⟩ := hd.at_ k (by omega) (by omega)
      simp only [Int.toNat_natCast] at hcell
      have hb : 0 ≤ rd ys (k : Int) ∧ rd ys (k : Int) ≤ 255 := hbd.at_ k
      have hat := numL_at ys k a (by rw [HL.out]; exact hlt)
      rw [HN.out] at hat
      have HT := Lib.hid hat
      clear hat
      obtain ⟨y, hy⟩ : ∃ y, rd ys (k : Int) = y := ⟨_, rfl⟩
      rw [hy] at hb hcell HT
      clear hy
      obtain ⟨hb0, hb1⟩ := hb
      by_cases h10 : k = 10
      · have t1 : ((k : Int) == 10) = true := by rw [h10]; rfl
        have HF := Lib.hid (show R = (0, 0, 4) by rw [HT.out, if_pos (.inl h10)])
        clear h10
        go_wp2
        go_ret3
        exact ⟨by rw [HF.out]; rfl, (Mod.refl [] w).drewN _⟩
      · have t1 : ((k : Int) == 10) = false := beq_eq_false_iff_ne.2 (by omega)
        by_cases h9 : k = 9
        · have t2 : ((k : Int) == 9) = true := by rw [h9]; rfl
          by_cases hy1 : 1 < y
          · have HF := Lib.hid (show R = (0, 0, 4) by rw [HT.out, if_pos (.inr ⟨h9, hy1⟩)])
            have t3 : decide (1 < y) = true := by simpa using hy1
            clear h9 h10
            go_wp2
            go_ret3
            exact ⟨by rw [HF.out]; rfl, (Mod.refl [] w).drewN _⟩
          · have t3 : decide (1 < y) = false := by simpa using hy1
            have HAC := Lib.hid (numacc a k y hb0 hb1 (HA.out.resolve_left h10) (.inr ⟨h9, by omega⟩))
            have hk0 : 0 < k := by omega
            have hlt128 : y < 128 := by omega
            by_cases hy0 : y = 0
            · have HF := Lib.hid (show R = (0, 0, 4) by rw [HT.out, if_neg (by omega), if_pos hlt128, if_pos ⟨hy0, hk0⟩])
              have t4 : (y == 0) = true := by simpa using hy0
              clear h9 h10 hy0 hy1
              go_wp2
              go_ret3
              exact ⟨by rw [HF.out]; rfl, (Mod.refl [] w).drewN _⟩
            · have HF := Lib.hid (show R = (a + y.toNat % 128 * 128 ^ k, k + 1, 0) by rw [HT.out, if_neg (by omega), if_pos hlt128, if_neg (by omega)])
              have t4 : (y == 0) = false := by simpa using hy0
              clear h9 h10 hy0 hy1
              go_wp2
              go_ret3
              exact ⟨by rw [HF.out, numV, ← HAC.out]; rfl, (Mod.refl [] w).drewN _⟩
        · have t2 : ((k : Int) == 9) = false := beq_eq_false_iff_ne.2 (by omega)
          have HAC := Lib.hid (numacc a k y hb0 hb1 (HA.out.resolve_left h10) (.inl (by omega)))
          have hk8 : k ≤ 8 := by omega
          by_cases hlt128 : y < 128
          · by_cases hz : y = 0 ∧ 0 < k
            · obtain ⟨hy0, hk0⟩ := hz
              have HF := Lib.hid (show R = (0, 0, 4) by rw [HT.out, if_neg (by omega), if_pos hlt128, if_pos ⟨hy0, hk0⟩])
              have t4 : (y == 0) = true := by simpa using hy0
              clear h9 h10 hy0
              go_wp2
              go_ret3
              exact ⟨by rw [HF.out]; rfl, (Mod.refl [] w).drewN _⟩
            · have HF := Lib.hid (show R = (a + y.toNat % 128 * 128 ^ k, k + 1, 0) by rw [HT.out, if_neg (by omega), if_pos hlt128, if_neg hz])
              by_cases hy0 : y = 0
              · have t4 : (y == 0) = true := by simpa using hy0
                have hk0 : ¬ 0 < k := fun h => hz ⟨hy0, h⟩
                clear h9 h10 hy0 hz
                go_wp2
                go_ret3
                exact ⟨by rw [HF.out, numV, ← HAC.out]; rfl, (Mod.refl [] w).drewN _⟩
              · have t4 : (y == 0) = false := by simpa using hy0
                clear h9 h10 hy0 hz
                go_wp2
                go_ret3
                exact ⟨by rw [HF.out, numV, ← HAC.out]; rfl, (Mod.refl [] w).drewN _⟩
          · have HF := Lib.hid (show R = numL (ys.drop (k + 1)) (k + 1) (a + y.toNat % 128 * 128 ^ k) by rw [HT.out, if_neg (by omega), if_neg hlt128])
            have HB := Lib.hid (show a + y.toNat % 128 * 128 ^ k < 128 ^ (k + 1) by
              have h1 := HA.out.resolve_left h10
              have h2 : y.toNat % 128 * 128 ^ k ≤ 127 * 128 ^ k := Nat.mul_le_mul_right _ (by omega)
              rw [Nat.pow_succ]; omega)
            clear h9 h10
            go_wp2
            go_round
            case rel => exact ⟨k + 1, _, by omega, by omega, by go_num, by rw [HAC.out], HF.out.symm, .inr HB.out⟩
            case measure => simp [intOf]; omega
    · have hkm : k = m := by omega
      have HF := Lib.hid (show R = (0, 0, 3) by rw [← HN.out, List.drop_eq_nil_of_le (by rw [HL.out]; omega), numL])
      subst hkm
      go_wp2
      go_ret3
      exact ⟨by rw [HF.out]; rfl, (Mod.refl [] w).drewN _⟩
theorem numL_size (ys : List Int) : ∀ (k a n s : Nat), numL ys k a = (n, s, 0) → k < s ∧ s ≤ k + ys.length := by
  induction ys with
  | nil => intro k a n s h; simp [numL] at h
  | cons c cs ih =>
    intro k a n s h
    rw [numL] at h
    split at h
    · simp at h
    · split at h
      · split at h
        · simp at h
        · simp only [Prod.mk.injEq] at h; simp; omega
      · have := ih _ _ _ _ h; simp; omega
def rcount (bs : List Int) (p : Nat) (limit : Int) : Nat × Nat × Nat :=
  if (numL (bs.drop p) 0 0).2.2 ≠ 0 then (0, p, (numL (bs.drop p) 0 0).2.2)
  else if 9223372036854775808 ≤ (numL (bs.drop p) 0 0).1 then (0, p, 4)
  else if limit < 0 ∨ limit < (numL (bs.drop p) 0 0).1 then (0, p, 7)
  else ((numL (bs.drop p) 0 0).1, p + (numL (bs.drop p) 0 0).2.1, 0)
def CountPost (w : World) (g : Nat) (A : Option Addr) (c : Nat) (bs : List Int) (r : Nat × Nat × Nat) (e : Ending) (w' : World) : Prop :=
  e = .returned (.int .i64 (r.1 : Int)) ∧ Mod [g] w w' ∧ Rdr w' g A c bs r.2.1 (r.2.2 : Int)
theorem u64_int (n : Nat) (h : n < 9223372036854775808) : IntKind.i64.wrap (n : Int) = (n : Int) := IntWalk.i64_in _ (by omega)
def big : Nat := 9223372036854775808
set_option maxRecDepth 100000 in
set_option maxHeartbeats 1000000 in
theorem count_ready (g : Nat) (A : Option Addr) (c : Nat) (bs : List Int) (p : Nat) (limit : Int) (w : World) (h : Rdr w g A c bs p 0) (hl0 : -9223372036854775808 ≤ limit) (hl1 : limit ≤ 9223372036854775807) :
    Calls Try.prog 33 #[.pointer (some ⟨g, 0, none⟩), .int .i64 limit] w (CountPost w g A c bs (rcount bs p limit)) := by
  obtain ⟨⟨n, s, f⟩, hn⟩ : ∃ r, numL (bs.drop p) 0 0 = r := ⟨_, rfl⟩
  obtain ⟨R, hR⟩ : ∃ R, rcount bs p limit = R := ⟨_, rfl⟩
  rw [hR]
  unfold rcount at hR
  rw [hn] at hR
  have HR := Lib.hid hR
  have HN := Lib.hid hn
  clear hR hn
  have HL0 := Lib.hid hl0
  have HL1 := Lib.hid hl1
  clear hl0 hl1
  go_enter Try.func33, Try.ntmps33
  go_wp2_with fail
  refine (ready_any g A c bs p 0 w h).mono ?_
  rintro e w1 ⟨rfl, rfl⟩
  go_wp2_with fail
  refine (number_any g A c bs p 0 w h).mono ?_
  rintro e w1 ⟨rfl, hm⟩
  have h1 := h.mod hm (by simp) (by simp)
  rw [HN.out]
  unfold numV
  simp only
  by_cases hf : f = 0
  · subst hf
    have hs := numL_size _ _ _ _ _ HN.out
    have hlen := h.max
    have hle := h.le
    simp only [List.length_drop] at hs
    have t1 : (((0 : Nat) : Int) != 0) = false := rfl
    by_cases hbig : 9223372036854775808 ≤ n
    · have HF := Lib.hid (show R = (0, p, 4) by rw [← HR.out, if_neg (by simp), if_pos hbig])
      have t2 : decide ((9223372036854775808 : Int) ≤ (n : Int)) = true := by simp; omega
      clear hbig
      go_wp2_with fail
      refine (fail_ok g A c bs p 4 w1 h1).mono ?_
      rintro e w2 ⟨rfl, hm2, h2⟩
      go_wp2
      go_ret
      exact ⟨by rw [HF.out]; rfl, Mod.trans (Mod.weak hm (by simp)) hm2 (by simp), by rw [HF.out]; exact h2⟩
    · have t2 : decide ((9223372036854775808 : Int) ≤ (n : Int)) = false := by simp; omega
      have HB := Lib.hid hbig
      clear hbig
      by_cases hl : limit < 0 ∨ limit < n
      · have HF := Lib.hid (show R = (0, p, 7) by rw [← HR.out, if_neg (by simp), if_neg HB.out, if_pos hl])
        by_cases hl2 : limit < 0
        · have t3 : decide (limit < 0) = true := by simpa using hl2
          clear hl hl2
          go_wp2_with fail
          refine (fail_ok g A c bs p 7 w1 h1).mono ?_
          rintro e w2 ⟨rfl, hm2, h2⟩
          go_wp2
          go_ret
          exact ⟨by rw [HF.out]; rfl, Mod.trans (Mod.weak hm (by simp)) hm2 (by simp), by rw [HF.out]; exact h2⟩
        · have t3 : decide (limit < 0) = false := by simpa using hl2
          have q1 : IntKind.u64.wrap limit = limit := by rw [IntKind.wrap_u64]; have := HL1.out; omega
          have t4 : decide (limit < (n : Int)) = true := by simp; omega
          clear hl hl2
          go_wp2_with fail
          refine (fail_ok g A c bs p 7 w1 h1).mono ?_
          rintro e w2 ⟨rfl, hm2, h2⟩
          go_wp2
          go_ret
          exact ⟨by rw [HF.out]; rfl, Mod.trans (Mod.weak hm (by simp)) hm2 (by simp), by rw [HF.out]; exact h2⟩
      · have HF := Lib.hid (show R = (n, p + s, 0) by rw [← HR.out, if_neg (by simp), if_neg HB.out, if_neg hl])
        have hl2 : ¬ limit < 0 := fun h => hl (.inl h)
        have t3 : decide (limit < 0) = false := by simpa using hl2
        have q1 : IntKind.u64.wrap limit = limit := by rw [IntKind.wrap_u64]; have := HL1.out; omega
        have t4 : decide (limit < (n : Int)) = false := by simp; omega
        have q2 := u64_int n (by have := HB.out; omega)
        have c1 := h1.c1
        have f1 := h1.fz 1
        clear hl hl2
        go_wp2
        go_ret
        have hm2 := (Mod.refl [g] w1).setCell (p := ⟨g, 1, none⟩) (by simp) (.int .i64 ((p : Int) + s))
        refine ⟨by rw [HF.out]; rfl, Mod.trans (Mod.weak hm (by simp)) hm2 (by simp), ?_⟩
        rw [HF.out]
        exact h1.set hm2 (p + s) 0 (by omega) (by rw [blk_set h1.blk]; simp)
  · have t1 : ((f : Int) != 0) = true := by simp; omega
    have HF := Lib.hid (show R = (0, p, f) by rw [← HR.out, if_pos hf])
    clear hf
    go_wp2_with fail
    refine (fail_ok g A c bs p f w1 h1).mono ?_
    rintro e w2 ⟨rfl, hm2, h2⟩
    go_wp2
    go_ret
    exact ⟨by rw [HF.out]; rfl, Mod.trans (Mod.weak hm (by simp)) hm2 (by simp), by rw [HF.out]; exact h2⟩
theorem numL_lt (ys : List Int) : ∀ (k a n s f : Nat), Bytes ys → k ≤ 9 → a < 128 ^ k → numL ys k a = (n, s, f) → n < 18446744073709551616 := by
  induction ys with
  | nil => intro k a n s f _ _ _ h; simp [numL] at h; omega
  | cons c cs ih =>
    intro k a n s f hb hk ha h
    have hc := hb c (by simp)
    rw [numL] at h
    have hp9 : (128 : Nat) ^ k ≤ 128 ^ 9 := Nat.pow_le_pow_right (by decide) hk
    split at h
    · simp at h; omega
    · rename_i h1
      have hstep : c.toNat % 128 * 128 ^ k ≤ 127 * 128 ^ k := Nat.mul_le_mul_right _ (by omega)
      split at h
      · split at h
        · simp at h; omega
        · simp only [Prod.mk.injEq] at h
          rcases Nat.lt_or_ge k 9 with h9 | h9
          · have hp8 : (128 : Nat) ^ k ≤ 128 ^ 8 := Nat.pow_le_pow_right (by decide) (by omega)
            omega
          · obtain rfl : k = 9 := by omega
            have : c.toNat % 128 * 128 ^ 9 ≤ 1 * 128 ^ 9 := Nat.mul_le_mul_right _ (by omega)
            omega
      · rename_i h128
        have h9 : k < 9 := by omega
        refine ih (k + 1) _ n s f (fun b hb' => hb b (by simp [hb'])) (by omega) ?_ h
        rw [Nat.pow_succ]; omega
def unzz (n : Nat) : Int := if n % 2 = 0 then ((n / 2 : Nat) : Int) else -((n / 2 : Nat) : Int) - 1
theorem unzz_zz (x : Int) : unzz (zz x) = x := by
  unfold unzz zz
  split <;> split <;> omega
theorem unzz_bits (n : Nat) (h : n < 18446744073709551616) : Go.bits .xor .i64 (wrap64 ((n : Int) / 2)) (wrap64 (-wrap64 (Go.bits .and .u64 (n : Int) 1))) = unzz n := by
  have e1 : Go.bits .and .u64 (n : Int) 1 = ((n % 2 : Nat) : Int) := by
    rw [show (1 : Int) = ((1 : Nat) : Int) from rfl, Go.u64_and_nat n 1 h (by decide), Nat.and_one_is_mod]
  have e2 : wrap64 ((n : Int) / 2) = ((n / 2 : Nat) : Int) := by unfold wrap64; omega
  rw [e1, e2]
  generalize hm : n / 2 = m
  have hmlt : m < 9223372036854775808 := by omega
  have e3 : BitVec.ofInt 64 (m : Int) = BitVec.ofNat 64 m := by simp
  unfold unzz
  rw [hm]
  by_cases hz : n % 2 = 0
  · rw [if_pos hz, hz]
    have e4 : wrap64 (-wrap64 ((0 : Nat) : Int)) = 0 := by unfold wrap64; omega
    rw [e4]
    show IntKind.i64.wrap ((BitVec.ofInt 64 (m : Int) ^^^ BitVec.ofInt 64 0).toNat : Int) = _
    rw [e3, show BitVec.ofInt 64 0 = 0#64 from rfl, BitVec.xor_zero, BitVec.toNat_ofNat, IntKind.wrap_i64]; omega
  · have h1 : n % 2 = 1 := by omega
    rw [if_neg hz, h1]
    have e4 : wrap64 (-wrap64 ((1 : Nat) : Int)) = -1 := by unfold wrap64; omega
    rw [e4]
    show IntKind.i64.wrap ((BitVec.ofInt 64 (m : Int) ^^^ BitVec.ofInt 64 (-1)).toNat : Int) = _
    rw [e3, show BitVec.ofInt 64 (-1) = BitVec.allOnes 64 from by decide, BitVec.xor_allOnes, BitVec.toNat_not, BitVec.toNat_ofNat, IntKind.wrap_i64]; omega
def rwhole (bs : List Int) (p : Nat) : Int × Nat × Nat :=
  if (numL (bs.drop p) 0 0).2.2 ≠ 0 then (0, p, (numL (bs.drop p) 0 0).2.2) else (unzz (numL (bs.drop p) 0 0).1, p + (numL (bs.drop p) 0 0).2.1, 0)
def WholePost (w : World) (g : Nat) (A : Option Addr) (c : Nat) (bs : List Int) (r : Int × Nat × Nat) (e : Ending) (w' : World) : Prop :=
  e = .returned (.int .i64 r.1) ∧ Mod [g] w w' ∧ Rdr w' g A c bs r.2.1 (r.2.2 : Int)
set_option maxRecDepth 100000 in
set_option maxHeartbeats 1000000 in
theorem whole_ready (g : Nat) (A : Option Addr) (c : Nat) (bs : List Int) (p : Nat) (w : World) (h : Rdr w g A c bs p 0) :
    Calls Try.prog 53 #[.pointer (some ⟨g, 0, none⟩)] w (WholePost w g A c bs (rwhole bs p)) := by
  obtain ⟨⟨n, s, f⟩, hn⟩ : ∃ r, numL (bs.drop p) 0 0 = r := ⟨_, rfl⟩
  obtain ⟨R, hR⟩ : ∃ R, rwhole bs p = R := ⟨_, rfl⟩
  rw [hR]
  unfold rwhole at hR
  rw [hn] at hR
  have HR := Lib.hid hR
  have HN := Lib.hid hn
  clear hR hn
  go_enter Try.func53, Try.ntmps53
  go_wp2_with fail
  refine (ready_any g A c bs p 0 w h).mono ?_
  rintro e w1 ⟨rfl, rfl⟩
  go_wp2_with fail
  refine (number_any g A c bs p 0 w h).mono ?_
  rintro e w1 ⟨rfl, hm⟩
  have h1 := h.mod hm (by simp) (by simp)
  rw [HN.out]
  unfold numV
  simp only
  by_cases hf : f = 0
  · subst hf
    have hs := numL_size _ _ _ _ _ HN.out
    have hlt := numL_lt _ 0 0 _ _ _ (fun b hb => h.bytes b (List.mem_of_mem_drop hb)) (by omega) (by omega) HN.out
    have HLT := Lib.hid hlt
    clear hlt
    have hlen := h.max
    have hle := h.le
    simp only [List.length_drop] at hs
    have t1 : (((0 : Nat) : Int) != 0) = false := rfl
    have HF := Lib.hid (show R = (unzz n, p + s, 0) by rw [← HR.out, if_neg (by simp)])
    have c1 := h1.c1
    have f1 := h1.fz 1
    go_wp2
    go_ret
    have hm2 := (Mod.refl [g] w1).setCell (p := ⟨g, 1, none⟩) (by simp) (.int .i64 ((p : Int) + s))
    refine ⟨by rw [HF.out, ← unzz_bits n HLT.out]; rfl, Mod.trans (Mod.weak hm (by simp)) hm2 (by simp), ?_⟩
    rw [HF.out]
    exact h1.set hm2 (p + s) 0 (by omega) (by rw [blk_set h1.blk]; simp)
  · have t1 : ((f : Int) != 0) = true := by simp; omega
    have HF := Lib.hid (show R = (0, p, f) by rw [← HR.out, if_pos hf])
    clear hf
    go_wp2_with fail
    refine (fail_ok g A c bs p f w1 h1).mono ?_
    rintro e w2 ⟨rfl, hm2, h2⟩
    go_wp2
    go_ret
    exact ⟨by rw [HF.out]; rfl, Mod.trans (Mod.weak hm (by simp)) hm2 (by simp), by rw [HF.out]; exact h2⟩
def rend (bs : List Int) (p : Nat) (e : Int) : Int := if e = 0 ∧ p < bs.length then 4 else e
def EndPost (w : World) (g : Nat) (A : Option Addr) (c : Nat) (bs : List Int) (p : Nat) (f : Int) (e : Ending) (w' : World) : Prop :=
  e = .returned (.int .i64 f) ∧ Mod [g] w w' ∧ Rdr w' g A c bs p f
theorem end_any (g : Nat) (A : Option Addr) (c : Nat) (bs : List Int) (p : Nat) (e : Int) (w : World) (h : Rdr w g A c bs p e) :
    Calls Try.prog 36 #[.pointer (some ⟨g, 0, none⟩)] w (EndPost w g A c bs p (rend bs p e)) := by
  by_cases he : e = 0
  · subst he
    by_cases hp : p < bs.length
    · have HF := Lib.hid (show rend bs p 0 = 4 by unfold rend; rw [if_pos ⟨rfl, hp⟩])
      rw [HF.out]
      have hp' : 0 < bs.length - p := by omega
      go_enter Try.func36, Try.ntmps36
      go_wp2_with fail
      refine (ready_any g A c bs p 0 w h).mono ?_
      rintro e w1 ⟨rfl, rfl⟩
      go_wp2_with fail
      refine (rest_any g A c bs p 0 w h).mono ?_
      rintro e w1 ⟨rfl, hm⟩
      have h1 := h.mod hm (by simp) (by simp)
      generalize bs.length - p = m at hp'
      go_wp2_with fail
      refine (fail_ok g A c bs p 4 w1 h1).mono ?_
      rintro e w2 ⟨rfl, hm2, h2⟩
      go_wp2_with fail
      refine (fault_any g A c bs p 4 w2 h2).mono ?_
      rintro e w3 ⟨rfl, rfl⟩
      go_wp2
      go_ret
      exact ⟨rfl, Mod.trans (Mod.weak hm (by simp)) hm2 (by simp), h2⟩
    · have HF := Lib.hid (show rend bs p 0 = 0 by unfold rend; rw [if_neg (fun h => hp h.2)])
      rw [HF.out]
      have hp' : bs.length - p = 0 := by omega
      go_enter Try.func36, Try.ntmps36
      go_wp2_with fail
      refine (ready_any g A c bs p 0 w h).mono ?_
      rintro e w1 ⟨rfl, rfl⟩
      go_wp2_with fail
      refine (rest_any g A c bs p 0 w h).mono ?_
      rintro e w1 ⟨rfl, hm⟩
      have h1 := h.mod hm (by simp) (by simp)
      rw [hp']
      clear hp'
      go_wp2_with fail
      refine (fault_any g A c bs p 0 w1 h1).mono ?_
      rintro e w3 ⟨rfl, rfl⟩
      go_wp2
      go_ret
      exact ⟨rfl, Mod.weak hm (by simp), h1⟩
  · have HF := Lib.hid (show rend bs p e = e by unfold rend; rw [if_neg (fun h => he h.1)])
    rw [HF.out]
    have he' : (e == 0) = false := by simpa using he
    go_enter Try.func36, Try.ntmps36
    go_wp2_with fail
    refine (ready_any g A c bs p e w h).mono ?_
    rintro e' w1 ⟨rfl, rfl⟩
    go_wp2_with fail
    refine (fault_any g A c bs p e w h).mono ?_
    rintro e w3 ⟨rfl, rfl⟩
    go_wp2
    go_ret
    exact ⟨rfl, Mod.refl _ _, h⟩
theorem slice_mid {P : Program} {t e : TypeId} {k : IntKind} {i : TypeInfo} (ht : P.underlying t = some (.slice e)) (hi : P.info? e = some i) (hsz : i.size = 1) {w : World} {A : Option Addr} {n c : Nat} {xs : List Int} (hr : ReadsInt w k A n xs) (p q : Nat) (hpq : p ≤ q) (hq : q ≤ n) (hc : n ≤ c) :
    ∃ A', (∀ W : World, (Instr.slice t (.slice A n c) (some (.int .i64 (p : Int))) (some (.int .i64 (q : Int))) none).run P W = .ok (.slice A' (q - p) (c - p)) W) ∧ ∀ w', ReadsInt w' k A n xs → ReadsInt w' k A' (q - p) ((xs.drop p).take (q - p)) := by
  refine ⟨_, fun W => ?_, fun w' hr' => (hr'.drop_ p (by omega) hc).take_ (q - p) (by omega)⟩
  have := cut_mid t e .i64 .i64 ht hi 1 hsz A n c (p : Int) (q : Int) (by omega) (by omega) (by omega) hc W
  simpa using this
def rsized (bs : List Int) (p : Nat) (limit : Int) : List Int × Nat × Nat :=
  if (rcount bs p limit).2.2 ≠ 0 then ([], p, (rcount bs p limit).2.2)
  else if bs.length - (rcount bs p limit).2.1 < (rcount bs p limit).1 then ([], p, 3)
  else ((bs.drop (rcount bs p limit).2.1).take (rcount bs p limit).1, (rcount bs p limit).2.1 + (rcount bs p limit).1, 0)
def SizedPost (w : World) (g : Nat) (A : Option Addr) (c : Nat) (bs : List Int) (r : List Int × Nat × Nat) (e : Ending) (w' : World) : Prop :=
  ∃ A2 n2 c2, e = .returned (.slice A2 n2 c2) ∧ ReadsInt w' .u8 A2 n2 r.1 ∧ Mod [g] w w' ∧ Rdr w' g A c bs r.2.1 (r.2.2 : Int)
theorem rcount_err (bs : List Int) (p : Nat) (limit : Int) (h : (rcount bs p limit).2.2 ≠ 0) : (rcount bs p limit).2.1 = p := by
  unfold rcount at h ⊢
  split
  · rfl
  · split
    · rfl
    · split
      · rfl
      · rename_i h1 h2 h3; rw [if_neg h1, if_neg h2, if_neg h3] at h; exact absurd rfl h
set_option maxRecDepth 100000 in
set_option maxHeartbeats 1000000 in
theorem sized_ready (g : Nat) (A : Option Addr) (c : Nat) (bs : List Int) (p : Nat) (limit : Int) (w : World) (h : Rdr w g A c bs p 0) (hl0 : -9223372036854775808 ≤ limit) (hl1 : limit ≤ 9223372036854775807) :
    Calls Try.prog 35 #[.pointer (some ⟨g, 0, none⟩), .int .i64 limit] w (SizedPost w g A c bs (rsized bs p limit)) := by
  obtain ⟨R, hR⟩ : ∃ R, rsized bs p limit = R := ⟨_, rfl⟩
  rw [hR]
  unfold rsized at hR
  have HE := Lib.hid (rcount_err bs p limit)
  have HC := Lib.hid (count_ready g A c bs p limit w h hl0 hl1)
  obtain ⟨⟨n, p', f⟩, hn⟩ : ∃ r, rcount bs p limit = r := ⟨_, rfl⟩
  rw [hn] at hR HC HE
  have HR := Lib.hid hR
  clear hR hl0 hl1 hn
  have c1 := h.c1
  go_enter Try.func35, Try.ntmps35
  go_wp2_with fail
  refine (ready_any g A c bs p 0 w h).mono ?_
  rintro e w1 ⟨rfl, rfl⟩
  go_wp2_with fail
  refine HC.out.mono ?_
  rintro e w1 ⟨rfl, hm, h1⟩
  simp only at h1 ⊢
  have c2 := h1.c2
  clear c1
  by_cases hf : f = 0
  · subst hf
    have hle := h1.le
    have hmax := h1.max
    have t1 : (((0 : Nat) : Int) != 0) = false := rfl
    go_wp2_with fail
    refine (rest_any g A c bs p' _ w1 h1).mono ?_
    rintro e w2 ⟨rfl, hm2⟩
    have h2 := h1.mod hm2 (by simp) (by simp)
    have hm12 := Mod.trans0 hm hm2
    clear c2 hm hm2 h1
    by_cases hgt : bs.length - p' < n
    · have HF := Lib.hid (show R = ([], p, 3) by rw [← HR.out, if_neg (by simp), if_pos hgt])
      have hp := h.le
      have f1 := h2.fz 1
      have cc1 := h2.c1
      generalize bs.length - p' = m at hgt
      go_wp2_with fail
      have hm3 := (Mod.refl [g] w2).setCell (p := ⟨g, 1, none⟩) (by simp) (.int .i64 (p : Int))
      have h3 : Rdr (w2.setCell ⟨g, 1, none⟩ (.int .i64 (p : Int))) g A c bs p 0 := h2.set hm3 p 0 hp (by rw [blk_set h2.blk]; simp)
      refine (fail_ok g A c bs p 3 _ h3).mono ?_
      rintro e w4 ⟨rfl, hm4, h4⟩
      go_wp2
      go_ret
      exact ⟨none, 0, 0, rfl, by rw [HF.out]; exact reads_nil _ _, (hm12.trans_ hm3).trans_ hm4, by rw [HF.out]; exact h4⟩
    · have HF := Lib.hid (show R = ((bs.drop p').take n, p' + n, 0) by rw [← HR.out, if_neg (by simp), if_neg hgt])
      have hq : p' + n ≤ bs.length := by omega
      have cc1 := h2.c1
      have cc0 := h2.c0
      have f1 := h2.fz 1
      have t2 : decide (((bs.length - p' : Nat) : Int) < (n : Int)) = false := by simp; omega
      clear hgt
      go_upto_region 12 with fail
      obtain ⟨q, hqq⟩ : ∃ q, p' + n = q := ⟨_, rfl⟩
      rw [show (p' : Int) + n = (q : Int) by omega]
      rw [hqq] at HF hq
      have hm3 := (Mod.refl [g] w2).setCell (p := ⟨g, 1, none⟩) (by simp) (.int .i64 (q : Int))
      have h3 : Rdr (w2.setCell ⟨g, 1, none⟩ (.int .i64 (q : Int))) g A c bs q 0 := h2.set hm3 q 0 hq (by rw [blk_set h2.blk]; simp)
      have hm13 := hm12.trans_ hm3
      clear cc1 cc0 f1 hm3 h2 hm12 t2
      generalize w2.setCell ⟨g, 1, none⟩ (.int .i64 (q : Int)) = w3 at h3 hm13 ⊢
      obtain ⟨i5, hi5, hs5⟩ := info5_parts
      obtain ⟨A', hsl, hrd⟩ := slice_mid (t := 50) Try.underlying50 hi5 hs5 h3.reads p' q (by omega) hq h3.cap
      clear hi5 hs5
      have q1 : IntKind.i64.wrap ((q : Int) - n) = p' := by rw [IntWalk.i64_in _ (by omega)]; omega
      have q2 : (p' : Int) ≤ q := by omega
      have d0 := h3.c0
      have d1 := h3.c1
      have HQ := Lib.hid hqq
      have hn' : q - p' ≤ 140737488355000 := by omega
      clear hqq
      have hrr := (h3.mod ((Mod.refl [] w3).drew) (by simp) (by simp)).reads
      go_region_held3 (fun w' => w'.cell? ⟨g, 0, none⟩ = some (.slice A bs.length c) ∧ w'.cell? ⟨g, 1, none⟩ = some (.int .i64 (q : Int))) (first | exact ⟨d0, d1⟩ | exact ⟨Mod.cell (S := []) (by assumption) d0 (by simp), Mod.cell (S := []) (by assumption) d1 (by simp)⟩ | exact (by assumption)) ((go_at_call 48; refine (bclone_any A' (q - p') (c - p') ((bs.drop p').take (q - p')) w3.drew (hrd _ hrr) hn').mono ?_; rintro e w4 ⟨v, rfl, hm4, hown⟩; have hm4' : Mod [] w3 w4 := ((Mod.refl [] w3).drew).trans0 hm4))
      obtain ⟨A4, c4, rfl, _, hr4, _⟩ := own_form hown
      go_wp2
      go_ret
      refine ⟨A4, _, c4, rfl, ?_, hm13.trans0 hm4', ?_⟩
      · rw [HF.out]
        have : q - p' = n := by have := HQ.out; omega
        rw [this] at hr4 ⊢
        exact hr4
      · rw [HF.out]; exact h3.mod hm4' (by simp) (by simp)
  · have t1 : ((f : Int) != 0) = true := by simp; omega
    have HF := Lib.hid (show R = ([], p, f) by rw [← HR.out, if_pos hf])
    have he : p' = p := HE.out hf
    subst he
    clear hf
    go_wp2
    go_ret
    exact ⟨none, 0, 0, rfl, by rw [HF.out]; exact reads_nil _ _, hm, by rw [HF.out]; exact h1⟩
end Go.Proofs.Ytopfaafgfgjfaaa
