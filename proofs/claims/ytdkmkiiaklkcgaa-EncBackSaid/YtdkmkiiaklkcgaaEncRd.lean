/- The reader of the program, continued: the number that comes next. -/
import Derived.Test.YtdkmkiiaklkcgaaEncRef
import Derived.BigQuiet
import Derived.Deep.QuietTactic
import Derived.Deep.DeepCutAuto
set_option linter.unusedVariables false
set_option linter.unusedSimpArgs false
namespace Go.Proofs.Ytdkmkiiaklkcgaa
open Go.RowKit Go.Proofs.YtdkmkiiaklkcgaaW.PrintWords
/-- A reader at block g: its bytes (behind A), how far it is, its fault. -/
structure Rdr (w : World) (g : Nat) (A : Option Addr) (c : Nat) (bs : List Int) (p : Nat) (e : Int) : Prop where
  blk : w.heap[g]? = some (.cells #[.slice A bs.length c, .int .i64 (p : Int), .int .i64 e] 73 (0, 0))
  cap : bs.length ≤ c
  reads : ReadsInt w .u8 A bs.length bs
  off : ∀ a, A = some a → 0 < bs.length → a.block ≠ g
  bytes : Bytes bs
  le : p ≤ bs.length
  max : bs.length ≤ 1000000
theorem Rdr.mod {S : List Nat} {w w' : World} {g : Nat} {A : Option Addr} {c : Nat} {bs : List Int} {p : Nat} {e : Int} (h : Rdr w g A c bs p e) (hm : Mod S w w') (hg : g ∉ S) (hA : ∀ a, A = some a → 0 < bs.length → a.block ∉ S) : Rdr w' g A c bs p e :=
  ⟨hm.blk h.blk hg, h.cap, hm.reads h.reads hA, h.off, h.bytes, h.le, h.max⟩
theorem Rdr.set {w w' : World} {g : Nat} {A : Option Addr} {c : Nat} {bs : List Int} {p : Nat} {e : Int} (h : Rdr w g A c bs p e) (hm : Mod [g] w w') (p' : Nat) (e' : Int) (hp : p' ≤ bs.length)
    (hb : w'.heap[g]? = some (.cells #[.slice A bs.length c, .int .i64 (p' : Int), .int .i64 e'] 73 (0, 0))) : Rdr w' g A c bs p' e' :=
  ⟨hb, h.cap, hm.reads h.reads (fun a ea hn => by simpa using h.off a ea hn), h.off, h.bytes, hp, h.max⟩
theorem Rdr.c0 {w : World} {g : Nat} {A : Option Addr} {c : Nat} {bs : List Int} {p : Nat} {e : Int} (h : Rdr w g A c bs p e) : w.cell? ⟨g, 0, none⟩ = some (.slice A bs.length c) := by rw [blk_cell h.blk]; rfl
theorem Rdr.c1 {w : World} {g : Nat} {A : Option Addr} {c : Nat} {bs : List Int} {p : Nat} {e : Int} (h : Rdr w g A c bs p e) : w.cell? ⟨g, 1, none⟩ = some (.int .i64 (p : Int)) := by rw [blk_cell h.blk]; rfl
theorem Rdr.c2 {w : World} {g : Nat} {A : Option Addr} {c : Nat} {bs : List Int} {p : Nat} {e : Int} (h : Rdr w g A c bs p e) : w.cell? ⟨g, 2, none⟩ = some (.int .i64 e) := by rw [blk_cell h.blk]; rfl
theorem Rdr.fz {w : World} {g : Nat} {A : Option Addr} {c : Nat} {bs : List Int} {p : Nat} {e : Int} (h : Rdr w g A c bs p e) (i : Nat) : w.frozen? ⟨g, i, none⟩ = false := blk_frozen h.blk i
theorem read_any (A : Option Addr) (n c : Nat) (bs : List Int) (w : World) (hr : ReadsInt w .u8 A n bs) (hn : n ≤ 1000000) (hb : Bytes bs) :
    Calls Try.prog 29 #[.slice A n c] w fun e w' => ∃ g A1 c1, e = .returned (.pointer (some ⟨g, 0, none⟩)) ∧ Mod [] w w' ∧ w.heap.size ≤ g ∧ Rdr w' g A1 c1 bs 0 0 ∧ (∀ a, A1 = some a → w.heap.size ≤ a.block) := by
  have HL := Lib.hid hr.1
  go_enter Try.func29, Try.ntmps29
  go_wp2_with fail
  refine (clone_any A n c bs w hr (by omega)).mono ?_
  rintro e w1 ⟨v, rfl, hm, hown⟩
  obtain ⟨A1, c1, rfl, hc1, hr1, hA1⟩ := own_form hown
  have hsz := hm.size
  have HN := Lib.hid (show bs.length ≤ 1000000 by have := HL.out; omega)
  clear hown
  go_wp2
  go_ret
  have hm1 := (Mod.refl [] w1).alloc (.cells #[.slice A1 bs.length c1, .int .i64 0, .int .i64 0] 73)
  exact ⟨w1.heap.size, A1, c1, rfl, hm.trans0 hm1, hsz, ⟨blk_new w1 _, hc1, hm1.reads hr1 (by simp), fun a e _ => by have := hA1 a e; omega, hb, by omega, HN.out⟩, fun a e => (hA1 a e).1⟩
theorem rest_any (g : Nat) (A : Option Addr) (c : Nat) (bs : List Int) (p : Nat) (e : Int) (w : World) (h : Rdr w g A c bs p e) :
    Calls Try.prog 42 #[.pointer (some ⟨g, 0, none⟩)] w fun e w' => e = .returned (.int .i64 ((bs.length - p : Nat) : Int)) ∧ Mod [] w w' := by
  have c0 := h.c0
  have c1 := h.c1
  have hle := h.le
  have hmax := h.max
  have q1 : IntKind.i64.wrap ((bs.length : Int) - p) = (bs.length : Int) - p := IntWalk.i64_in _ (by omega)
  have E := Lib.hid (show (bs.length : Int) - p = ((bs.length - p : Nat) : Int) by omega)
  go_enter Try.func42, Try.ntmps42
  go_wp2
  go_quiet (fail)
  go_wp2
  go_ret
  exact ⟨by rw [← E.out]; rfl, (Mod.refl [] w).drewN _⟩
theorem fault_any (g : Nat) (A : Option Addr) (c : Nat) (bs : List Int) (p : Nat) (e : Int) (w : World) (h : Rdr w g A c bs p e) :
    Calls Try.prog 32 #[.pointer (some ⟨g, 0, none⟩)] w fun e' w' => e' = .returned (.int .i64 e) ∧ w = w' := by
  have c2 := h.c2
  go_enter Try.func32, Try.ntmps32
  go_wp2
  go_ret
  exact ⟨rfl, rfl⟩
theorem ready_any (g : Nat) (A : Option Addr) (c : Nat) (bs : List Int) (p : Nat) (e : Int) (w : World) (h : Rdr w g A c bs p e) :
    Calls Try.prog 46 #[.pointer (some ⟨g, 0, none⟩)] w fun e' w' => e' = .returned (.bool (e == 0)) ∧ w = w' := by
  have c2 := h.c2
  go_enter Try.func46, Try.ntmps46
  go_wp2
  go_ret
  exact ⟨rfl, rfl⟩
theorem fail_ok (g : Nat) (A : Option Addr) (c : Nat) (bs : List Int) (p : Nat) (f : Int) (w : World) (h : Rdr w g A c bs p 0) :
    Calls Try.prog 47 #[.pointer (some ⟨g, 0, none⟩), .int .i64 f] w fun e' w' => e' = .returned (.tuple #[]) ∧ Mod [g] w w' ∧ Rdr w' g A c bs p f := by
  have c2 := h.c2
  have f2 := h.fz 2
  go_enter Try.func47, Try.ntmps47
  go_wp2
  go_end0
  have hm := (Mod.refl [g] w).setCell (p := ⟨g, 2, none⟩) (by simp) (.int .i64 f)
  exact ⟨rfl, hm, h.set hm p f h.le (by rw [blk_set h.blk]; rfl)⟩
theorem info5_parts : ∃ i, Try.prog.info? 5 = some i ∧ i.size = 1 := by
  obtain ⟨i, hi, h⟩ := Option.map_eq_some_iff.1 info5
  exact ⟨i, hi, (by simp only [Prod.mk.injEq] at h; exact h.2.1)⟩
theorem p128 (k : Nat) : (2 : Nat) ^ (7 * k) = 128 ^ k := by rw [Nat.pow_mul]
theorem numacc (a k : Nat) (c : Int) (h0 : 0 ≤ c) (h1 : c ≤ 255) (ha : a < 128 ^ k) (hk : k ≤ 8 ∨ k = 9 ∧ c ≤ 1) :
    Go.bits .or .u64 (a : Int) (IntKind.u64.wrap (IntKind.u64.wrap (Go.bits .and .u8 c 127) * 2 ^ (7 * k))) = ((a + c.toNat % 128 * 128 ^ k : Nat) : Int) := by
  obtain ⟨n, rfl⟩ := Int.eq_ofNat_of_zero_le h0
  have e1 : Go.bits .and .u8 (n : Int) 127 = ((n % 128 : Nat) : Int) := by
    rw [show (127 : Int) = ((127 : Nat) : Int) from rfl, Go.u8_and_nat n 127 (by omega) (by decide), show (127 : Nat) = 2 ^ 7 - 1 from rfl, Nat.and_two_pow_sub_one_eq_mod]
  have e2 : (2 : Int) ^ (7 * k) = ((128 ^ k : Nat) : Int) := by rw [← p128]; simp
  rw [e1, e2, IntKind.wrap_u64, IntKind.wrap_u64, Int.toNat_natCast]
  have hm : n % 128 < 128 := Nat.mod_lt _ (by decide)
  have e3 : ((n % 128 : Nat) : Int) % 18446744073709551616 = ((n % 128 : Nat) : Int) := by omega
  rw [e3, ← Int.natCast_mul]
  have hlt : n % 128 * 128 ^ k < 18446744073709551616 := by
    rcases hk with hk | ⟨rfl, hc⟩
    · have : (128 : Nat) ^ k ≤ 128 ^ 8 := Nat.pow_le_pow_right (by decide) hk
      have h2 : n % 128 * 128 ^ k ≤ 127 * 128 ^ 8 := Nat.mul_le_mul (by omega) this
      omega
    · have : n ≤ 1 := by omega
      have h2 : n % 128 * 128 ^ 9 ≤ 1 * 128 ^ 9 := Nat.mul_le_mul_right _ (by omega)
      omega
  have hal : a < 18446744073709551616 := by
    have : (128 : Nat) ^ k ≤ 128 ^ 9 := Nat.pow_le_pow_right (by decide) (by omega)
    omega
  have e4 : ((n % 128 * 128 ^ k : Nat) : Int) % 18446744073709551616 = ((n % 128 * 128 ^ k : Nat) : Int) := Int.emod_eq_of_lt (by omega) (by omega)
  rw [e4, Go.u64_or_nat _ _ hal hlt]
  congr 1
  rw [Nat.or_comm, ← p128, Nat.mul_comm, ← Nat.two_pow_add_eq_or_of_lt (by rw [p128]; exact ha)]
  omega
/-- The number that comes next: its value, how many bytes it has, the fault. -/
def numL : List Int → Nat → Nat → Nat × Nat × Nat
  | [], _, _ => (0, 0, 3)
  | c :: cs, k, a =>
    if k = 10 ∨ k = 9 ∧ 1 < c then (0, 0, 4) else if c < 128 then (if c = 0 ∧ 0 < k then (0, 0, 4) else (a + c.toNat % 128 * 128 ^ k, k + 1, 0)) else numL cs (k + 1) (a + c.toNat % 128 * 128 ^ k)
theorem numL_at (ys : List Int) (k a : Nat) (h : k < ys.length) : numL (ys.drop k) k a = if k = 10 ∨ k = 9 ∧ 1 < rd ys (k : Int) then (0, 0, 4) else if rd ys (k : Int) < 128 then (if rd ys (k : Int) = 0 ∧ 0 < k then (0, 0, 4) else (a + (rd ys (k : Int)).toNat % 128 * 128 ^ k, k + 1, 0)) else numL (ys.drop (k + 1)) (k + 1) (a + (rd ys (k : Int)).toNat % 128 * 128 ^ k) := by
  have e : rd ys (k : Int) = ys[k] := by
    show ys.getD k 0 = _
    rw [List.getD_eq_getElem?_getD, List.getElem?_eq_getElem h]; rfl
  rw [List.drop_eq_getElem_cons h, numL, e]
def numV (r : Nat × Nat × Nat) : Value := .tuple #[.int .u64 (r.1 : Int), .int .i64 (r.2.1 : Int), .int .i64 (r.2.2 : Int)]
set_option maxHeartbeats 1000000 in
theorem number_any (g : Nat) (A : Option Addr) (c : Nat) (bs : List Int) (p : Nat) (e : Int) (w : World) (h : Rdr w g A c bs p e) :
    Calls Try.prog 49 #[.pointer (some ⟨g, 0, none⟩)] w fun e' w' => e' = .returned (numV (numL (bs.drop p) 0 0)) ∧ Mod [] w w' := by
  have c0 := h.c0
  have c1 := h.c1
  have hle := h.le
  have hmax := h.max
  obtain ⟨i5, hi5, hs5⟩ := info5_parts
  obtain ⟨A', hsl, hd⟩ := slice_from (t := 22) Try.underlying22 hi5 hs5 h.reads p h.le h.cap
  clear hi5 hs5
  obtain ⟨m, hm⟩ : ∃ m, bs.length - p = m := ⟨_, rfl⟩
  rw [hm] at hd hsl
  have hbd : Bytes (bs.drop p) := fun b hb => h.bytes b (List.mem_of_mem_drop hb)
  have hm2 : m ≤ 1000000 := by omega
  generalize bs.drop p = ys at hd hbd
  have HL := Lib.hid hd.1
  obtain ⟨R, hR⟩ : ∃ R, numL ys 0 0 = R := ⟨_, rfl⟩
  rw [hR]
  have HR := Lib.hid hR
  clear hm hR
  go_enter Try.func49, Try.ntmps49
  go_wp2
  go_quiet (fail)
  go_wp2
  go_loop [5, 20] (fun acc i => ∃ (k : Nat) (a : Nat), k ≤ m ∧ k ≤ 10 ∧ i = .int .i64 k ∧ acc = .int .u64 (a : Int) ∧ numL (ys.drop k) k a = R ∧ (k = 10 ∨ a < 128 ^ k)) (fun _ i => m - (intOf i).toNat)
  case atStart => exact ⟨0, 0, by omega, by omega, rfl, rfl, HR.out, .inr (by decide)⟩
  case round =>
    obtain ⟨k, a, hk, hk', rfl, rfl, hnum, ha⟩ := hrel
    have HN := Lib.hid hnum
    have HA := Lib.hid ha
    clear hnum ha
    by_cases hlt : k < m
    · obtain ⟨ad, rfl, hcell⟩ := hd.at_ k (by omega) (by omega)
      simp only [Int.toNat_natCast] at hcell
      have hb : 0 ≤ rd ys (k : Int) ∧ rd ys (k : Int) ≤ 255 := hbd.at_ k
      have hat := numL_at ys k a (by rw [HL.out]; exact hlt)
      rw [HN.out] at hat
      have HT := Lib.hid hat
      clear hat
      obtain ⟨y, hy⟩ : ∃ y, rd ys (k : Int) = y := ⟨_, rfl⟩
      rw [hy] at hb hcell HT
      clear hy
      obtain ⟨hb0, hb1⟩ := hb
      by_cases h10 : k = 10
      · have t1 : ((k : Int) == 10) = true := by rw [h10]; rfl
        have HF := Lib.hid (show R = (0, 0, 4) by rw [HT.out, if_pos (.inl h10)])
        clear h10
        go_wp2
        go_ret3
        exact ⟨by rw [HF.out]; rfl, (Mod.refl [] w).drewN _⟩
      · have t1 : ((k : Int) == 10) = false := beq_eq_false_iff_ne.2 (by omega)
        by_cases h9 : k = 9
        · have t2 : ((k : Int) == 9) = true := by rw [h9]; rfl
          by_cases hy1 : 1 < y
          · have HF := Lib.hid (show R = (0, 0, 4) by rw [HT.out, if_pos (.inr ⟨h9, hy1⟩)])
            have t3 : decide (1 < y) = true := by simpa using hy1
            clear h9 h10
            go_wp2
            go_ret3
            exact ⟨by rw [HF.out]; rfl, (Mod.refl [] w).drewN _⟩
          · have t3 : decide (1 < y) = false := by simpa using hy1
            have HAC := Lib.hid (numacc a k y hb0 hb1 (HA.out.resolve_left h10) (.inr ⟨h9, by omega⟩))
            have hk0 : 0 < k := by omega
            have hlt128 : y < 128 := by omega
            by_cases hy0 : y = 0
            · have HF := Lib.hid (show R = (0, 0, 4) by rw [HT.out, if_neg (by omega), if_pos hlt128, if_pos ⟨hy0, hk0⟩])
              have t4 : (y == 0) = true := by simpa using hy0
              clear h9 h10 hy0 hy1
              go_wp2
              go_ret3
              exact ⟨by rw [HF.out]; rfl, (Mod.refl [] w).drewN _⟩
            · have HF := Lib.hid (show R = (a + y.toNat % 128 * 128 ^ k, k + 1, 0) by rw [HT.out, if_neg (by omega), if_pos hlt128, if_neg (by omega)])
              have t4 : (y == 0) = false := by simpa using hy0
              clear h9 h10 hy0 hy1
              go_wp2
              go_ret3
              exact ⟨by rw [HF.out, numV, ← HAC.out]; rfl, (Mod.refl [] w).drewN _⟩
        · have t2 : ((k : Int) == 9) = false := beq_eq_false_iff_ne.2 (by omega)
          have HAC := Lib.hid (numacc a k y hb0 hb1 (HA.out.resolve_left h10) (.inl (by omega)))
          have hk8 : k ≤ 8 := by omega
          by_cases hlt128 : y < 128
          · by_cases hz : y = 0 ∧ 0 < k
            · obtain ⟨hy0, hk0⟩ := hz
              have HF := Lib.hid (show R = (0, 0, 4) by rw [HT.out, if_neg (by omega), if_pos hlt128, if_pos ⟨hy0, hk0⟩])
              have t4 : (y == 0) = true := by simpa using hy0
              clear h9 h10 hy0
              go_wp2
              go_ret3
              exact ⟨by rw [HF.out]; rfl, (Mod.refl [] w).drewN _⟩
            · have HF := Lib.hid (show R = (a + y.toNat % 128 * 128 ^ k, k + 1, 0) by rw [HT.out, if_neg (by omega), if_pos hlt128, if_neg hz])
              by_cases hy0 : y = 0
              · have t4 : (y == 0) = true := by simpa using hy0
                have hk0 : ¬ 0 < k := fun h => hz ⟨hy0, h⟩
                clear h9 h10 hy0 hz
                go_wp2
                go_ret3
                exact ⟨by rw [HF.out, numV, ← HAC.out]; rfl, (Mod.refl [] w).drewN _⟩
              · have t4 : (y == 0) = false := by simpa using hy0
                clear h9 h10 hy0 hz
                go_wp2
                go_ret3
                exact ⟨by rw [HF.out, numV, ← HAC.out]; rfl, (Mod.refl [] w).drewN _⟩
          · have HF := Lib.hid (show R = numL (ys.drop (k + 1)) (k + 1) (a + y.toNat % 128 * 128 ^ k) by rw [HT.out, if_neg (by omega), if_neg hlt128])
            have HB := Lib.hid (show a + y.toNat % 128 * 128 ^ k < 128 ^ (k + 1) by
              have h1 := HA.out.resolve_left h10
              have h2 : y.toNat % 128 * 128 ^ k ≤ 127 * 128 ^ k := Nat.mul_le_mul_right _ (by omega)
              rw [Nat.pow_succ]; omega)
            clear h9 h10
            go_wp2
            go_round
            case rel => exact ⟨k + 1, _, by omega, by omega, by go_num, by rw [HAC.out], HF.out.symm, .inr HB.out⟩
            case measure => simp [intOf]; omega
    · have hkm : k = m := by omega
      have HF := Lib.hid (show R = (0, 0, 3) by rw [← HN.out, List.drop_eq_nil_of_le (by rw [HL.out]; omega), numL])
      subst hkm
      go_wp2
      go_ret3
      exact ⟨by rw [HF.out]; rfl, (Mod.refl [] w).drewN _⟩
end Go.Proofs.Ytdkmkiiaklkcgaa
