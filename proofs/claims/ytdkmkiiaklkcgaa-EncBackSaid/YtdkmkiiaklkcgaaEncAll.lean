/- The statement's own things: a list of what is written, its bytes. -/
import Derived.Test.YtdkmkiiaklkcgaaEncSz
import Derived.Test.YtdkmkiiaklkcgaaArgs
set_option linter.unusedVariables false
set_option linter.unusedSimpArgs false
namespace Go.Proofs.Ytdkmkiiaklkcgaa
open Go.RowKit Go.Proofs.YtdkmkiiaklkcgaaW.PrintWords
structure EOp where
  kind : Int
  n : Int
  data : List Int
def EOp.ok (o : EOp) : Prop := -9223372036854775808 ≤ o.n ∧ o.n ≤ 9223372036854775807 ∧ Bytes o.data
/-- One of these at an address. -/
def AtOp (w : World) (a : Addr) (o : EOp) : Prop :=
  w.cell? a = some (.int .i64 o.kind) ∧ w.cell? ⟨a.block, a.off + 1, none⟩ = some (.int .i64 o.n) ∧ ∃ D c, w.cell? ⟨a.block, a.off + 2, none⟩ = some (.slice D o.data.length c) ∧ o.data.length ≤ c ∧ ReadsInt w .u8 D o.data.length o.data
theorem AtOp.mod {S : List Nat} {w w' : World} {a : Addr} {o : EOp} (h : AtOp w a o) (hm : Mod S w w') (hS : ∀ s ∈ S, w.heap.size ≤ s) : AtOp w' a o := by
  obtain ⟨h0, h1, D, c, h2, h3, h4⟩ := h
  have hb : ∀ p v, w.cell? p = some v → w'.cell? p = some v := fun p v hp => hm.cell hp (fun hs => by have := hS _ hs; have := World.block_lt_of_cell? w _ hp; omega)
  exact ⟨hb _ _ h0, hb _ _ h1, D, c, hb _ _ h2, h3, hm.reads h4 (fun x ex hn hs => by have := hS _ hs; have := reads_lt h4 x ex hn; omega)⟩
structure ReadsOps (w : World) (A : Option Addr) (n : Nat) (ops : List EOp) : Prop where
  len : ops.length = n
  max : n ≤ 9223372036854775807
  row : ∀ i (h : i < ops.length), ∃ a, A = some a ∧ AtOp w (a.add (i * 3)) ops[i] ∧ ops[i].ok
def encOne (o : EOp) : List Int := if o.kind = 0 then uput o.n.toNat else if o.kind = 1 then uput (zz o.n) else uput o.data.length ++ o.data
def encAll (ops : List EOp) : List Int := ops.flatMap encOne
def light (ops : List EOp) : Prop := ∀ o ∈ ops, o.data.length ≤ 300
theorem encOne_bd (o : EOp) (hok : o.ok) : Bytes (encOne o) := by
  unfold encOne
  split
  · exact uput_bytes _
  · split
    · exact uput_bytes _
    · intro b hb
      rcases List.mem_append.1 hb with h | h
      · exact uput_bytes _ b h
      · exact hok.2.2 b h
theorem encOne_len (o : EOp) (hok : o.ok) (hd : o.data.length ≤ 300) : (encOne o).length ≤ 310 := by
  unfold encOne
  split
  · have := uput_len10 (n := o.n.toNat) (by have := hok.2.1; omega); omega
  · split
    · have := uput_len10 (zz_lt hok.1 hok.2.1); omega
    · have := uput_len10 (n := o.data.length) (by omega)
      rw [List.length_append]; omega
theorem encAll_snoc (ops : List EOp) (k : Nat) (h : k < ops.length) : encAll (ops.take (k + 1)) = encAll (ops.take k) ++ encOne ops[k] := by
  rw [encAll, List.take_succ_eq_append_getElem h, List.flatMap_append]; simp [encAll]
theorem encAll_len (ops : List EOp) (hok : ∀ o ∈ ops, o.ok) (hl : light ops) : (encAll ops).length ≤ 310 * ops.length := by
  induction ops with
  | nil => simp [encAll]
  | cons o ops ih =>
    have h1 := encOne_len o (hok o (by simp)) (hl o (by simp))
    have h2 := ih (fun x hx => hok x (by simp [hx])) (fun x hx => hl x (by simp [hx]))
    simp only [encAll, List.flatMap_cons, List.length_append, List.length_cons] at *
    omega
theorem encAll_bd (ops : List EOp) (hok : ∀ o ∈ ops, o.ok) : Bytes (encAll ops) := by
  intro b hb
  simp only [encAll, List.mem_flatMap] at hb
  obtain ⟨o, ho, h⟩ := hb
  exact encOne_bd o (hok o ho) b h
def AllPost (w : World) (ops : List EOp) (e : Ending) (w' : World) : Prop :=
  Mod [] w w' ∧ (light ops → ∃ v, e = .returned (.tuple #[v, .bool true]) ∧ w'.ownsRow w.heap.size 5 1 v (encAll ops).length (nums .u8 (encAll ops))) ∧ (¬ light ops → e = .returned (.tuple #[.slice none 0 0, .bool false]))
set_option maxRecDepth 100000 in
set_option maxHeartbeats 1000000 in
theorem all_any (A : Option Addr) (n c : Nat) (ops : List EOp) (w : World) (hr : ReadsOps w A n ops) (hn : n ≤ 40) :
    Calls Try.prog 28 #[.slice A n c] w (AllPost w ops) := by
  have hlen := Lib.hid hr.len
  have HO := Lib.hid (show ∀ o ∈ ops, o.ok from fun o ho => by obtain ⟨i, h, rfl⟩ := List.mem_iff_getElem.1 ho; exact (hr.row i h).choose_spec.2.2)
  go_enter Try.func28, Try.ntmps28
  go_wp2
  go_loopw [4, 5] (fun v i wr => ∃ k : Nat, k ≤ n ∧ i = .int .i64 k ∧ Mod [] w wr ∧ light (ops.take k) ∧ wr.ownsRow w.heap.size 5 1 v (encAll (ops.take k)).length (nums .u8 (encAll (ops.take k)))) (fun _ i _ => n - (intOf i).toNat)
  case atStart => exact ⟨0, by omega, rfl, Mod.refl _ _, by intro o ho; simp at ho, by exact own_nil _ _ _ _⟩
  case round =>
    obtain ⟨k, hk, rfl, hm, hli, hown⟩ := hrel
    by_cases hlt : k < n
    · have hkl : k < ops.length := by rw [hlen.out]; exact hlt
      obtain ⟨a, rfl, hat, hok⟩ := hr.row k hkl
      have hat' := hat.mod hm (by simp)
      have hsn := Lib.hid (encAll_snoc ops k hkl)
      have hlm := encAll_len (ops.take k) (fun o ho => HO.out o (List.mem_of_mem_take ho)) hli
      have hli' : ops[k].data.length ≤ 300 → light (ops.take (k + 1)) := fun h o ho => by
        rw [List.take_succ_eq_append_getElem hkl] at ho
        rcases List.mem_append.1 ho with h1 | h1
        · exact hli o h1
        · rw [List.mem_singleton] at h1; subst h1; exact h
      have hnl : ¬ ops[k].data.length ≤ 300 → ¬ light ops := fun h hl => h (hl _ (List.getElem_mem hkl))
      rw [List.length_take, Nat.min_eq_left (by omega)] at hlm
      generalize ops[k] = o at hat' hok hsn hli' hnl
      generalize encAll (ops.take k) = bs at hown hsn hlm
      obtain ⟨h0, h1, D, cd, h2, hcd, hd⟩ := hat'
      obtain ⟨kd, nn, dt⟩ := o
      simp only at h0 h1 h2 hcd hd hli' hnl
      obtain ⟨A1, c1, rfl, _, hr1, _⟩ := own_form hown
      have hx := hok.1
      have hx' := hok.2.1
      simp only at hx hx'
      have hsz := hm.size
      clear hat hown
      by_cases hl3 : dt.length ≤ 300
      · have HL := Lib.hid (hli' hl3)
        have t0 : decide ((300 : Int) < (dt.length : Int)) = false := by simp; omega
        generalize hdl : dt.length = m at *
        have HD := Lib.hid hdl
        clear hdl hli' hnl
        by_cases hk0 : kd = 0
        · have t1 : (kd == 0) = true := by simpa using hk0
          have HE := Lib.hid (show encOne ⟨kd, nn, dt⟩ = uput nn.toNat by unfold encOne; rw [if_pos hk0])
          clear hk0
          go_wp2_with fail
          refine (encCount_any A1 bs.length c1 nn bs wr hr1 (by omega) hx hx').mono ?_
          rintro e w1 ⟨v1, rfl, hm1, hown1⟩
          have HOW := Lib.hid hown1
          clear hown1
          go_wp2
          go_roundw
          case rel => exact ⟨k + 1, by omega, by go_num, hm.trans0 hm1, HL.out, by rw [hsn.out, HE.out]; exact own_weaken HOW.out hsz⟩
          case measure => simp [intOf]; omega
        · have t1 : (kd == 0) = false := by simpa using hk0
          by_cases hk1 : kd = 1
          · have t2 : (kd == 1) = true := by simpa using hk1
            have HE := Lib.hid (show encOne ⟨kd, nn, dt⟩ = uput (zz nn) by unfold encOne; rw [if_neg hk0, if_pos hk1])
            clear hk0 hk1
            go_wp2_with fail
            refine (encWhole_any A1 bs.length c1 nn bs wr hr1 (by omega) hx hx').mono ?_
            rintro e w1 ⟨v1, rfl, hm1, hown1⟩
            have HOW := Lib.hid hown1
            clear hown1
            go_wp2
            go_roundw
            case rel => exact ⟨k + 1, by omega, by go_num, hm.trans0 hm1, HL.out, by rw [hsn.out, HE.out]; exact own_weaken HOW.out hsz⟩
            case measure => simp [intOf]; omega
          · have t2 : (kd == 1) = false := by simpa using hk1
            have HE := Lib.hid (show encOne ⟨kd, nn, dt⟩ = uput m ++ dt by unfold encOne; rw [if_neg hk0, if_neg hk1, HD.out])
            clear hk0 hk1
            go_wp2_with fail
            refine (encSized_any A1 D bs.length c1 m cd bs dt wr hr1 (by omega) hd (by omega)).mono ?_
            rintro e w1 ⟨v1, rfl, hm1, hown1⟩
            have HOW := Lib.hid hown1
            clear hown1
            go_wp2
            go_roundw
            case rel => exact ⟨k + 1, by omega, by go_num, hm.trans0 hm1, HL.out, by rw [hsn.out, HE.out]; exact own_weaken HOW.out hsz⟩
            case measure => simp [intOf]; omega
      · have t0 : decide ((300 : Int) < (dt.length : Int)) = true := by simp; omega
        have HF := Lib.hid (hnl hl3)
        clear hnl hli' hl3
        go_wp2
        go_ret2
        exact ⟨hm, fun h => absurd h HF.out, fun _ => rfl⟩
    · have hkn : k = n := by omega
      have ht : ops.take k = ops := List.take_of_length_le (by rw [hlen.out]; omega)
      rw [ht] at hown hli
      have HOW := Lib.hid hown
      subst hkn
      clear hown ht
      go_wp2
      go_ret2
      exact ⟨hm, fun _ => ⟨_, rfl, HOW.out⟩, fun h => absurd hli h⟩
end Go.Proofs.Ytdkmkiiaklkcgaa
