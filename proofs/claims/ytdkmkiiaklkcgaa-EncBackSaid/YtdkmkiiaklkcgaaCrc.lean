/- The checksum of the program: its functions come to plain sums over lists of bytes. -/
import Derived.Test.YtdkmkiiaklkcgaaProg
import Derived.Test.YtdkmkiiaklkcgaaMem
import Derived.LoopTactic
import Derived.Deep.LoopGhost
import Derived.Deep.DeepMust
import Derived.Lib.SlBytesConst
set_option linter.unusedVariables false
set_option linter.unusedSimpArgs false
namespace Go.Proofs.Ytdkmkiiaklkcgaa
open Go.RowKit Go.Proofs.YtdkmkiiaklkcgaaW.PrintWords

def bitStep (r : Int) : Int := if Go.bits .and .u32 r 1 = 1 then Go.bits .xor .u32 (r / 2) 3988292384 else r / 2
def bitSteps : Nat → Int → Int
  | 0, r => r
  | n + 1, r => bitStep (bitSteps n r)
def byteStep (r c : Int) : Int := bitSteps 8 (Go.bits .xor .u32 r c)
def crcOn (r : Int) (bs : List Int) : Int := bs.foldl byteStep r
def crcNot (r : Int) : Int := Go.bits .xor .u32 IntKind.u32.max r
def crcMore (s : Int) (bs : List Int) : Int := crcNot (crcOn (crcNot s) bs)
theorem bits_bd (op : BinOp) (a b : Int) (ha : op = .and ∨ op = .or ∨ op = .xor) : 0 ≤ Go.bits op .u32 a b ∧ Go.bits op .u32 a b ≤ 4294967295 := by
  rcases ha with rfl | rfl | rfl <;> (simp only [Go.bits, IntKind.wrap_u32]; omega)
theorem bitStep_bd (r : Int) (h0 : 0 ≤ r) (h1 : r ≤ 4294967295) : 0 ≤ bitStep r ∧ bitStep r ≤ 4294967295 := by
  unfold bitStep
  split
  · exact bits_bd _ _ _ (by simp)
  · omega
theorem bitSteps_bd (n : Nat) (r : Int) (h0 : 0 ≤ r) (h1 : r ≤ 4294967295) : 0 ≤ bitSteps n r ∧ bitSteps n r ≤ 4294967295 := by
  induction n with
  | zero => exact ⟨h0, h1⟩
  | succ n ih => exact bitStep_bd _ ih.1 ih.2
theorem byteStep_bd (r c : Int) : 0 ≤ byteStep r c ∧ byteStep r c ≤ 4294967295 := by
  have := bits_bd .xor r c (by simp)
  exact bitSteps_bd 8 _ this.1 this.2
theorem crcOn_bd (r : Int) (h0 : 0 ≤ r) (h1 : r ≤ 4294967295) (bs : List Int) : 0 ≤ crcOn r bs ∧ crcOn r bs ≤ 4294967295 := by
  unfold crcOn
  induction bs generalizing r with
  | nil => exact ⟨h0, h1⟩
  | cons b bs ih => have := byteStep_bd r b; exact ih _ this.1 this.2
theorem crcNot_bd (r : Int) : 0 ≤ crcNot r ∧ crcNot r ≤ 4294967295 := bits_bd _ _ _ (by simp)
theorem crcMore_bd (s : Int) (bs : List Int) : 0 ≤ crcMore s bs ∧ crcMore s bs ≤ 4294967295 := by
  unfold crcMore crcNot; exact bits_bd _ _ _ (by simp)
theorem crcOn_append (r : Int) (a b : List Int) : crcOn r (a ++ b) = crcOn (crcOn r a) b := by simp [crcOn]
theorem crcOn_snoc (r : Int) (bs : List Int) (k : Nat) (h : k < bs.length) : crcOn r (bs.take (k + 1)) = byteStep (crcOn r (bs.take k)) (bs.getD k 0) := by
  rw [List.take_succ_eq_append_getElem h, crcOn_append, List.getD_eq_getElem?_getD, List.getElem?_eq_getElem h]; rfl
theorem bitSteps_succ (n : Nat) (r : Int) : bitSteps (n + 1) r = bitStep (bitSteps n r) := rfl
theorem step_yes (r : Int) (h : (Go.bits .and .u32 r 1 == 1) = true) : bitStep r = Go.bits .xor .u32 (r / 2) 3988292384 := by
  unfold bitStep; rw [if_pos (by simpa using h)]
theorem step_no (r : Int) (h : (Go.bits .and .u32 r 1 == 1) = false) : bitStep r = r / 2 := by
  unfold bitStep; rw [if_neg (by simpa using h)]

set_option linter.unusedVariables false in
theorem step_any (r c : Int) (w : World) (h0 : 0 ≤ r) (h1 : r ≤ 4294967295) (hc0 : 0 ≤ c) (hc1 : c ≤ 255) :
    Calls Try.prog 38 #[.int .u32 r, .int .u8 c] w fun e w' => e = .returned (.int .u32 (byteStep r c)) ∧ w = w' := by
  go_enter Try.func38, Try.ntmps38
  go_wp2
  go_loop [0, 10] (fun t i => ∃ k : Nat, k ≤ 8 ∧ i = .int .i64 k ∧ t = .int .u32 (bitSteps k (Go.bits .xor .u32 r c))) (fun _ i => 8 - (intOf i).toNat)
  case atStart => exact ⟨0, by omega, rfl, rfl⟩
  case round =>
    obtain ⟨k, hk, rfl, rfl⟩ := hrel
    have hx := bits_bd .xor r c (by simp)
    have hb := bitSteps_bd k _ hx.1 hx.2
    clear hx
    by_cases hlt : k < 8
    · go_wp2
      · exact ⟨⟨k + 1, by omega, by go_num, by rw [bitSteps_succ, step_yes _ ‹_›]⟩, by simp [intOf]; omega⟩
      · exact ⟨⟨k + 1, by omega, by go_num, by rw [bitSteps_succ, step_no _ ‹_›]⟩, by simp [intOf]; omega⟩
    · have : k = 8 := by omega
      subst this
      go_wp2
      go_ret
      exact ⟨rfl, rfl⟩

theorem take_nil (b : Value) (w : World) : Calls Try.prog 16 #[.pointer none, b] w fun e w' => e = .returned (.tuple #[]) ∧ w = w' := by
  go_enter Try.func16, Try.ntmps16
  go_wp2
  refine bodyPost_ret (results_none rfl _ _ _) rfl ⟨rfl, rfl⟩

theorem take_any (g : Nat) (x : Int) (A : Option Addr) (n c : Nat) (bs : List Int) (w : World) (h0 : 0 ≤ x) (h1 : x ≤ 4294967295)
    (hb : w.heap[g]? = some (.cells #[.int .u32 x] 65 (0, 0))) (hr : ReadsInt w .u8 A n bs) (hA : ∀ a, A = some a → 0 < n → a.block ≠ g) (hbs : Bytes bs) :
    Calls Try.prog 16 #[.pointer (some ⟨g, 0, none⟩), .slice A n c] w fun e w' => e = .returned (.tuple #[]) ∧ Mod [g] w w' ∧ w'.heap.size = w.heap.size ∧ w'.heap[g]? = some (.cells #[.int .u32 (crcOn x bs)] 65 (0, 0)) := by
  have hlen := hr.1
  have hmax := hr.2.1
  have H : Hid (bs.length = n) := hlen
  clear hlen
  go_enter Try.func16, Try.ntmps16
  go_wp2
  go_loopw [10] (fun i wr => ∃ k : Nat, k ≤ n ∧ i = .int .i64 k ∧ Mod [g] w wr ∧ wr.heap.size = w.heap.size ∧ wr.heap[g]? = some (.cells #[.int .u32 (crcOn x (bs.take k))] 65 (0, 0))) (fun i _ => n - (intOf i).toNat)
  case atStart => exact ⟨0, by omega, rfl, Mod.refl _ _, rfl, hb⟩
  case round =>
    obtain ⟨k, hk, rfl, hm, hsz, hb'⟩ := hrel
    have HS : Hid (wr.heap.size = w.heap.size) := hsz
    have HB : Hid (wr.heap[g]? = some (.cells #[.int .u32 (crcOn x (bs.take k))] 65 (0, 0))) := hb'
    clear hsz hb' hb
    by_cases hlt : k < n
    · obtain ⟨a, rfl, hcell⟩ := hr.at_ k (by omega) (by omega)
      have hcell' := hm.cell hcell (by rw [add_block]; simpa using hA a rfl (by omega))
      have hx := crcOn_bd x h0 h1 (bs.take k)
      have hbd : 0 ≤ rd bs (k : Int) ∧ rd bs (k : Int) ≤ 255 := hbs.at_ k
      have hc := blk_cell HB.out 0
      have hf := blk_frozen HB.out 0
      simp at hc hcell'
      clear hcell
      go_wp2_with (go_at_call 38; refine (step_any _ _ _ hx.1 hx.2 hbd.1 hbd.2).mono ?_; rintro e w' ⟨rfl, rfl⟩)
      go_roundw
      case rel => exact ⟨k + 1, by omega, by go_num, hm.setCell (by simp) _, by simpa using HS.out, by rw [blk_set HB.out, crcOn_snoc _ _ _ (by have := H.out; omega)]; rfl⟩
      case measure => simp [intOf]; omega
    · have : k = n := by omega
      subst this
      go_wp2
      go_end0
      exact ⟨rfl, hm, HS.out, by rw [HB.out, List.take_of_length_le (by have := H.out; omega)]⟩

theorem regsum_any (g : Nat) (x : Int) (w : World) (hb : w.heap[g]? = some (.cells #[.int .u32 x] 65 (0, 0))) :
    Calls Try.prog 17 #[.pointer (some ⟨g, 0, none⟩)] w fun e w' => e = .returned (.int .u32 (crcNot x)) ∧ w = w' := by
  have hc := blk_cell hb 0
  have HB := Lib.hid hb
  clear hb
  simp at hc
  go_enter Try.func17, Try.ntmps17
  go_wp2
  go_ret
  exact ⟨rfl, rfl⟩
theorem regsum_nil (w : World) : Calls Try.prog 17 #[.pointer none] w fun e w' => e = .returned (.int .u32 0) ∧ w = w' := by
  go_enter Try.func17, Try.ntmps17
  go_wp2
  go_ret
  exact ⟨rfl, rfl⟩
theorem more_any (s : Int) (A : Option Addr) (n c : Nat) (bs : List Int) (w : World)
    (hr : ReadsInt w .u8 A n bs) (hbs : Bytes bs) :
    Calls Try.prog 14 #[.int .u32 s, .slice A n c] w fun e w' => e = .returned (.int .u32 (crcMore s bs)) ∧ Mod [] w w' := by
  have hm := (Mod.refl [] w).alloc (.cells #[.int .u32 (crcNot s)] 65)
  have hb := blk_new w (.cells #[.int .u32 (crcNot s)] 65)
  have hr' := hm.reads hr (by simp)
  have hn := crcNot_bd s
  have HB := Lib.hid hb
  clear hb
  go_enter Try.func14, Try.ntmps14
  go_wp2_with fail
  refine (take_any w.heap.size (crcNot s) A n c bs _ hn.1 hn.2 HB.out hr' (fun a e hn => by have := reads_lt hr a e hn; omega) hbs).mono ?_
  rintro e w1 ⟨rfl, hm1, hsz, hb1⟩
  have HB1 := Lib.hid hb1
  clear hb1 hsz
  go_wp2_with fail
  refine (regsum_any _ _ _ HB1.out).mono ?_
  rintro e w2 ⟨rfl, rfl⟩
  go_wp2
  go_ret
  exact ⟨rfl, hm.trans hm1 (by simp)⟩
theorem sum_any (A : Option Addr) (n c : Nat) (bs : List Int) (w : World)
    (hr : ReadsInt w .u8 A n bs) (hbs : Bytes bs) :
    Calls Try.prog 12 #[.slice A n c] w fun e w' => e = .returned (.int .u32 (crcMore 0 bs)) ∧ Mod [] w w' := by
  go_enter Try.func12, Try.ntmps12
  go_wp2_with fail
  refine (more_any 0 A n c bs w hr hbs).mono ?_
  rintro e w2 ⟨rfl, hm⟩
  go_wp2
  go_ret
  exact ⟨rfl, hm⟩
theorem new_any (w : World) : Calls Try.prog 15 #[] w fun e w' => e = .returned (.pointer (some ⟨w.heap.size, 0, none⟩)) ∧ w' = w.alloc (.cells #[.int .u32 4294967295] 65) := by
  go_enter Try.func15, Try.ntmps15
  go_wp2
  go_ret
  exact ⟨rfl, rfl⟩
theorem info5 : (Try.prog.info? 5).map (fun i => (i.zero, i.size, i.bytes)) = some (some (.int .u8 0), 1, 1) := by kernel_rfl
def sumBytes (sum : Int) (n : Nat) : List Int := (List.range n).map fun k => sum / 2 ^ (8 * k) % 256
theorem sumBytes_succ (sum : Int) (n : Nat) : sumBytes sum (n + 1) = sumBytes sum n ++ [sum / 2 ^ (8 * n) % 256] := by simp [sumBytes, List.range_succ]
def crcSeal (bs : List Int) : List Int := bs ++ sumBytes (crcMore 0 bs) 4
theorem sumBytes_length (s : Int) (n : Nat) : (sumBytes s n).length = n := by simp [sumBytes]
theorem seal_any (A : Option Addr) (n c : Nat) (bs : List Int) (w : World)
    (hr : ReadsInt w .u8 A n bs) (hbs : Bytes bs) (hn : n ≤ 140737488355000) :
    Calls Try.prog 25 #[.slice A n c] w fun e w' => ∃ v, e = .returned v ∧ Mod [] w w' ∧ w'.ownsRow w.heap.size 5 1 v (n + 4) (nums .u8 (crcSeal bs)) := by
  have HL := Lib.hid hr.1
  have H0 := own_lit w w.heap.size 5 .u8 [] (Nat.le_refl _) (by simp)
  have hm0 := (Mod.refl [] w).alloc (.cells #[] 5)
  have hr0 := hm0.reads hr (by simp)
  go_enter Try.func25, Try.ntmps25
  go_wp2_with (at_builtin; refine append_row w.heap.size rfl (.tmp 6) (.tmp 7) 22 5 .u8 1 rfl Try.underlying22 info5 (by decide) _ [] bs A n c rfl rfl H0 hr0 hm0 (Nat.le_refl _) (by simp) (by simp; omega) ?_; intro v1 w1 hown hm1 hg hat; clear hg hat)
  have HO := Lib.hid hown
  clear hown H0 hm0 hr0
  obtain ⟨A1, c1, rfl⟩ := own_slice HO.out
  go_wp2_with fail
  refine (sum_any A n c bs w1 (hm1.reads hr (by simp)) hbs).mono ?_
  rintro e w2 ⟨rfl, hm2⟩
  have HO2 := Lib.hid (hm2.own HO.out (by simp))
  clear HO
  have hm12 := hm1.trans0 hm2
  clear hm1 hm2 w1
  have hs := crcMore_bd 0 bs
  generalize hsum : crcMore 0 bs = sum at hs
  have HS := Lib.hid hsum
  clear hsum
  go_wp2
  go_loopw [3, 11] (fun t i wr => ∃ k : Nat, k ≤ 4 ∧ i = .int .i64 k ∧ Mod [] w wr ∧ wr.ownsRow w.heap.size 5 1 t (bs ++ sumBytes sum k).length (nums .u8 (bs ++ sumBytes sum k))) (fun _ i _ => 4 - (intOf i).toNat)
  case atStart => exact ⟨0, by omega, rfl, hm12, by simpa [sumBytes] using HO2.out⟩
  case round =>
    obtain ⟨k, hk, rfl, hm, hown⟩ := hrel
    have HO := Lib.hid hown
    have hl : (bs ++ sumBytes sum k).length + 1 ≤ 140737488355328 := by have := HL.out; simp [sumBytes_length]; omega
    have hsz := hm.size
    clear hown
    by_cases hlt : k < 4
    · go_wp2_with (at_builtin; refine append_one w.heap.size rfl (.tmp 14) (.tmp 20) 22 5 .u8 1 rfl Try.underlying22 info5 (by decide) _ (bs ++ sumBytes sum k) _ rfl rfl HO.out hm (Nat.le_refl _) hsz (by omega) ?_; intro v1 w1 hown hm1 hg hat; clear hg hat)
      go_roundw
      case rel => exact ⟨k + 1, by omega, by go_num, hm1, by rw [sumBytes_succ, ← List.append_assoc]; exact hown⟩
      case measure => simp [intOf]; omega
    · have : k = 4 := by omega
      subst this
      go_wp2
      go_ret
      exact ⟨_, rfl, hm, by have e : (bs ++ sumBytes sum 4).length = n + 4 := by rw [List.length_append, sumBytes_length, HL.out]
                            rw [e] at HO; rw [crcSeal, HS.out]; exact HO.out⟩
theorem sumBytes_bd (s : Int) (n : Nat) : Bytes (sumBytes s n) := by
  intro b hb
  simp only [sumBytes, List.mem_map] at hb
  obtain ⟨k, _, rfl⟩ := hb
  omega
theorem crcSeal_bd {bs : List Int} (h : Bytes bs) : Bytes (crcSeal bs) := by
  intro b hb
  rw [crcSeal, List.mem_append] at hb
  exact hb.elim (h b) (sumBytes_bd _ _ b)
theorem bytes_take {bs : List Int} (h : Bytes bs) (k : Nat) : Bytes (bs.take k) := fun b hb => h b (List.mem_of_mem_take hb)
theorem open_short (A : Option Addr) (n c : Nat) (w : World) (h4 : n < 4) :
    Calls Try.prog 27 #[.slice A n c] w fun e w' => e = .returned (.tuple #[.slice none 0 0, .bool false]) ∧ w = w' := by
  go_enter Try.func27, Try.ntmps27
  go_wp2
  go_ret2
  exact ⟨rfl, rfl⟩
/-- What Open tells: of what was sealed the bytes, in memory of its own. -/
def OpenPost (n : Nat) (bs : List Int) (w : World) (e : Ending) (w' : World) : Prop :=
  (crcSeal (bs.take (n - 4)) = bs → ∃ A1, e = .returned (.tuple #[.slice A1 (n - 4) (n - 4), .bool true]) ∧ ReadsInt w' .u8 A1 (n - 4) (bs.take (n - 4)) ∧ (∀ a, A1 = some a → w.heap.size ≤ a.block ∧ a.block < w'.heap.size)) ∧
  (crcSeal (bs.take (n - 4)) ≠ bs → e = .returned (.tuple #[.slice none 0 0, .bool false]))
theorem open_any (A : Option Addr) (n c : Nat) (bs : List Int) (w : World)
    (hr : ReadsInt w .u8 A n bs) (hbs : Bytes bs) (hn : n ≤ 140737488355000) (hnc : n ≤ c) (h4 : 4 ≤ n) :
    Calls Try.prog 27 #[.slice A n c] w fun e w' => Mod [] w w' ∧ OpenPost n bs w e w' := by
  have HL := Lib.hid hr.1
  have hb0 := bytes_take hbs (n - 4)
  go_enter Try.func27, Try.ntmps27
  go_wp2_with fail
  refine (seal_any A (n - 4) c (bs.take (n - 4)) w (hr.take_ (n - 4) (by omega)) hb0 (by omega)).mono ?_
  rintro e w1 ⟨v, rfl, hm, hown⟩
  have e4 : n - 4 + 4 = n := by omega
  rw [e4] at hown
  have hr1 := hm.reads hr (by simp)
  have k1 := own_string (src := 22) (dst := 9) Try.underlying22 Try.underlying5 Try.underlying9 hown
  have k2 := string_of_reads (src := 22) (dst := 9) (c := c) Try.underlying22 Try.underlying5 Try.underlying9 hr1
  obtain ⟨A1, c1, rfl, hc1, hr2, hA1⟩ := own_form hown
  clear hown e4 hr1
  by_cases hs : crcSeal (bs.take (n - 4)) = bs
  · have hst := str_same hs
    have HS := Lib.hid hs
    clear hs
    go_wp2
    go_ret2
    refine ⟨hm, fun _ => ⟨A1, rfl, ?_, hA1⟩, fun h => absurd HS.out h⟩
    have := hr2.take_ (n - 4) (by omega)
    rwa [HS.out] at this
  · have hst := str_other (crcSeal_bd hb0) hbs hs
    go_wp2
    go_ret2
    exact ⟨hm, fun h => absurd h hs, fun _ => rfl⟩

theorem lives_any (w : World) : Calls Try.prog 11 #[] w fun e w' => e = .returned (.bool true) ∧ Mod [] w w' := by
  have hm0 := (Mod.refl [] w).alloc (.cells #[.int .u8 49, .int .u8 50, .int .u8 51, .int .u8 52, .int .u8 53, .int .u8 54, .int .u8 55, .int .u8 56, .int .u8 57] 5 (9, 10))
  have hr := reads_lit w .u8 [49, 50, 51, 52, 53, 54, 55, 56, 57] 5 (9, 10) (by simp)
  have hb : Bytes [49, 50, 51, 52, 53, 54, 55, 56, 57] := by intro b hb; simp at hb; omega
  have kc := fun (w : World) (C : Array Value) (n c : Nat) => Lib.run_convert_bytes_const (P := Try.prog) w 22 5 C n c Try.underlying22 Try.underlying5
  have E1 := Lib.hid (show crcMore 0 [49, 50, 51, 52, 53, 54, 55, 56, 57] = 3421780262 by decide +kernel)
  have E2 := Lib.hid (show crcMore 0 [] = 0 by decide +kernel)
  go_enter Try.func11, Try.ntmps11
  go_wp2_with fail
  refine (sum_any _ _ _ _ _ hr hb).mono ?_
  rintro e w1 ⟨rfl, hm1⟩
  rw [E1.out]
  have hm := hm0.trans0 hm1
  clear hm0 hm1 hr
  go_wp2_with fail
  refine (sum_any _ _ _ _ _ (reads_nil _ _) (by intro b hb; simp at hb)).mono ?_
  rintro e w2 ⟨rfl, hm1⟩
  rw [E2.out]
  have hm' := hm.trans0 hm1
  clear hm hm1
  go_wp2_with fail
  refine (new_any _).mono ?_
  rintro e w3 ⟨rfl, rfl⟩
  go_wp2
  go_ret
  exact ⟨rfl, hm'.alloc _⟩
end Go.Proofs.Ytdkmkiiaklkcgaa
