/- The record of bytes, as the program takes it off them. -/
import Derived.Test.YtopfaafgfgjfaaaObPart
set_option linter.unusedVariables false
set_option linter.unusedSimpArgs false
namespace Go.Proofs.Ytopfaafgfgjfaaa
open Go.RowKit Go.Proofs.YtopfaafgfgjfaaaW.PrintWords Go.Proofs.Ytopfaafgfgjfaaa.PObjLinks Go.Proofs.YtopfaafgfgjfaaaW.PrintLast
/-- A reader's fault, as one of bytes. -/
def rfault (f : Nat) : Int := if f = 3 then 3 else 4
theorem ofault_any (g : Nat) (A : Option Addr) (c : Nat) (bs : List Int) (p f : Nat) (w : World) (h : Rdr w g A c bs p (f : Int)) :
    Calls Try.prog 32 #[.pointer (some ⟨g, 0, none⟩)] w fun e w' => e = .returned (.int .i64 (rfault f)) ∧ w = w' := by
  have hft := fault_any g A c bs p (f : Int) w h
  unfold rfault
  by_cases hf : f = 3
  · subst hf
    go_enter Try.func32, Try.ntmps32
    go_wp2_with fail
    refine hft.mono ?_
    rintro e w1 ⟨rfl, rfl⟩
    clear hft
    go_wp2
    go_ret
    exact ⟨rfl, rfl⟩
  · rw [if_neg hf]
    have n0 : ((f : Int) == 3) = false := by simp; omega
    have n1 : (f == 3) = false := by simpa using hf
    clear hf
    go_enter Try.func32, Try.ntmps32
    go_wp2_with fail
    refine hft.mono ?_
    rintro e w1 ⟨rfl, rfl⟩
    clear hft
    go_wp2
    go_ret
    exact ⟨rfl, rfl⟩
/-- So many parts: were they all well, which, how far, the fault. -/
def rparts (bs : List Int) : Nat → Nat → List S54 → Bool × List S54 × Nat × Nat
  | 0, p, acc => (true, acc, p, 0)
  | n + 1, p, acc => if okPart (rpart bs p) = true then rparts bs n (rpart bs p).2.1 (acc ++ [(rpart bs p).1]) else (false, acc, (rpart bs p).2.1, (rpart bs p).2.2)
/-- A record of bytes, or why there is none. -/
structure Dec where
  a : Int
  l : List S54
  s : ByteArray
  e : Int
def noDec (e : Int) : Dec := ⟨0, [], ⟨#[]⟩, e⟩
def decEnd (bs : List Int) (a : Int) (ps : Bool × List S54 × Nat × Nat) : Dec :=
  if ps.1 = false then noDec (rfault ps.2.2.2)
  else if rend bs (rsized bs ps.2.2.1 4096).2.1 ((rsized bs ps.2.2.1 4096).2.2 : Int) ≠ 0 then noDec (rfault (rend bs (rsized bs ps.2.2.1 4096).2.1 ((rsized bs ps.2.2.1 4096).2.2 : Int)).toNat)
  else if mayR a ps.2.1 (strOfNums (rsized bs ps.2.2.1 4096).1) = false then noDec 4
  else ⟨a, ps.2.1, strOfNums (rsized bs ps.2.2.1 4096).1, 0⟩
def rdec (bs : List Int) : Dec :=
  if (rbyte bs 0).2.2 ≠ 0 then noDec (rfault (rbyte bs 0).2.2) else if keptB (rbyte bs 0).1 = false then noDec 4
  else if (rcount bs (rbyte bs 0).2.1 256).2.2 ≠ 0 then noDec (rfault (rcount bs (rbyte bs 0).2.1 256).2.2)
  else decEnd bs (rbyte bs 0).1 (rparts bs (rcount bs (rbyte bs 0).2.1 256).1 (rcount bs (rbyte bs 0).2.1 256).2.1 [])
def DecPost (w : World) (d : Dec) (e : Ending) (w' : World) : Prop :=
  ∃ A c, e = .returned (.tuple #[.agg #[.int .i64 d.a, .slice A d.l.length c, .string d.s], .int .i64 d.e]) ∧ d.l.length ≤ c ∧ Kd.C k54 w' A d.l.length d.l ∧ Mod [] w w'
theorem bys_bytes (s : ByteArray) : Bytes (bys s) := fun b hb => by
  unfold bys at hb
  obtain ⟨x, _, rfl⟩ := List.mem_map.1 hb
  have := x.toNat_lt
  omega
/-- The result's box, without a record. -/
theorem dec_none {w wx : World} {b2 : Nat} (hm : Mod [] w wx) (hw : w.heap.size ≤ b2) (v : Value) : Mod [] w (((wx.setCell ⟨b2, 0, none⟩ (.int .i64 0)).setCell ⟨b2, 1, none⟩ (.slice none 0 0)).setCell ⟨b2, 2, none⟩ (.string ⟨#[]⟩)) :=
  ((hm.setCell (.inr hw) _).setCell (.inr hw) _).setCell (.inr hw) _
/-- The state ahead of a part: the reader, the record that is being made, the parts so far. -/
structure DecI (w wr : World) (Z g : Nat) (A1 : Option Addr) (c1 : Nat) (bs : List Int) (p b5 : Nat) (K : Int) (acc : List S54) (Ax : Option Addr) (cx : Nat) : Prop where
  md : Mod [] w wr
  lt : Z ≤ wr.heap.size
  rd : Rdr wr g A1 c1 bs p 0
  k2 : wr.heap[w.heap.size]? = some (.cells #[.int .i64 0, .slice none 0 0, .string ⟨#[]⟩] 32 (0, 0))
  k5 : wr.heap[b5]? = some (.cells #[.int .i64 K, .slice Ax acc.length cx, .string ⟨#[]⟩] 32 (0, 0))
  row : Kd.R k54 54 wr 0 (fun k => Z ≤ k ∧ k < wr.heap.size) (.slice Ax acc.length cx) acc
/-- Where the blocks lie that stay. -/
structure DecZ (w : World) (Z g : Nat) (A1 : Option Addr) (b5 : Nat) : Prop where
  zg : g < Z
  z5 : b5 < Z
  zw : w.heap.size < Z
  zA : ∀ a, A1 = some a → a.block < Z
  wg : w.heap.size < g
  w5 : w.heap.size < b5
  n5 : b5 ≠ g
  nA : ∀ a, A1 = some a → a.block ≠ b5
section
variable {w wr : World} {Z g : Nat} {A1 : Option Addr} {c1 : Nat} {bs : List Int} {p b5 : Nat} {K : Int} {acc : List S54} {Ax : Option Addr} {cx : Nat}
theorem DecI.mod {wx : World} (h : DecI w wr Z g A1 c1 bs p b5 K acc Ax cx) (hm : Mod [] wr wx) : DecI w wx Z g A1 c1 bs p b5 K acc Ax cx :=
  ⟨h.md.trans0 hm, Nat.le_trans h.lt hm.size, h.rd.mod hm (by simp) (by simp), hm.blk h.k2 (by simp), hm.blk h.k5 (by simp), Kd.R_mono (Kd.R_step h.row (fun k _ hk => hm.block k hk (by simp))) (fun k hk => ⟨hk.1, Nat.lt_of_lt_of_le hk.2 hm.size⟩)⟩
theorem DecI.reader {wx : World} (h : DecI w wr Z g A1 c1 bs p b5 K acc Ax cx) (hz : DecZ w Z g A1 b5) (hm : Mod [g] wr wx) {p' : Nat} (hR : Rdr wx g A1 c1 bs p' 0) : DecI w wx Z g A1 c1 bs p' b5 K acc Ax cx :=
  ⟨h.md.trans (T := [g]) hm (fun t ht => .inr (by rw [List.mem_singleton.1 ht]; exact Nat.le_of_lt hz.wg)), Nat.le_trans h.lt hm.size, hR, hm.blk h.k2 (by simp; exact Nat.ne_of_lt hz.wg), hm.blk h.k5 (by simp; exact hz.n5),
   Kd.R_mono (Kd.R_step h.row (fun k hk hl => hm.block k hl (by simp; have := hz.zg; omega))) (fun k hk => ⟨hk.1, Nat.lt_of_lt_of_le hk.2 hm.size⟩)⟩
theorem DecI.push {w1 : World} {A4 : Option Addr} {c4 : Nat} {q : S54} (h : DecI w wr Z g A1 c1 bs p b5 K acc Ax cx) (hz : DecZ w Z g A1 b5) (hr : Kd.R k54 54 w1 0 (fun k => (Z ≤ k ∧ k < wr.heap.size) ∨ wr.heap.size ≤ k) (.slice A4 (acc.length + 1) c4) (acc ++ [q])) (hg : wr.grownBy w1 (Value.slice Ax acc.length cx).ownBlock) :
    DecI w (w1.setCell ⟨b5, 1, none⟩ (.slice A4 (acc.length + 1) c4)) Z g A1 c1 bs p b5 K (acc ++ [q]) A4 c4 ∧ w1.heap[b5]? = some (.cells #[.int .i64 K, .slice Ax acc.length cx, .string ⟨#[]⟩] 32 (0, 0)) := by
  have hm := Mod.of_grown hg
  have hS : ∀ k ∈ (Value.slice Ax acc.length cx).ownBlock.toList, Z ≤ k := fun k hk => by
    have : (Value.slice Ax acc.length cx).ownBlock = some k := by simpa using hk
    exact (h.row.1 k this).1
  have hn : ∀ k, k < Z → k ∉ (Value.slice Ax acc.length cx).ownBlock.toList := fun k hk hq => by have := hS k hq; omega
  have h5 := hm.blk h.k5 (hn b5 hz.z5)
  have hs := hm.size
  have hl := h.lt
  refine ⟨⟨?_, by simp; omega, ?_, ?_, ?_, ?_⟩, h5⟩
  · exact (h.md.trans hm (fun t ht => .inr (by have := hS t ht; have := hz.zw; omega))).setCell (.inr (Nat.le_of_lt hz.w5)) _
  · exact (h.rd.mod hm (hn g hz.zg) (fun a ha _ => hn _ (hz.zA a ha))).mod ((Mod.refl [b5] w1).setCell (.inl (by simp)) _) (by simp; exact hz.n5.symm) (fun a ha _ => by simp; exact hz.nA a ha)
  · exact (Below.heap_setCell w1 _ _ _ (Nat.ne_of_lt hz.w5)).trans (hm.blk h.k2 (hn _ hz.zw))
  · rw [List.length_append]
    exact blk_put h5 1 (.slice A4 (acc.length + 1) c4) rfl
  · rw [List.length_append]
    have hr2 := Kd.R_bound hr
    exact Kd.R_mono (Kd.R_move hr2 (fun k hk => Below.heap_setCell w1 _ _ k (by have := hz.z5; have h1 := hk.1; show k ≠ b5; omega))) (fun k hk => ⟨by have h1 := hk.1; omega, by simpa using hk.2.2.1⟩)
end
theorem rbyte_pos {bs : List Int} {K : Int} {p1 : Nat} (h : rbyte bs 0 = (K, p1, 0)) : 0 < bs.length := by
  unfold rbyte at h
  by_cases hp : 0 < bs.length
  · exact hp
  · rw [if_neg hp] at h
    injection h with _ h; injection h with _ h; cases h
theorem rcount_le {bs : List Int} {p n p2 : Nat} {limit : Int} (h : rcount bs p limit = (n, p2, 0)) : (n : Int) ≤ limit := by
  unfold rcount at h
  split at h
  · next h1 => injection h with _ h; injection h with _ h; exact absurd h h1
  · split at h
    · injection h with _ h; injection h with _ h; cases h
    · split at h
      · injection h with _ h; injection h with _ h; cases h
      · next h3 => injection h with h _; omega
theorem rsized_le (bs : List Int) (p limit : Nat) : (rsized bs p (limit : Int)).1.length ≤ limit := by
  obtain ⟨⟨n, p2, f⟩, h⟩ : ∃ r, rcount bs p (limit : Int) = r := ⟨_, rfl⟩
  unfold rsized
  rw [h]
  dsimp only
  split
  · simp
  · next hf =>
    have hf0 : f = 0 := by simpa using hf
    subst hf0
    have := rcount_le h
    split
    · simp
    · rw [List.length_take]; omega
theorem rend_nat (bs : List Int) (p f : Nat) : ∃ fe : Nat, rend bs p (f : Int) = (fe : Int) := by
  unfold rend
  split
  · exact ⟨4, rfl⟩
  · exact ⟨f, rfl⟩
/-- The reader alone has gone on, maybe at fault. -/
theorem hI0 {w wr wx : World} {Z g : Nat} {A1 : Option Addr} {c1 : Nat} {bs : List Int} {p b5 : Nat} {K : Int} {acc : List S54} {Ax : Option Addr} {cx : Nat} (h : DecI w wr Z g A1 c1 bs p b5 K acc Ax cx) (hz : DecZ w Z g A1 b5) (hm : Mod [g] wr wx) :
    Mod [] w wx ∧ wx.heap[w.heap.size]? = some (.cells #[.int .i64 0, .slice none 0 0, .string ⟨#[]⟩] 32 (0, 0)) ∧ wx.heap[b5]? = some (.cells #[.int .i64 K, .slice Ax acc.length cx, .string ⟨#[]⟩] 32 (0, 0)) ∧ Kd.R k54 54 wx 0 (fun k => Z ≤ k ∧ k < wx.heap.size) (.slice Ax acc.length cx) acc :=
  ⟨h.md.trans (T := [g]) hm (fun t ht => .inr (by rw [List.mem_singleton.1 ht]; exact Nat.le_of_lt hz.wg)), hm.blk h.k2 (by simp; exact Nat.ne_of_lt hz.wg), hm.blk h.k5 (by simp; exact hz.n5),
   Kd.R_mono (Kd.R_step h.row (fun k hk hl => hm.block k hl (by simp; have := hz.zg; omega))) (fun k hk => ⟨hk.1, Nat.lt_of_lt_of_le hk.2 hm.size⟩)⟩
set_option maxRecDepth 100000 in
set_option maxHeartbeats 16000000 in
theorem decode_any (b : ByteArray) (w : World) (hb : b.size ≤ 900000) : Calls Try.prog 19 #[.string b] w (DecPost w (rdec (bys b))) := by
  have hk2 := blk_new w (.cells #[.int .i64 0, .slice none 0 0, .string ⟨#[]⟩] 32)
  have hm0 := (Mod.refl [] w).alloc (.cells #[.int .i64 0, .slice none 0 0, .string ⟨#[]⟩] 32)
  obtain ⟨w1, k1, hrun, hm1, hck, hrd1, hz1⟩ := conv_str (P := Try.prog) (w.alloc (.cells #[.int .i64 0, .slice none 0 0, .string ⟨#[]⟩] 32)) 9 50 5 b Try.underlying9 Try.underlying50 Try.underlying5 (by omega)
  rw [World.size_alloc] at hrun hrd1
  have HBL := Lib.hid (bys_length b)
  have HM1 := Lib.hid (hm0.trans0 hm1)
  have HK2 := Lib.hid (hm1.blk hk2 (by simp))
  have hrda := read_any _ b.size k1 (bys b) w1 hrd1 (by omega) (bys_bytes b)
  have HBB := Lib.hid (Nat.le_refl w.heap.size)
  clear hk2 hm0 hm1 hz1 hrd1
  generalize bys b = bs at *
  unfold DecPost
  go_enter Try.func19, Try.ntmps19
  go_wp2_with fail
  refine hrda.mono ?_
  rintro e w2 ⟨g, A1, c1, rfl, hm2, hg, hR2, hA1⟩
  clear hrda hrun
  have HM2 := Lib.hid (HM1.out.trans0 hm2)
  have HK1 := HK2
  have HK2 := Lib.hid (hm2.blk HK2.out (by simp))
  have HR2 := Lib.hid hR2
  have HG := Lib.hid (show w.heap.size < g from Nat.lt_of_lt_of_le (blk_lt HK1.out) hg)
  have HA1 := Lib.hid (show ∀ a, A1 = some a → w.heap.size < a.block from fun a ha => Nat.lt_of_lt_of_le (blk_lt HK1.out) (hA1 a ha))
  clear hm2 hg hR2 hA1 HK1 HM1
  have hby := byte_ready g A1 c1 bs 0 w2 HR2.out
  have HBY := Lib.hid (rbyte_rng HR2.out.bytes 0)
  go_wp2_with fail
  refine hby.mono ?_
  rintro e w3 ⟨rfl, hm3, hR3⟩
  clear hby
  have HM3 := Lib.hid (show Mod [] w w3 from (HM2.out.trans (T := [g]) hm3 (fun t ht => .inr (by rw [List.mem_singleton.1 ht]; exact Nat.le_of_lt HG.out))))
  have HK3 := Lib.hid (hm3.blk HK2.out (by simp; exact Nat.ne_of_lt HG.out))
  have HR3 := Lib.hid hR3
  clear hm3 hR3 HR2 HM2 HK2
  obtain ⟨⟨K, p1, f1⟩, hrb⟩ : ∃ r, rbyte bs 0 = r := ⟨_, rfl⟩
  have HRB := Lib.hid hrb
  rw [hrb] at HR3 HBY ⊢
  clear hrb
  dsimp only at HR3 HBY ⊢
  have hwk : wrap64 K = K := by have := HBY.out; unfold wrap64; omega
  have HK5 := Lib.hid (blk_new w3 (.cells #[.int .i64 K, .slice none 0 0, .string ⟨#[]⟩] 32))
  have HB5 := Lib.hid (show w.heap.size < w3.heap.size from blk_lt HK3.out)
  have HB5G := Lib.hid (show g < w3.heap.size from blk_lt HR3.out.blk)
  have HAB0 := Lib.hid (fun (hp : 0 < bs.length) (a : Addr) (ha : A1 = some a) => Nat.ne_of_lt (reads_lt HR3.out.reads a ha hp))
  have HM4 := Lib.hid (HM3.out.alloc (.cells #[.int .i64 K, .slice none 0 0, .string ⟨#[]⟩] 32))
  have HK4 := Lib.hid (blk_old HK3.out (.cells #[.int .i64 K, .slice none 0 0, .string ⟨#[]⟩] 32))
  have HR4 := Lib.hid (HR3.out.mod ((Mod.refl [] w3).alloc (.cells #[.int .i64 K, .slice none 0 0, .string ⟨#[]⟩] 32)) (by simp) (by simp))
  clear HM3 HK3 HR3
  have z0 := (blk_cell HK5.out 0).trans rfl
  go_upto_region 3 with fail
  clear hwk
  generalize w3.alloc (.cells #[.int .i64 K, .slice none 0 0, .string ⟨#[]⟩] 32) = w4 at *
  generalize w3.heap.size = b5 at *
  have hft := fault_any g A1 c1 bs p1 (f1 : Int) w4 HR4.out
  by_cases hf1 : f1 = 0
  case neg =>
    have n0 : ((f1 : Int) == 0) = false := by simp [hf1]
    have n0' : (f1 == 0) = false := by simp [hf1]
    have HF := Lib.hid hf1
    clear hf1
    go_wp2_with fail
    refine hft.mono ?_
    rintro e wz ⟨rfl, rfl⟩
    clear hft z0
    have HRES : Hid (rdec bs = noDec (rfault f1)) := Lib.hid (by unfold rdec; rw [HRB.out]; exact if_pos HF.out)
    have hof := ofault_any g A1 c1 bs p1 f1 w4 HR4.out
    have y0 := (blk_cell HK4.out 0).trans rfl
    have y1 := (blk_cell HK4.out 1).trans rfl
    have y2 := (blk_cell HK4.out 2).trans rfl
    have g0 := blk_frozen HK4.out 0
    have g1 := blk_frozen HK4.out 1
    have g2 := blk_frozen HK4.out 2
    go_wp2_with fail
    refine hof.mono ?_
    rintro e wz ⟨rfl, rfl⟩
    clear hof
    go_wp2
    refine bodyPost_ret (results_rowtmp rfl _ _ w.heap.size 32 #[.int .i64 0, .slice none 0 0, .string ⟨#[]⟩] (0, 0) _ rfl (blk_put (blk_put (blk_put HK4.out 0 (.int .i64 0) rfl) 1 (.slice none 0 0) rfl) 2 (.string ⟨#[]⟩) rfl) Try.underlying32 rfl (by kernel_rfl)) rfl ?_
    rw [HRES.out]
    exact ⟨none, 0, rfl, Nat.le_refl _, Kd.C_nil _ _, dec_none HM4.out (Nat.le_refl _) (.int .i64 0)⟩
  have hkp := kept_any K w4
  change Calls Try.prog 18 _ _ (fun e w' => e = .returned (.bool (keptB K)) ∧ _) at hkp
  subst hf1
  cases hkb : keptB K
  · rw [hkb] at hkp
    have HKB := Lib.hid hkb
    clear hkb
    go_wp2_with fail
    refine hft.mono ?_
    rintro e wz ⟨rfl, rfl⟩
    clear hft
    go_wp2_with fail
    refine hkp.mono ?_
    rintro e w5 ⟨rfl, hm5⟩
    clear hkp z0
    have HM5 := Lib.hid (HM4.out.trans0 hm5)
    have HK25 := Lib.hid (hm5.blk HK4.out (by simp))
    have HR5 := Lib.hid (HR4.out.mod hm5 (by simp) (by simp))
    clear hm5
    have HRES : Hid (rdec bs = noDec (rfault 0)) := Lib.hid (by unfold rdec; rw [HRB.out]; dsimp only; rw [if_neg (by simp), if_pos HKB.out]; rfl)
    have hof := ofault_any g A1 c1 bs p1 0 w5 HR5.out
    have y0 := (blk_cell HK25.out 0).trans rfl
    have y1 := (blk_cell HK25.out 1).trans rfl
    have y2 := (blk_cell HK25.out 2).trans rfl
    have g0 := blk_frozen HK25.out 0
    have g1 := blk_frozen HK25.out 1
    have g2 := blk_frozen HK25.out 2
    go_wp2_with fail
    refine hof.mono ?_
    rintro e wz ⟨rfl, rfl⟩
    clear hof
    go_wp2
    refine bodyPost_ret (results_rowtmp rfl _ _ w.heap.size 32 #[.int .i64 0, .slice none 0 0, .string ⟨#[]⟩] (0, 0) _ rfl (blk_put (blk_put (blk_put HK25.out 0 (.int .i64 0) rfl) 1 (.slice none 0 0) rfl) 2 (.string ⟨#[]⟩) rfl) Try.underlying32 rfl (by kernel_rfl)) rfl ?_
    rw [HRES.out]
    exact ⟨none, 0, rfl, Nat.le_refl _, Kd.C_nil _ _, dec_none HM5.out (Nat.le_refl _) (.int .i64 0)⟩
  rw [hkb] at hkp
  have HKB := Lib.hid hkb
  clear hkb
  go_wp2_with fail
  refine hft.mono ?_
  rintro e wz ⟨rfl, rfl⟩
  clear hft
  go_wp2_with fail
  refine hkp.mono ?_
  rintro e w5 ⟨rfl, hm5⟩
  clear hkp z0
  have HM5 := Lib.hid (HM4.out.trans0 hm5)
  have HK25 := Lib.hid (hm5.blk HK4.out (by simp))
  have HK55 := Lib.hid (hm5.blk HK5.out (by simp))
  have HR5 := Lib.hid (HR4.out.mod hm5 (by simp) (by simp))
  clear hm5 HM4 HK4 HK5 HR4
  have hcn := count_ready g A1 c1 bs p1 256 w5 HR5.out (by omega) (by omega)
  go_wp2_with fail
  refine hcn.mono ?_
  rintro e w6 ⟨rfl, hm6, hR6⟩
  clear hcn
  have HM6 := Lib.hid (show Mod [] w w6 from (HM5.out.trans (T := [g]) hm6 (fun t ht => .inr (by rw [List.mem_singleton.1 ht]; exact Nat.le_of_lt HG.out))))
  have HK26 := Lib.hid (hm6.blk HK25.out (by simp; exact Nat.ne_of_lt HG.out))
  have HK56 := Lib.hid (hm6.blk HK55.out (by simp; exact (Nat.ne_of_lt HB5G.out).symm))
  have HR6 := Lib.hid hR6
  clear hm6 hR6 HM5 HK25 HK55 HR5
  obtain ⟨⟨n, p2, f2⟩, hrc⟩ : ∃ r, rcount bs p1 256 = r := ⟨_, rfl⟩
  have HRC := Lib.hid hrc
  rw [hrc] at HR6 ⊢
  clear hrc
  dsimp only at HR6 ⊢
  have hft := fault_any g A1 c1 bs p2 (f2 : Int) w6 HR6.out
  by_cases hf2 : f2 = 0
  case neg =>
    have n0 : ((f2 : Int) == 0) = false := by simp [hf2]
    have n0' : (f2 == 0) = false := by simp [hf2]
    have HF := Lib.hid hf2
    clear hf2
    go_wp2_with fail
    refine hft.mono ?_
    rintro e wz ⟨rfl, rfl⟩
    clear hft
    have HRES : Hid (rdec bs = noDec (rfault f2)) := Lib.hid (by unfold rdec; rw [HRB.out]; dsimp only; rw [HRC.out, if_neg (by simp), if_neg (by rw [HKB.out]; simp), if_pos HF.out])
    have hof := ofault_any g A1 c1 bs p2 f2 w6 HR6.out
    have y0 := (blk_cell HK26.out 0).trans rfl
    have y1 := (blk_cell HK26.out 1).trans rfl
    have y2 := (blk_cell HK26.out 2).trans rfl
    have g0 := blk_frozen HK26.out 0
    have g1 := blk_frozen HK26.out 1
    have g2 := blk_frozen HK26.out 2
    go_wp2_with fail
    refine hof.mono ?_
    rintro e wz ⟨rfl, rfl⟩
    clear hof
    go_wp2
    refine bodyPost_ret (results_rowtmp rfl _ _ w.heap.size 32 #[.int .i64 0, .slice none 0 0, .string ⟨#[]⟩] (0, 0) _ rfl (blk_put (blk_put (blk_put HK26.out 0 (.int .i64 0) rfl) 1 (.slice none 0 0) rfl) 2 (.string ⟨#[]⟩) rfl) Try.underlying32 rfl (by kernel_rfl)) rfl ?_
    rw [HRES.out]
    exact ⟨none, 0, rfl, Nat.le_refl _, Kd.C_nil _ _, dec_none HM6.out (Nat.le_refl _) (.int .i64 0)⟩
  subst hf2
  have HRD := Lib.hid (show rdec bs = decEnd bs K (rparts bs n p2 []) by unfold rdec; rw [HRB.out]; dsimp only; rw [HRC.out, if_neg (by simp), if_neg (by rw [HKB.out]; simp), if_neg (by simp)])
  go_wp2_with fail
  refine hft.mono ?_
  rintro e wz ⟨rfl, rfl⟩
  clear hft
  have hpos := rbyte_pos HRB.out
  have hn := rcount_le HRC.out
  have HAB := Lib.hid (HAB0.out hpos)
  have HAZ := Lib.hid (fun (a : Addr) (ha : A1 = some a) => reads_lt HR6.out.reads a ha hpos)
  have HI0 := Lib.hid (show DecI w w6 w6.heap.size g A1 c1 bs p2 b5 K [] none 0 from ⟨HM6.out, Nat.le_refl _, HR6.out, HK26.out, HK56.out, Kd.R_nil _ _ _ _ _⟩)
  have HZ := Lib.hid (show DecZ w w6.heap.size g A1 b5 from ⟨blk_lt HR6.out.blk, blk_lt HK56.out, blk_lt HK26.out, HAZ.out, HG.out, HB5.out, (Nat.ne_of_lt HB5G.out).symm, HAB.out⟩)
  generalize w6.heap.size = Z at *
  clear HM6 HK26 HK56 HR6 HAZ hpos
  go_wp2_with fail
  go_loopw [37] (fun iv wr => ∃ (i p : Nat) (acc : List S54) (Ax : Option Addr) (cx : Nat), iv = .int .i64 (i : Int) ∧ i ≤ n ∧ acc.length = i ∧ DecI w wr Z g A1 c1 bs p b5 K acc Ax cx ∧ rparts bs n p2 [] = rparts bs (n - i) p acc) (fun iv _ => n - (intOf iv).toNat)
  case atStart => exact ⟨0, p2, [], none, 0, rfl, Nat.zero_le _, rfl, HI0.out, by simp⟩
  clear HI0
  case round =>
    obtain ⟨i, p, acc, Ax, cx, rfl, hi, hal, hI, hrp⟩ := hrel
    have HI := Lib.hid hI
    have HAL := Lib.hid hal
    have HRP := Lib.hid hrp
    clear hI hal hrp
    by_cases hlt : i < n
    · have hlt2 : (i : Int) < (n : Int) := by omega
      have hpt := part_ready g A1 c1 bs p wr HI.out.rd (fun a ha => Nat.lt_of_lt_of_le (HZ.out.zA a ha) HI.out.lt)
      obtain ⟨m, hm⟩ : ∃ m, n - i = m + 1 := ⟨n - i - 1, by omega⟩
      have HM1 := Lib.hid hm
      clear hm
      obtain ⟨⟨q, p3, f3⟩, hr⟩ : ∃ r, rpart bs p = r := ⟨_, rfl⟩
      have HRR := Lib.hid hr
      rw [hr] at hpt
      clear hr
      cases hok : okPart (q, p3, f3)
      · unfold PartPost at hpt
        rw [hok] at hpt
        dsimp only at hpt
        have HOK := Lib.hid hok
        clear hok
        go_wp2_with fail
        refine hpt.mono ?_
        rintro e w7 ⟨rfl, hm7, hR7⟩
        clear hpt
        have HM7 := Lib.hid (show Mod [] w w7 from HI.out.md.trans (T := [g]) hm7 (fun t ht => .inr (by rw [List.mem_singleton.1 ht]; exact Nat.le_of_lt HZ.out.wg)))
        have HK7 := Lib.hid (hm7.blk HI.out.k2 (by simp; exact Nat.ne_of_lt HZ.out.wg))
        have HM8 := Lib.hid (HM7.out.alloc (.cells #[.int .i64 q.f0, .int .i64 q.f1, .string q.f2] 54))
        have HK8 := Lib.hid (blk_old HK7.out (.cells #[.int .i64 q.f0, .int .i64 q.f1, .string q.f2] 54))
        have HR8 := Lib.hid (hR7.mod ((Mod.refl [] w7).alloc (.cells #[.int .i64 q.f0, .int .i64 q.f1, .string q.f2] 54)) (by simp) (by simp))
        clear hm7 hR7
        go_upto_region 12 with fail
        generalize w7.alloc (.cells #[.int .i64 q.f0, .int .i64 q.f1, .string q.f2] 54) = w8 at *
        have HRES : Hid (rdec bs = noDec (rfault f3)) := Lib.hid (by rw [HRD.out, HRP.out, HM1.out, rparts, HRR.out, if_neg (by rw [HOK.out]; simp)]; exact if_pos rfl)
        have hof := ofault_any g A1 c1 bs p3 f3 w8 HR8.out
        have y0 := (blk_cell HK8.out 0).trans rfl
        have y1 := (blk_cell HK8.out 1).trans rfl
        have y2 := (blk_cell HK8.out 2).trans rfl
        have g0 := blk_frozen HK8.out 0
        have g1 := blk_frozen HK8.out 1
        have g2 := blk_frozen HK8.out 2
        go_wp2_with fail
        refine hof.mono ?_
        rintro e wz ⟨rfl, rfl⟩
        clear hof
        go_wp2
        refine bodyPost_ret (results_rowtmp rfl _ _ w.heap.size 32 #[.int .i64 0, .slice none 0 0, .string ⟨#[]⟩] (0, 0) _ rfl (blk_put (blk_put (blk_put HK8.out 0 (.int .i64 0) rfl) 1 (.slice none 0 0) rfl) 2 (.string ⟨#[]⟩) rfl) Try.underlying32 rfl (by kernel_rfl)) rfl ?_
        rw [HRES.out]
        exact ⟨none, 0, rfl, Nat.le_refl _, Kd.C_nil _ _, dec_none HM8.out (Nat.le_refl _) (.int .i64 0)⟩
      · have hf3 : f3 = 0 := by unfold okPart at hok; simp at hok; exact hok.1
        subst hf3
        unfold PartPost at hpt
        rw [hok] at hpt
        dsimp only at hpt
        have HOK := Lib.hid hok
        clear hok
        go_wp2_with fail
        refine hpt.mono ?_
        rintro e w7 ⟨rfl, hm7, hR7⟩
        clear hpt
        have HI7 := Lib.hid (HI.out.reader HZ.out hm7 hR7)
        have HI8 := Lib.hid (HI7.out.mod ((Mod.refl [] w7).alloc (.cells #[.int .i64 q.f0, .int .i64 q.f1, .string q.f2] 54)))
        have HK7 := Lib.hid (blk_new w7 (.cells #[.int .i64 q.f0, .int .i64 q.f1, .string q.f2] 54))
        clear hm7 hR7
        go_upto_region 13 with fail
        generalize w7.alloc (.cells #[.int .i64 q.f0, .int .i64 q.f1, .string q.f2] 54) = w8 at *
        generalize w7.heap.size = b7 at *
        have y1 := (blk_cell HI8.out.k5 1).trans rfl
        have z0 := (blk_cell HK7.out 0).trans rfl
        have z1 := (blk_cell HK7.out 1).trans rfl
        have z2 := (blk_cell HK7.out 2).trans rfl
        have HBD := Lib.hid (show (acc.length + 1) * 32 ≤ 140737488355328 by have := HAL.out; omega)
        go_wp2_with (at_builtin; refine Kd.R_append k54 (w0 := w8) 0 rfl (.tmp 50) (.tmp 52) 30 54 (.agg #[.int .i64 0, .int .i64 0, .string ⟨#[]⟩]) 32 rfl Try.underlying30 info54 rfl (by decide) (by decide) (.slice Ax acc.length cx) acc q [.int .i64 q.f0, .int .i64 q.f1, .string q.f2] (fun k => (Z ≤ k ∧ k < w8.heap.size) ∨ w8.heap.size ≤ k) (fun _ => False) rfl rfl (k54_mkM _ 0 _ q) (fun _ hk => hk.elim) (fun k hk => .inr hk) (Kd.R_mono HI8.out.row (fun k hk => .inl hk)) (Below.refl 0 w8) (Nat.zero_le _) HBD.out ?_; intro v1 w9 hr9 hb9 hg9 hn9; clear hb9 hn9; obtain ⟨A4, c4, e4, _⟩ := Kd.R_reads hr9; have e4' : v1 = .slice A4 (acc.length + 1) c4 := (by rw [e4]; simp); subst e4'; clear e4; obtain ⟨hI9, hk9⟩ := HI8.out.push HZ.out hr9 hg9; have HI9 := Lib.hid hI9; have x1 := (blk_cell hk9 1).trans rfl; have x1f := blk_frozen hk9 1; clear hr9 hg9 hI9 hk9)
        refine ⟨⟨i + 1, p3, acc ++ [q], A4, c4, by go_num, by omega, by rw [List.length_append, HAL.out]; rfl, HI9.out, ?_⟩, ?_⟩
        · rw [HRP.out, HM1.out, rparts, HRR.out, if_pos HOK.out, show n - (i + 1) = m by have := HM1.out; omega]
        · simp [intOf]; omega
    · obtain rfl : i = n := by omega
      have hlt2 : ¬ (i : Int) < (i : Int) := by omega
      have hps : rparts bs i p2 [] = (true, acc, p, 0) := by rw [HRP.out, Nat.sub_self]; rfl
      have HPS := Lib.hid hps
      clear hps HRP
      have hsz := sized_ready g A1 c1 bs p 4096 wr HI.out.rd (by omega) (by omega)
      have hdl := rsized_le bs p 4096
      rw [show ((4096 : Nat) : Int) = 4096 from rfl] at hdl
      obtain ⟨⟨ds, p3, f3⟩, hrs⟩ : ∃ r, rsized bs p 4096 = r := ⟨_, rfl⟩
      have HRS := Lib.hid hrs
      rw [hrs] at hsz hdl
      clear hrs
      go_wp2_with fail
      refine hsz.mono ?_
      rintro e w7 ⟨A2, n2, c2, rfl, hr2, hm7, hR7⟩
      clear hsz
      dsimp only at hr2 hR7 hdl
      have hcv := string_of_reads (P := Try.prog) (dst := 9) (c := c2) Try.underlying50 Try.underlying5 Try.underlying9 hr2
      have hI7 := hI0 HI.out HZ.out hm7
      obtain ⟨q1, q2, q3, q4⟩ := hI7
      have y2 := (blk_cell q3 2).trans rfl
      have g2 := blk_frozen q3 2
      have HM8 := Lib.hid (q1.setCell (p := ⟨b5, 2, none⟩) (.inr (Nat.le_of_lt HZ.out.w5)) (.string (strOfNums ds)))
      have HK28 := Lib.hid (show (w7.setCell ⟨b5, 2, none⟩ (.string (strOfNums ds))).heap[w.heap.size]? = _ from (Below.heap_setCell w7 _ _ _ (Nat.ne_of_lt HZ.out.w5)).trans q2)
      have HK58 := Lib.hid (blk_put q3 2 (.string (strOfNums ds)) rfl)
      have HR8 := Lib.hid (show Rdr (w7.setCell ⟨b5, 2, none⟩ (.string (strOfNums ds))) g A1 c1 bs p3 (f3 : Int) from hR7.mod ((Mod.refl [b5] w7).setCell (.inl (by simp)) _) (by simp; exact HZ.out.n5.symm) (fun a ha _ => by simp; exact HZ.out.nA a ha))
      have HC8 := Lib.hid (show Kd.R k54 54 (w7.setCell ⟨b5, 2, none⟩ (.string (strOfNums ds))) 0 (fun k => Z ≤ k ∧ k < w7.heap.size) (.slice Ax acc.length cx) acc from Kd.R_move q4 (fun k hk => Below.heap_setCell w7 _ _ k (by have := HZ.out.z5; show k ≠ b5; omega)))
      have hen := end_any g A1 c1 bs p3 (f3 : Int) _ HR8.out
      clear q1 q2 q3 q4 hr2 hm7 hR7 HI
      have HZ7 := Lib.hid (show (w7.setCell ⟨b5, 2, none⟩ (.string (strOfNums ds))).heap.size = w7.heap.size by simp)
      go_wp2_with fail
      generalize w7.setCell ⟨b5, 2, none⟩ (.string (strOfNums ds)) = w8 at *
      generalize w7.heap.size = z7 at *
      refine hen.mono ?_
      rintro e w9 ⟨rfl, hm9, hR9⟩
      clear hen hcv y2 g2
      have HM9 := Lib.hid (show Mod [] w w9 from HM8.out.trans (T := [g]) hm9 (fun t ht => .inr (by rw [List.mem_singleton.1 ht]; exact Nat.le_of_lt HZ.out.wg)))
      have HK29 := Lib.hid (hm9.blk HK28.out (by simp; exact Nat.ne_of_lt HZ.out.wg))
      have HK59 := Lib.hid (hm9.blk HK58.out (by simp; exact HZ.out.n5))
      have HC9 := Lib.hid (show Kd.R k54 54 w9 0 (fun k => Z ≤ k ∧ k < z7) (.slice Ax acc.length cx) acc from Kd.R_step HC8.out (fun k hk hl => hm9.block k hl (by simp; have := HZ.out.zg; omega)))
      clear hm9 HM8 HK28 HK58 HR8 HC8
      obtain ⟨fe, hfe⟩ : ∃ fe : Nat, rend bs p3 (f3 : Int) = (fe : Int) := rend_nat bs p3 f3
      have HFE := Lib.hid hfe
      rw [hfe] at hR9 ⊢
      have HR9 := Lib.hid hR9
      clear hfe hR9
      by_cases h0 : fe = 0
      case neg =>
        have n0 : ((fe : Int) == 0) = false := by simp [h0]
        have n0' : (fe == 0) = false := by simp [h0]
        have HF := Lib.hid h0
        clear h0
        have HRES : Hid (rdec bs = noDec (rfault fe)) := Lib.hid (by rw [HRD.out, HPS.out]; unfold decEnd; dsimp only; rw [HRS.out]; dsimp only; rw [HFE.out, if_neg (by simp), if_pos (by simpa using HF.out), Int.toNat_natCast])
        have hof := ofault_any g A1 c1 bs p3 fe w9 HR9.out
        have y0 := (blk_cell HK29.out 0).trans rfl
        have y1 := (blk_cell HK29.out 1).trans rfl
        have y2 := (blk_cell HK29.out 2).trans rfl
        have g0 := blk_frozen HK29.out 0
        have g1 := blk_frozen HK29.out 1
        have g2 := blk_frozen HK29.out 2
        go_wp2_with fail
        refine hof.mono ?_
        rintro e wz ⟨rfl, rfl⟩
        clear hof
        go_wp2
        refine bodyPost_ret (results_rowtmp rfl _ _ w.heap.size 32 #[.int .i64 0, .slice none 0 0, .string ⟨#[]⟩] (0, 0) _ rfl (blk_put (blk_put (blk_put HK29.out 0 (.int .i64 0) rfl) 1 (.slice none 0 0) rfl) 2 (.string ⟨#[]⟩) rfl) Try.underlying32 rfl (by kernel_rfl)) rfl ?_
        rw [HRES.out]
        exact ⟨none, 0, rfl, Nat.le_refl _, Kd.C_nil _ _, dec_none HM9.out (Nat.le_refl _) (.int .i64 0)⟩
      subst h0
      have hmy := may_any K Ax cx acc (strOfNums ds) w9 (Kd.R_reads' HC9.out).2.2 (Kd.R_reads' HC9.out).2.1 (by have := HAL.out; omega) (by rw [strOfNums_size]; omega)
      have z0 := (blk_cell HK59.out 0).trans rfl
      have z1 := (blk_cell HK59.out 1).trans rfl
      have z2 := (blk_cell HK59.out 2).trans rfl
      obtain ⟨str, hst⟩ : ∃ q, strOfNums ds = q := ⟨_, rfl⟩
      have HST := Lib.hid hst
      rw [hst] at hmy z2 HK59
      clear hst
      cases hmb : mayR K acc str
      · rw [hmb] at hmy
        have HMB := Lib.hid hmb
        clear hmb
        go_wp2_with fail
        refine hmy.mono ?_
        rintro e w10 ⟨rfl, hm10⟩
        clear hmy z0 z1 z2
        have HM10 := Lib.hid (HM9.out.trans0 hm10)
        have HK210 := Lib.hid (hm10.blk HK29.out (by simp))
        have HR10 := Lib.hid (HR9.out.mod hm10 (by simp) (by simp))
        clear hm10
        have HRES : Hid (rdec bs = noDec (rfault 0)) := Lib.hid (by rw [HRD.out, HPS.out]; unfold decEnd; dsimp only; rw [HRS.out]; dsimp only; rw [HFE.out, if_neg (by simp), if_neg (by simp), HST.out, if_pos HMB.out]; rfl)
        have hof := ofault_any g A1 c1 bs p3 0 w10 HR10.out
        have y0 := (blk_cell HK210.out 0).trans rfl
        have y1 := (blk_cell HK210.out 1).trans rfl
        have y2 := (blk_cell HK210.out 2).trans rfl
        have g0 := blk_frozen HK210.out 0
        have g1 := blk_frozen HK210.out 1
        have g2 := blk_frozen HK210.out 2
        go_wp2_with fail
        refine hof.mono ?_
        rintro e wz ⟨rfl, rfl⟩
        clear hof
        go_wp2
        refine bodyPost_ret (results_rowtmp rfl _ _ w.heap.size 32 #[.int .i64 0, .slice none 0 0, .string ⟨#[]⟩] (0, 0) _ rfl (blk_put (blk_put (blk_put HK210.out 0 (.int .i64 0) rfl) 1 (.slice none 0 0) rfl) 2 (.string ⟨#[]⟩) rfl) Try.underlying32 rfl (by kernel_rfl)) rfl ?_
        rw [HRES.out]
        exact ⟨none, 0, rfl, Nat.le_refl _, Kd.C_nil _ _, dec_none HM10.out (Nat.le_refl _) (.int .i64 0)⟩
      · rw [hmb] at hmy
        have HMB := Lib.hid hmb
        clear hmb
        have HRES : Hid (rdec bs = ⟨K, acc, str, 0⟩) := Lib.hid (by rw [HRD.out, HPS.out]; unfold decEnd; dsimp only; rw [HRS.out]; dsimp only; rw [HFE.out, if_neg (by simp), if_neg (by simp), HST.out, if_neg (by rw [HMB.out]; simp)])
        go_wp2_with fail
        refine hmy.mono ?_
        rintro e w10 ⟨rfl, hm10⟩
        clear hmy z0 z1 z2
        have HM10 := Lib.hid (HM9.out.trans0 hm10)
        have HK210 := Lib.hid (hm10.blk HK29.out (by simp))
        have HK510 := Lib.hid (hm10.blk HK59.out (by simp))
        have HC10 := Lib.hid (Kd.R_below HC9.out hm10.below0)
        clear hm10
        have z0 := (blk_cell HK510.out 0).trans rfl
        have z1 := (blk_cell HK510.out 1).trans rfl
        have z2 := (blk_cell HK510.out 2).trans rfl
        have y0 := (blk_cell HK210.out 0).trans rfl
        have y1 := (blk_cell HK210.out 1).trans rfl
        have y2 := (blk_cell HK210.out 2).trans rfl
        have g0 := blk_frozen HK210.out 0
        have g1 := blk_frozen HK210.out 1
        have g2 := blk_frozen HK210.out 2
        go_wp2
        refine bodyPost_ret (results_rowtmp rfl _ _ w.heap.size 32 #[.int .i64 K, .slice Ax acc.length cx, .string str] (0, 0) _ rfl (blk_put (blk_put (blk_put HK210.out 0 (.int .i64 K) rfl) 1 (.slice Ax acc.length cx) rfl) 2 (.string str) rfl) Try.underlying32 rfl (by kernel_rfl)) rfl ?_
        rw [HRES.out]
        have hfin : Kd.R k54 54 (((w10.setCell ⟨w.heap.size, 0, none⟩ (.int .i64 K)).setCell ⟨w.heap.size, 1, none⟩ (.slice Ax acc.length cx)).setCell ⟨w.heap.size, 2, none⟩ (.string str)) 0 (fun k => Z ≤ k ∧ k < z7) (.slice Ax acc.length cx) acc :=
          Kd.R_move HC10.out (fun k hk => by
            have hne : k ≠ w.heap.size := by have := HZ.out.zw; omega
            rw [Below.heap_setCell _ _ _ k hne, Below.heap_setCell _ _ _ k hne, Below.heap_setCell _ _ _ k hne])
        exact ⟨Ax, cx, rfl, (Kd.R_reads' hfin).2.1, (Kd.R_reads' hfin).2.2, ((HM10.out.setCell (.inr (Nat.le_refl _)) _).setCell (.inr (Nat.le_refl _)) _).setCell (.inr (Nat.le_refl _)) _⟩
end Go.Proofs.Ytopfaafgfgjfaaa
