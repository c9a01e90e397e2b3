/- A sector full of a byte; a disk by itself behind each call; the chapter's example. -/
import Derived.Test.YtcohfbmfmlmblaaDkFail
import Derived.Test.YtcohfbmfmlmblaaPDiskPlaysx1
set_option linter.unusedVariables false
set_option linter.unusedSimpArgs false
namespace Go.Proofs.Ytcohfbmfmlmblaa
open Go.RowKit Go.Proofs.YtcohfbmfmlmblaaW.PrintWords Go.Proofs.Ytcohfbmfmlmblaa.PDiskPlays Go.Proofs.YtcohfbmfmlmblaaW.PrintMore
/-- How long a sector is written. -/
def opLen (long : Int) : Nat := if long = 0 then 128 else if long < 0 then 0 else if 300 < long then 300 else long.toNat
def FIL (long fill : Int) : ByteArray := strOfNums (List.replicate (opLen long) fill)
theorem opLen_le (long : Int) : opLen long ≤ 300 := by unfold opLen; split <;> (try split) <;> (try split) <;> omega
theorem FIL_size (long fill : Int) : (FIL long fill).size = opLen long := by unfold FIL; rw [str_size, List.length_replicate]
theorem filled_l0 (n : Nat) (hn : n ≤ 300) (x0 x1 x2 x3 x4 b : Int) (x6 : List Bool) : ∀ (d j : Nat), j + d = n → ∀ k, d < k → hibernaclelaw04_filled.l0 k (n : Int) (List.replicate j b ++ List.replicate d 0) (j : Int) x0 x1 x2 x3 x4 b x6 = some (strOfNums (List.replicate n b)) := by
  intro d
  induction d with
  | zero =>
    intro j hj k hk
    obtain ⟨k, rfl⟩ : ∃ m, k = m + 1 := ⟨k - 1, by omega⟩
    rw [hibernaclelaw04_filled.l0, if_neg (by omega)]
    obtain rfl : j = n := by omega
    simp
  | succ d ih =>
    intro j hj k hk
    obtain ⟨k, rfl⟩ : ∃ m, k = m + 1 := ⟨k - 1, by omega⟩
    have hw : wrap64 ((j : Int) + 1) = ((j + 1 : Nat) : Int) := by
      have := IntWalk.i64_in ((j : Int) + 1) (by omega)
      rw [IntKind.wrap_i64] at this
      unfold wrap64; omega
    rw [hibernaclelaw04_filled.l0, if_pos (by omega), if_pos (by omega), if_pos (by simp; omega), hw]
    have hs : (List.replicate j b ++ List.replicate (d + 1) 0).set (j : Int).toNat b = List.replicate (j + 1) b ++ List.replicate d 0 := by
      rw [Int.toNat_natCast, List.set_append_right _ _ (by simp), List.length_replicate, Nat.sub_self, List.replicate_succ, List.set_cons_zero, List.replicate_succ', List.append_assoc]
      rfl
    rw [hs]
    exact ih (j + 1) (by omega) k (by omega)
theorem filled_f (x0 x1 x2 x3 long fill : Int) (ks : List Bool) : hibernaclelaw04_filled.f 400 x0 x1 x2 x3 long fill ks = some (FIL long fill) := by
  have key : ∀ n : Nat, n ≤ 300 → hibernaclelaw04_filled.j0 400 (n : Int) x0 x1 x2 x3 long fill ks = some (strOfNums (List.replicate n fill)) := fun n hn => by
    rw [hibernaclelaw04_filled.j0, if_pos (by omega), if_pos (by omega)]
    have := filled_l0 n hn x0 x1 x2 x3 long fill ks n 0 (by omega) 399 (by omega)
    simpa using this
  have hle := opLen_le long
  unfold hibernaclelaw04_filled.f FIL
  rw [← key (opLen long) hle]
  by_cases h : long = 0
  · rw [if_pos h]; unfold opLen; rw [if_pos h]; rfl
  · rw [if_neg h]
    congr 1
    unfold opLen mx mn
    rw [if_neg h]
    split <;> split <;> (try split) <;> (try split) <;> omega
theorem filled_any (x0 x1 x2 x3 long fill : Int) (A : Option Addr) (c : Nat) (ks : List Bool) (w : World) (hr : Kd.C Kd.bool w A ks.length ks) (hc : ks.length ≤ c) :
    Calls Try.prog 15 #[.agg #[.int .i64 x0, .int .i64 x1, .int .i64 x2, .int .i64 x3, .int .i64 long, .int .u8 fill, .slice A ks.length c]] w fun e w' => e = .returned (.string (FIL long fill)) ∧ Mod [] w w' := by
  refine (hibernaclelaw04_filled.calls 400 x0 x1 x2 x3 long fill A c ks (FIL long fill) w hr hc (filled_f x0 x1 x2 x3 long fill ks)).mono ?_
  rintro e w1 ⟨rfl, hb⟩
  exact ⟨rfl, Mod.of_below hb⟩
theorem filled_lit (fill : Int) (w : World) :
    Calls Try.prog 15 #[.agg #[.int .i64 0, .int .i64 0, .int .i64 0, .int .i64 0, .int .i64 0, .int .u8 fill, .slice none 0 0]] w fun e w' => e = .returned (.string (FIL 0 fill)) ∧ Mod [] w w' :=
  filled_any 0 0 0 0 0 fill none 0 [] w (Kd.C_nil _ _) (Nat.le_refl _)
/-- A disk that the call has made: behind w. -/
def St (w w1 : World) (g : Nat) (D : DK) : Prop := ∃ fp, Mod [] w w1 ∧ (∀ k, fp k → w.heap.size ≤ k) ∧ Dsk w1 fp g D
theorem Mod.fr {F : Nat → Prop} {a b c : World} (h : Mod [] a b) (k : Fr F b c) (hF : ∀ k, F k → a.heap.size ≤ k) : Mod [] a c :=
  ⟨k.os.trans h.os, k.tape.trans h.tape, k.output.trans h.output, Nat.le_trans h.size k.size, fun i hi hs =>
    (k.block i (Nat.lt_of_lt_of_le hi h.size) (fun hf => by have := hF i hf; omega)).trans (h.block i hi hs)⟩
theorem St.mod {w w1 w2 : World} {g : Nat} {D : DK} (h : St w w1 g D) (hm : Mod [] w1 w2) : St w w2 g D := by
  obtain ⟨fp, h1, h2, h3⟩ := h
  exact ⟨fp, h1.trans0 hm, h2, h3.mod hm⟩
theorem St.post {w w1 w2 : World} {g : Nat} {D' : DK} {fp : Nat → Prop} (h1 : Mod [] w w1) (h2 : ∀ k, fp k → w.heap.size ≤ k) (hp : DskPost w1 fp g D' w2) : St w w2 g D' :=
  ⟨grow fp w1 w2, h1.fr hp.1 h2, fun k hk => grow_ge h2 h1.size hk, hp.2⟩
theorem St.same {w w1 w2 : World} {g : Nat} {D' : DK} {fp : Nat → Prop} (h1 : Mod [] w w1) (h2 : ∀ k, fp k → w.heap.size ≤ k) (hf : Fr fp w1 w2) (hD : Dsk w2 fp g D') : St w w2 g D' := ⟨fp, h1.fr hf h2, h2, hD⟩
theorem st_new (n : Nat) (w : World) (h0 : 1 ≤ n) (h1 : n ≤ 2048) : Calls Try.prog 18 #[.int .i64 (n : Int)] w fun e w' => ∃ g, e = .returned (.tuple #[.pointer (some ⟨g, 0, none⟩), .int .i64 0]) ∧ St w w' g (newD n) := by
  refine (new_any n w h0 h1).mono ?_
  rintro e w1 ⟨g, fp, rfl, hm, hf, hD⟩
  exact ⟨g, rfl, fp, hm, hf, hD⟩
/-- The bounds under which a disk's calls go. -/
structure Bnd (D : DK) : Prop where
  fz : D.fuse ≤ 9223372036854775807
  dn : 0 ≤ D.done ∧ D.done ≤ 1000000
  rl : D.row.length ≤ 1000
  ats : ∀ x ∈ D.row, 0 ≤ x.f0 ∧ x.f0 < D.l.length
theorem st_write {w w1 : World} {g : Nat} {D : DK} (h : St w w1 g D) (hb : Bnd D) (i : Int) (s : ByteArray) (hs : s.size ≤ 1000000) :
    Calls Try.prog 14 #[.pointer (some ⟨g, 0, none⟩), .int .i64 i, .string s] w1 fun e w' => e = .returned (.int .i64 (writeE D i s)) ∧ St w w' g (writeD D i s) := by
  obtain ⟨fp, h1, h2, h3⟩ := h
  refine (write_any w1 fp g D i s h3 hb.fz hb.dn hb.rl hs).mono ?_
  rintro e w2 ⟨rfl, hp⟩
  exact ⟨rfl, St.post h1 h2 hp⟩
theorem st_bar {w w1 : World} {g : Nat} {D : DK} (h : St w w1 g D) (hb : Bnd D) :
    Calls Try.prog 12 #[.pointer (some ⟨g, 0, none⟩)] w1 fun e w' => e = .returned (.int .i64 (barE D)) ∧ St w w' g (barD D) := by
  obtain ⟨fp, h1, h2, h3⟩ := h
  refine (bar_any w1 fp g D h3 hb.fz hb.dn hb.rl hb.ats).mono ?_
  rintro e w2 ⟨rfl, hp⟩
  exact ⟨rfl, St.post h1 h2 hp⟩
theorem st_start {w w1 : World} {g : Nat} {D : DK} (h : St w w1 g D) : Calls Try.prog 17 #[.pointer (some ⟨g, 0, none⟩)] w1 fun e w' => (∃ v, e = .returned v) ∧ St w w' g (startD D) := by
  obtain ⟨fp, h1, h2, h3⟩ := h
  refine (start_any w1 fp g D h3).mono ?_
  rintro e w2 ⟨hv, hf, _, hD⟩
  exact ⟨hv, St.same h1 h2 hf hD⟩
theorem st_fuse {w w1 : World} {g : Nat} {D : DK} (h : St w w1 g D) (n : Int) : Calls Try.prog 19 #[.pointer (some ⟨g, 0, none⟩), .int .i64 n] w1 fun e w' => (∃ v, e = .returned v) ∧ St w w' g (fuseD D n) := by
  obtain ⟨fp, h1, h2, h3⟩ := h
  refine (fuse_any w1 fp g D n h3).mono ?_
  rintro e w2 ⟨hv, hf, _, hD⟩
  exact ⟨hv, St.same h1 h2 hf hD⟩
theorem st_read {w w1 : World} {g : Nat} {D : DK} (h : St w w1 g D) (hl : D.row.length ≤ 1000) (i : Int) : Calls Try.prog 11 #[.pointer (some ⟨g, 0, none⟩), .int .i64 i] w1 fun e w' => e = .returned (.tuple #[.string (readS D i), .int .i64 (canE D i)]) ∧ St w w' g D := by
  have h0 := h
  obtain ⟨fp, h1, h2, h3⟩ := h
  refine (read_any w1 fp g D i h3 hl).mono ?_
  rintro e w2 ⟨rfl, hm⟩
  exact ⟨rfl, h0.mod hm⟩
theorem st_done {w w1 : World} {g : Nat} {D : DK} (h : St w w1 g D) : Calls Try.prog 20 #[.pointer (some ⟨g, 0, none⟩)] w1 fun e w' => e = .returned (.int .i64 D.done) ∧ w1 = w' := by
  obtain ⟨fp, h1, h2, h3⟩ := h
  exact done_any w1 fp g D h3
theorem st_down {w w1 : World} {g : Nat} {D : DK} (h : St w w1 g D) : Calls Try.prog 13 #[.pointer (some ⟨g, 0, none⟩)] w1 fun e w' => e = .returned (.bool D.down) ∧ w1 = w' := by
  obtain ⟨fp, h1, h2, h3⟩ := h
  exact down_any w1 fp g D h3
theorem st_fail {w w1 : World} {g : Nat} {D : DK} (h : St w w1 g D) (hb : Bnd D) (hlp : 0 < D.l.length) (hs : ∀ x ∈ D.row, x.f1.size = 128) (hsl : ∀ s ∈ D.l, s.size = 128) (KA : Option Addr) (kc : Nat) (keep : List Bool) (torn a : Int)
    (hkeep : ∀ fp, Dsk w1 fp g D → (∀ k, fp k → w.heap.size ≤ k) → ∀ w', Fr fp w1 w' → Kd.C Kd.bool w' KA keep.length keep) :
    Calls Try.prog 16 #[.pointer (some ⟨g, 0, none⟩), .slice KA keep.length kc, .int .i64 torn, .int .i64 a] w1 fun e w' => (∃ v, e = .returned v) ∧ St w w' g (failD D keep torn a) := by
  obtain ⟨fp, h1, h2, h3⟩ := h
  refine (fail_any w1 fp g D KA kc keep torn a h3 hb.rl hlp hb.ats hs hsl (hkeep fp h3 h2)).mono ?_
  rintro e w2 ⟨hv, hp⟩
  exact ⟨hv, St.post h1 h2 hp⟩
def LD1 : DK := writeD (newD 1) 0 (FIL 0 7)
def LD2 : DK := failD LD1 [true] 0 1
def LD3 : DK := startD LD2
theorem bnd_new (n : Nat) : Bnd (newD n) := ⟨by simp [newD], by simp [newD], by simp [newD], by simp [newD]⟩
theorem newD_1 : newD 1 = ⟨[ZERO], [], -1, false, 0⟩ := rfl
theorem LD1_eq : LD1 = ⟨[ZERO], [⟨0, FIL 0 7⟩], -1, false, 1⟩ := by
  have c0 : canE ⟨[ZERO], [], -1, false, 0⟩ 0 = 0 := rfl
  have b0 : burnE ⟨[ZERO], [], -1, false, 0⟩ = 0 := rfl
  unfold LD1 writeD
  rw [newD_1, if_pos c0, if_pos (by rw [FIL_size]; rfl), if_pos b0]
  rfl
theorem zero_size : ZERO.size = 128 := by unfold ZERO; rw [str_size]; rfl
theorem LD2_eq : LD2 = ⟨[tear 1 (FIL 0 7) ZERO], [], -1, true, 1⟩ := by
  unfold LD2 failD
  rw [LD1_eq]
  rfl
theorem LD3_eq : LD3 = ⟨[tear 1 (FIL 0 7) ZERO], [], -1, false, 1⟩ := by unfold LD3; rw [LD2_eq]; rfl
theorem LD3_read : readS LD3 0 = tear 1 (FIL 0 7) ZERO := by rw [LD3_eq]; rfl
theorem fil_size128 (b : Int) : (FIL 0 b).size = 128 := by rw [FIL_size]; rfl
set_option maxRecDepth 100000 in
theorem tear_bytes : ∃ h0 : 0 < (tear 1 (FIL 0 7) ZERO).size, ∃ h1 : 1 < (tear 1 (FIL 0 7) ZERO).size, (((tear 1 (FIL 0 7) ZERO)[0]'h0).toNat : Int) = 7 ∧ (((tear 1 (FIL 0 7) ZERO)[1]'h1).toNat : Int) = 0 := by
  have hs := tear_size (fil_size128 7) zero_size (by omega : 1 ≤ 128)
  refine ⟨by omega, by omega, ?_, ?_⟩
  · kernel_rfl
  · kernel_rfl
theorem one_bool {w : World} {b : Nat} {x : Bool} (h : w.heap[b]? = some (.cells #[.bool x] 4 (0, 0))) : Kd.C Kd.bool w (some ⟨b, 0, none⟩) [x].length [x] :=
  ⟨rfl, by simp, fun _ => ⟨_, rfl, fun j p hj => by
    cases j with
    | zero =>
      have hp : p = x := by simpa using hj.symm
      subst hp
      refine ⟨[.bool p], rfl, rfl, fun i u hu => ?_⟩
      cases i with
      | zero =>
        have hu' : u = .bool p := by simpa using hu.symm
        subst hu'
        exact (blk_cell h 0).trans rfl
      | succ i => simp at hu
    | succ j => simp at hj⟩⟩
set_option maxRecDepth 100000 in
set_option maxHeartbeats 1000000 in
theorem lives_any (w : World) : Calls Try.prog 9 #[] w fun e w' => e = .returned (.bool true) ∧ Mod [] w w' := by
  have hN := st_new 1 w (by omega) (by omega)
  have hts := Lib.hid (tear_size (fil_size128 7) zero_size (by omega : 1 ≤ 128))
  obtain ⟨k0, k1, t0, t1⟩ := tear_bytes
  have e0 : canE LD3 0 = 0 := by rw [LD3_eq]; rfl
  have eW : writeE (newD 1) 0 (FIL 0 7) = 0 := by rw [newD_1, writeE, if_pos (show canE ⟨[ZERO], [], -1, false, 0⟩ 0 = 0 from rfl), if_pos (fil_size128 7)]; rfl
  have hb1 : Bnd LD1 := by rw [LD1_eq]; exact ⟨by simp, by simp, by simp, by simp⟩
  go_enter Try.func9, Try.ntmps9
  go_wp2_with fail
  refine hN.mono ?_
  rintro e w1 ⟨g, rfl, h1⟩
  clear hN
  go_wp2_with fail
  refine (filled_lit 7 w1).mono ?_
  rintro e w2 ⟨rfl, hm2⟩
  have h2 := h1.mod hm2
  go_wp2_with fail
  refine (st_write h2 (bnd_new 1) 0 (FIL 0 7) (by rw [fil_size128]; omega)).mono ?_
  rintro e w3 ⟨rfl, h3⟩
  rw [eW]
  have h3' : St w w3 g LD1 := h3
  clear h1 hm2 h2 h3
  obtain ⟨fp, a1, a2, a3⟩ := h3'
  have hbx := blk_new w3 (.cells #[.bool true] 4)
  have hma := (Mod.refl [] w3).alloc (.cells #[.bool true] 4)
  have hlt := a3.lt
  have hFA := fail_any (w3.alloc (.cells #[.bool true] 4)) fp g LD1 (some ⟨w3.heap.size, 0, none⟩) 1 [true] 0 1 (a3.mod hma) hb1.rl (by rw [LD1_eq]; simp) hb1.ats
    (by rw [LD1_eq]; intro x hx; rw [List.mem_singleton.1 hx]; exact fil_size128 7) (by rw [LD1_eq]; intro x hx; rw [List.mem_singleton.1 hx]; exact zero_size)
    (fun w' hF => one_bool (hF.blk hbx (fun h => Nat.lt_irrefl _ (hlt _ h))))
  have HMA := Lib.hid (a1.trans0 hma)
  clear a3 hbx hma a1
  go_upto_region 4 with fail
  go_wp2_with fail
  refine hFA.mono ?_
  rintro e w5 ⟨⟨v5, rfl⟩, hp5⟩
  have h5 : St w w5 g LD2 := St.post HMA.out a2 hp5
  clear hFA hp5 a2 hlt
  go_wp2_with fail
  refine (st_start h5).mono ?_
  rintro e w6 ⟨⟨v6, rfl⟩, h6⟩
  have h6' : St w w6 g LD3 := h6
  go_wp2_with fail
  refine (st_read h6' (by rw [LD3_eq]; simp) 0).mono ?_
  rintro e w7 ⟨rfl, h7⟩
  rw [e0, LD3_read]
  have H7 := Lib.hid h7
  clear h5 h6 h6' h7
  have hss := hts.out
  generalize tear 1 (FIL 0 7) ZERO = s at *
  have i0 : (0 : Int) < (s.size : Int) := by omega
  have i1 : (1 : Int) < (s.size : Int) := by omega
  have i2 : ((s.size : Int) == 128) = true := by simp [hss]
  have b0 : ((((s[0]'k0).toNat : Nat) : Int) == 7) = true := by simp [t0]
  have b1 : ((((s[1]'k1).toNat : Nat) : Int) == 0) = true := by simp [t1]
  clear t0 t1 hss
  go_wp2
  go_ret
  obtain ⟨fp7, m7, _⟩ := H7.out
  exact ⟨rfl, m7⟩
end Go.Proofs.Ytcohfbmfmlmblaa
