/- What Fail does to a disk. -/
import Derived.Test.YtcohfbmfmlmblaaDkNew
set_option linter.unusedVariables false
set_option linter.unusedSimpArgs false
namespace Go.Proofs.Ytcohfbmfmlmblaa
open Go.RowKit Go.Proofs.YtcohfbmfmlmblaaW.PrintWords Go.Proofs.Ytcohfbmfmlmblaa.PDiskPlays Go.Proofs.YtcohfbmfmlmblaaW.PrintLast
/-- Where a torn write ends. -/
def clampAt (a : Int) : Nat := if a < 0 then 0 else if 128 < a then 128 else a.toNat
def tear (n : Nat) (s old : ByteArray) : ByteArray := s.extract 0 n ++ old.extract n old.size
def failStep (keep : List Bool) (torn : Int) (n : Nat) (l : List ByteArray) (k : Nat) (x : S65) : List ByteArray :=
  if (k : Int) = torn then l.set x.f0.toNat (tear n x.f1 (l.getD x.f0.toNat ⟨#[]⟩)) else if keep.getD k false = true then l.set x.f0.toNat x.f1 else l
def failTo (keep : List Bool) (torn : Int) (n : Nat) (l : List ByteArray) (row : List S65) : Nat → List ByteArray
  | 0 => l
  | k + 1 => failStep keep torn n (failTo keep torn n l row k) k (rd_T65 row (k : Int))
def failD (D : DK) (keep : List Bool) (torn a : Int) : DK := { D with l := failTo keep torn (clampAt a) D.l D.row D.row.length, row := [], fuse := -1, down := true }
theorem failStep_len (keep : List Bool) (torn : Int) (n : Nat) (l : List ByteArray) (k : Nat) (x : S65) : (failStep keep torn n l k x).length = l.length := by
  unfold failStep; split
  · rw [List.length_set]
  · split
    · rw [List.length_set]
    · rfl
theorem failTo_len (keep : List Bool) (torn : Int) (n : Nat) (l : List ByteArray) (row : List S65) : ∀ k, (failTo keep torn n l row k).length = l.length
  | 0 => rfl
  | k + 1 => by rw [failTo, failStep_len, failTo_len]
theorem tear_size {n : Nat} {s old : ByteArray} (h1 : s.size = 128) (h2 : old.size = 128) (hn : n ≤ 128) : (tear n s old).size = 128 := by
  unfold tear
  rw [ByteArray.size_append, ByteArray.size_extract, ByteArray.size_extract, h1, h2]
  omega
theorem clampAt_le (a : Int) : clampAt a ≤ 128 := by unfold clampAt; split <;> (try split) <;> omega
theorem set_sizes {l : List ByteArray} (h : ∀ s ∈ l, s.size = 128) (i : Nat) {s : ByteArray} (hs : s.size = 128) : ∀ t ∈ l.set i s, t.size = 128 := fun t ht => by
  rcases List.mem_or_eq_of_mem_set ht with ht | ht
  · exact h t ht
  · rw [ht]; exact hs
theorem getD_size {l : List ByteArray} (h : ∀ s ∈ l, s.size = 128) (i : Nat) (hi : i < l.length) : (l.getD i ⟨#[]⟩).size = 128 := by
  rw [List.getD_eq_getElem?_getD, List.getElem?_eq_getElem hi]
  exact h _ (List.getElem_mem hi)
set_option maxRecDepth 100000 in
set_option maxHeartbeats 2000000 in
theorem fail_any (w : World) (fp : Nat → Prop) (g : Nat) (D : DK) (KA : Option Addr) (kc : Nat) (keep : List Bool) (torn a : Int) (h : Dsk w fp g D) (hl : D.row.length ≤ 1000) (hlp : 0 < D.l.length) (hat : ∀ x ∈ D.row, 0 ≤ x.f0 ∧ x.f0 < D.l.length)
    (hs : ∀ x ∈ D.row, x.f1.size = 128) (hsl : ∀ s ∈ D.l, s.size = 128) (hkeep : ∀ w', Fr fp w w' → Kd.C Kd.bool w' KA keep.length keep) :
    Calls Try.prog 16 #[.pointer (some ⟨g, 0, none⟩), .slice KA keep.length kc, .int .i64 torn, .int .i64 a] w fun e w' => (∃ v, e = .returned v) ∧ DskPost w fp g (failD D keep torn a) w' := by
  unfold failD
  obtain ⟨N, hN⟩ : ∃ N, clampAt a = N := ⟨_, rfl⟩
  have hN128 : N ≤ 128 := by rw [← hN]; exact clampAt_le a
  have hNv : (a < 0 ∧ N = 0) ∨ (¬ a < 0 ∧ 128 < a ∧ N = 128) ∨ (¬ a < 0 ∧ ¬ 128 < a ∧ (N : Int) = a) := by
    rw [← hN]; unfold clampAt
    by_cases c1 : a < 0
    · simp [c1]
    · by_cases c2 : 128 < a
      · simp [c1, c2]
      · rw [if_neg c1, if_neg c2]; omega
  rw [hN]
  clear hN
  obtain ⟨L, R, h1, h2, h3, h4, h5⟩ := h
  obtain ⟨l, row, f, d, n⟩ := D
  dsimp only at *
  obtain ⟨A, cap, rfl, hcap, hrC⟩ := Kd.R_reads h3
  obtain ⟨gl, cl, rfl, _, hgl, cells, hcells⟩ := Kd.R_form h2 hlp
  have c1 := (blk_cell h1 1).trans rfl
  have hgg : g ≠ gl := fun e => Kd.R_ne h2 h1 (by decide) (by rw [e]; rfl)
  have hfl : fp gl := h2.1 gl rfl
  have hgl2 : some gl ≠ (Value.slice A row.length cap).ownBlock := Kd.R_ne h3 hcells (by decide)
  have HO := Lib.hid (show Outs w w fp g gl cl l (.slice A row.length cap) row #[.slice (some ⟨gl, 0, none⟩) l.length cl, .slice A row.length cap, .int .i64 f, .bool d, .int .i64 n] from ⟨Fr.refl _ _, h1, h2, h3⟩)
  have HSL := Lib.hid hsl
  clear h1 h2 h3 hrC hcells hsl
  go_enter Try.func16, Try.ntmps16
  go_upto_region 1 with fail
  go_cut [3] (fun t wx => t = .int .i64 (N : Int) ∧ wx = w)
  case first =>
    rcases hNv with ⟨q1, rfl⟩ | ⟨q1, q2, rfl⟩ | ⟨q1, q2, q3⟩
    · have m1 : min a 128 = a := by omega
      have m2 : a ≤ 128 := by omega
      have m3 : ¬ 0 ≤ a := by omega
      go_wp2
      go_meet
      exact ⟨rfl, rfl⟩
    · have m2 : ¬ a ≤ 128 := by omega
      go_wp2
      go_meet
      exact ⟨rfl, rfl⟩
    · have m2 : a ≤ 128 := by omega
      have Q3 := Lib.hid q3
      by_cases a0 : a = 0
      · subst a0
        have N0 : N = 0 := by omega
        subst N0
        clear q3 q1 q2 Q3 m2
        go_wp2
        go_meet
        exact ⟨rfl, rfl⟩
      · have m3 : ¬ a ≤ 0 := by omega
        clear q3 q1 q2
        go_wp2
        go_meet
        exact ⟨by rw [Q3.out], rfl⟩
  case rest =>
    obtain ⟨rfl, rfl⟩ := hcut
    clear hNv
    go_wp2_with fail
    go_loopw [20] (fun iv wr => ∃ k : Nat, iv = .int .i64 (k : Int) ∧ k ≤ row.length ∧ Outs wc wr fp g gl cl (failTo keep torn N l row k) (.slice A row.length cap) row #[.slice (some ⟨gl, 0, none⟩) l.length cl, .slice A row.length cap, .int .i64 f, .bool d, .int .i64 n] ∧ ∀ s ∈ failTo keep torn N l row k, s.size = 128) (fun iv _ => row.length - (intOf iv).toNat)
    case atStart => exact ⟨0, rfl, Nat.zero_le _, HO.out, HSL.out⟩
    case round =>
      obtain ⟨k, rfl, hk, ho, hszl⟩ := hrel
      by_cases hlt : k < row.length
      · have hlt2 : (k : Int) < (row.length : Int) := by omega
        have hk0 : (0 : Int) ≤ (k : Int) := by omega
        obtain ⟨A', c', hA, _, hrC⟩ := Kd.R_reads ho.hr
        injection hA with hA1 hA2 hA3
        subst hA1
        obtain ⟨ad, rfl, p0, p1⟩ := at_T65 hrC (k : Int) hk0 hlt2
        have hxe := rd65 row k hlt
        rw [Int.toNat_natCast] at p0 p1
        have hxm : rd_T65 row (k : Int) ∈ row := by rw [hxe]; exact List.getElem_mem hlt
        have hx := hat _ hxm
        have hxs := hs _ hxm
        have hst : failTo keep torn N l row (k + 1) = failStep keep torn N (failTo keep torn N l row k) k (rd_T65 row (k : Int)) := rfl
        have hal := failTo_len keep torn N l row k
        generalize rd_T65 row (k : Int) = x at *
        generalize failTo keep torn N l row k = lk at *
        have hoB := ho.box (.cells #[.int .i64 x.f0, .string x.f1] 65)
        have y0 := (blk_cell (blk_new wr (.cells #[.int .i64 x.f0, .string x.f1] 65)) 0).trans rfl
        have y1 := (blk_cell (blk_new wr (.cells #[.int .i64 x.f0, .string x.f1] 65)) 1).trans rfl
        have u0 := (blk_cell hoB.hd 0).trans rfl
        have v1 := (blk_cell ho.hd 1).trans rfl
        obtain ⟨e1, e2⟩ := Kd.R_celln (⟨#[]⟩ : ByteArray) hoB.hl x.f0 hx.1 (by rw [hal]; exact hx.2)
        have hso : (rdOf (⟨#[]⟩ : ByteArray) lk x.f0).size = 128 := getD_size hszl x.f0.toNat (by omega)
        have hfk : Fr fp wc wr := ho.fr.weak (fun q hq => .inl (by rw [hq]; exact hfl))
        clear hA2 hA3 hrC hxm hxe
        by_cases ht : (k : Int) = torn
        · have tb : ((k : Int) == torn) = true := by simp [ht]
          have hsn := Lib.hid (show failTo keep torn N l row (k + 1) = lk.set x.f0.toNat (tear N x.f1 (rdOf (⟨#[]⟩ : ByteArray) lk x.f0)) by rw [hst, failStep, if_pos ht]; rfl)
          generalize hsoe : rdOf (⟨#[]⟩ : ByteArray) lk x.f0 = so at *
          have hts := tear_size hxs hso hN128
          have hoP := Lib.hid ((hoB.put x.f0 (tear N x.f1 so) hgl2 hgg).drew)
          have hszP := Lib.hid (set_sizes hszl x.f0.toNat hts)
          have hsz9 : ¬ 9223372036854775807 < min N x.f1.size + (so.size - N) := by omega
          have hn1 : (N : Int) ≤ (x.f1.size : Int) := by omega
          have hn2 : (N : Int) ≤ (so.size : Int) := by omega
          clear ho hoB hst hsoe hszl ht hxs hso hts
          go_upto_region 7 with fail
          generalize wr.alloc _ = W at *
          generalize wr.heap.size = b at *
          refine start_ (n := 23) (S := fun w' => w'.cell? ⟨g, 0, none⟩ = some (.slice (some ⟨gl, 0, none⟩) l.length cl) ∧ w'.cell? ⟨b, 0, none⟩ = some (.int .i64 x.f0) ∧ w'.cell? ⟨b, 1, none⟩ = some (.string x.f1) ∧ w'.cell? ⟨gl, x.f0.toNat, none⟩ = some (.string so)) (ds := [22]) #[false, false, false, false, false, false, false, false, false, false, false, false, false, false, false, false, false, false, false, false, false, false, false] (by kernel_rfl) rfl rfl ⟨u0, y0, y1, e1⟩ (fun hHeld => ?_)
          refine pure_ (i := 0) (N := some 34) (v := ?_) (a' := ?_) #[true, false, false, false, false, false, false, false, false, false, false, false, false, false, false, false, false, false, false, false, false, false, false] rfl rfl (by kernel_rfl) (fun _ _ _ h => h) (Or.inl ⟨by rfl, ?_⟩) ?_ ?_
          rotate_left
          · intro w'
            go_simp
            with_reducible rfl
          rotate_left
          · simp only [Act.put, List.setIfInBounds_toArray, List.set_cons_zero, List.set_cons_succ, i64_w, i32_w]
            rfl
          refine pure_ (i := 1) (N := some 35) (v := ?_) (a' := ?_) #[true, true, false, false, false, false, false, false, false, false, false, false, false, false, false, false, false, false, false, false, false, false, false] rfl rfl (by kernel_rfl) (fun _ _ _ h => h) (Or.inl ⟨by rfl, ?_⟩) ?_ ?_
          rotate_left
          · intro w'
            go_simp
            with_reducible rfl
          rotate_left
          · simp only [Act.put, List.setIfInBounds_toArray, List.set_cons_zero, List.set_cons_succ, i64_w, i32_w]
            rfl
          refine pure_ (i := 2) (N := some 36) (v := ?_) (a' := ?_) #[true, true, true, false, false, false, false, false, false, false, false, false, false, false, false, false, false, false, false, false, false, false, false] rfl rfl (by kernel_rfl) (fun _ _ _ h => h) (Or.inl ⟨by rfl, ?_⟩) ?_ ?_
          rotate_left
          · intro w'
            go_simp
            with_reducible rfl
          rotate_left
          · simp only [Act.put, List.setIfInBounds_toArray, List.set_cons_zero, List.set_cons_succ, i64_w, i32_w]
            rfl
          refine pure_ (i := 4) (N := some 38) (v := ?_) (a' := ?_) #[true, true, true, false, true, false, false, false, false, false, false, false, false, false, false, false, false, false, false, false, false, false, false] rfl rfl (by kernel_rfl) (fun _ _ _ h => h) (Or.inl ⟨by rfl, ?_⟩) ?_ ?_
          rotate_left
          · intro w'
            go_simp
            with_reducible rfl
          rotate_left
          · simp only [Act.put, List.setIfInBounds_toArray, List.set_cons_zero, List.set_cons_succ, i64_w, i32_w]
            rfl
          refine pure_ (i := 6) (N := some 40) (v := ?_) (a' := ?_) #[true, true, true, false, true, false, true, false, false, false, false, false, false, false, false, false, false, false, false, false, false, false, false] rfl rfl (by kernel_rfl) (fun _ _ _ h => h) (Or.inl ⟨by rfl, ?_⟩) ?_ ?_
          rotate_left
          · intro w'
            go_simp
            with_reducible rfl
          rotate_left
          · simp only [Act.put, List.setIfInBounds_toArray, List.set_cons_zero, List.set_cons_succ, i64_w, i32_w]
            rfl
          refine pure_ (i := 8) (N := some 42) (v := ?_) (a' := ?_) #[true, true, true, false, true, false, true, false, true, false, false, false, false, false, false, false, false, false, false, false, false, false, false] rfl rfl (by kernel_rfl) (fun _ _ _ h => h) (Or.inl ⟨by rfl, ?_⟩) ?_ ?_
          rotate_left
          · intro w'
            go_simp
            with_reducible rfl
          rotate_left
          · simp only [Act.put, List.setIfInBounds_toArray, List.set_cons_zero, List.set_cons_succ, i64_w, i32_w]
            rfl
          refine pure_ (i := 10) (N := some 44) (v := ?_) (a' := ?_) #[true, true, true, false, true, false, true, false, true, false, true, false, false, false, false, false, false, false, false, false, false, false, false] rfl rfl (by kernel_rfl) (fun _ _ _ h => h) (Or.inl ⟨by rfl, ?_⟩) ?_ ?_
          rotate_left
          · intro w'
            go_simp
            with_reducible rfl
          rotate_left
          · simp only [Act.put, List.setIfInBounds_toArray, List.set_cons_zero, List.set_cons_succ, i64_w, i32_w]
            rfl
          refine pure_ (i := 11) (N := some 45) (v := ?_) (a' := ?_) #[true, true, true, false, true, false, true, false, true, false, true, true, false, false, false, false, false, false, false, false, false, false, false] rfl rfl (by kernel_rfl) (fun _ _ _ h => h) (Or.inl ⟨by rfl, ?_⟩) ?_ ?_
          rotate_left
          · intro w'
            go_simp
            with_reducible rfl
          rotate_left
          · simp only [Act.put, List.setIfInBounds_toArray, List.set_cons_zero, List.set_cons_succ, i64_w, i32_w]
            rfl
          refine pure_ (i := 12) (N := some 46) (v := ?_) (a' := ?_) #[true, true, true, false, true, false, true, false, true, false, true, true, true, false, false, false, false, false, false, false, false, false, false] rfl rfl (by kernel_rfl) (fun _ _ _ h => h) (Or.inl ⟨by rfl, ?_⟩) ?_ ?_
          rotate_left
          · intro w'
            go_simp
            with_reducible rfl
          rotate_left
          · simp only [Act.put, List.setIfInBounds_toArray, List.set_cons_zero, List.set_cons_succ, i64_w, i32_w]
            rfl
          refine pure_ (i := 14) (N := some 48) (v := ?_) (a' := ?_) #[true, true, true, false, true, false, true, false, true, false, true, true, true, false, true, false, false, false, false, false, false, false, false] rfl rfl (by kernel_rfl) (fun _ _ _ h => h) (Or.inl ⟨by rfl, ?_⟩) ?_ ?_
          rotate_left
          · intro w'
            go_simp
            with_reducible rfl
          rotate_left
          · simp only [Act.put, List.setIfInBounds_toArray, List.set_cons_zero, List.set_cons_succ, i64_w, i32_w]
            rfl
          refine pure_ (i := 18) (N := some 52) (v := ?_) (a' := ?_) #[true, true, true, false, true, false, true, false, true, false, true, true, true, false, true, false, false, false, true, false, false, false, false] rfl rfl (by kernel_rfl) (fun _ _ _ h => h) (Or.inl ⟨by rfl, ?_⟩) ?_ ?_
          rotate_left
          · intro w'
            go_simp
            with_reducible rfl
          rotate_left
          · simp only [Act.put, List.setIfInBounds_toArray, List.set_cons_zero, List.set_cons_succ, i64_w, i32_w]
            rfl
          refine take_ (i := 3) (N := some 37) (v := ?_) (a' := ?_) #[true, true, true, true, true, false, true, false, true, false, true, true, true, false, true, false, false, false, true, false, false, false, false] rfl rfl (by kernel_rfl) (fun _ _ _ h => h) (Or.inl ⟨by rfl, ?_⟩) hHeld ?_ ?_
          rotate_left
          · rintro w' ⟨s0, s1, s2, s3⟩
            go_simp
            with_reducible rfl
          rotate_left
          · simp only [Act.put, List.setIfInBounds_toArray, List.set_cons_zero, List.set_cons_succ, i64_w, i32_w]
            rfl
          refine take_ (i := 5) (N := some 39) (v := ?_) (a' := ?_) #[true, true, true, true, true, true, true, false, true, false, true, true, true, false, true, false, false, false, true, false, false, false, false] rfl rfl (by kernel_rfl) (fun _ _ _ h => h) (Or.inl ⟨by rfl, ?_⟩) hHeld ?_ ?_
          rotate_left
          · rintro w' ⟨s0, s1, s2, s3⟩
            go_simp
            with_reducible rfl
          rotate_left
          · simp only [Act.put, List.setIfInBounds_toArray, List.set_cons_zero, List.set_cons_succ, i64_w, i32_w]
            rfl
          refine take_ (i := 7) (N := some 41) (v := ?_) (a' := ?_) #[true, true, true, true, true, true, true, true, true, false, true, true, true, false, true, false, false, false, true, false, false, false, false] rfl rfl (by kernel_rfl) (fun _ _ _ h => h) (Or.inl ⟨by rfl, ?_⟩) hHeld ?_ ?_
          rotate_left
          · rintro w' ⟨s0, s1, s2, s3⟩
            go_simp
            with_reducible rfl
          rotate_left
          · simp only [Act.put, List.setIfInBounds_toArray, List.set_cons_zero, List.set_cons_succ, i64_w, i32_w]
            rfl
          refine pure_ (i := 9) (N := some 43) (v := ?_) (a' := ?_) #[true, true, true, true, true, true, true, true, true, true, true, true, true, false, true, false, false, false, true, false, false, false, false] rfl rfl (by kernel_rfl) (fun _ _ _ h => h) (Or.inl ⟨by rfl, ?_⟩) ?_ ?_
          rotate_left
          · intro w'
            go_simp
            with_reducible rfl
          rotate_left
          · simp only [Act.put, List.setIfInBounds_toArray, List.set_cons_zero, List.set_cons_succ, i64_w, i32_w]
            rfl
          refine take_ (i := 13) (N := some 47) (v := ?_) (a' := ?_) #[true, true, true, true, true, true, true, true, true, true, true, true, true, true, true, false, false, false, true, false, false, false, false] rfl rfl (by kernel_rfl) (fun _ _ _ h => h) (Or.inl ⟨by rfl, ?_⟩) hHeld ?_ ?_
          rotate_left
          · rintro w' ⟨s0, s1, s2, s3⟩
            go_simp
            with_reducible rfl
          rotate_left
          · simp only [Act.put, List.setIfInBounds_toArray, List.set_cons_zero, List.set_cons_succ, i64_w, i32_w]
            rfl
          refine take_ (i := 15) (N := some 49) (v := ?_) (a' := ?_) #[true, true, true, true, true, true, true, true, true, true, true, true, true, true, true, true, false, false, true, false, false, false, false] rfl rfl (by kernel_rfl) (fun _ _ _ h => h) (Or.inl ⟨by rfl, ?_⟩) hHeld ?_ ?_
          rotate_left
          · rintro w' ⟨s0, s1, s2, s3⟩
            go_simp
            with_reducible rfl
          rotate_left
          · simp only [Act.put, List.setIfInBounds_toArray, List.set_cons_zero, List.set_cons_succ, i64_w, i32_w]
            rfl
          refine pure_ (i := 16) (N := some 50) (v := ?_) (a' := ?_) #[true, true, true, true, true, true, true, true, true, true, true, true, true, true, true, true, true, false, true, false, false, false, false] rfl rfl (by kernel_rfl) (fun _ _ _ h => h) (Or.inl ⟨by rfl, ?_⟩) ?_ ?_
          rotate_left
          · intro w'
            go_simp
            with_reducible rfl
          rotate_left
          · simp only [Act.put, List.setIfInBounds_toArray, List.set_cons_zero, List.set_cons_succ, i64_w, i32_w]
            rfl
          refine take_ (i := 17) (N := some 51) (v := ?_) (a' := ?_) #[true, true, true, true, true, true, true, true, true, true, true, true, true, true, true, true, true, true, true, false, false, false, false] rfl rfl (by kernel_rfl) (fun _ _ _ h => h) (Or.inl ⟨by rfl, ?_⟩) hHeld ?_ ?_
          rotate_left
          · rintro w' ⟨s0, s1, s2, s3⟩
            go_simp
            with_reducible rfl
          rotate_left
          · simp only [Act.put, List.setIfInBounds_toArray, List.set_cons_zero, List.set_cons_succ, i64_w, i32_w]
            rfl
          refine pure_ (i := 19) (N := some 53) (v := ?_) (a' := ?_) #[true, true, true, true, true, true, true, true, true, true, true, true, true, true, true, true, true, true, true, true, false, false, false] rfl rfl (by kernel_rfl) (fun _ _ _ h => h) (Or.inl ⟨by rfl, ?_⟩) ?_ ?_
          rotate_left
          · intro w'
            go_simp
            with_reducible rfl
          rotate_left
          · simp only [Act.put, List.setIfInBounds_toArray, List.set_cons_zero, List.set_cons_succ, i64_w, i32_w]
            rfl
          refine pure_ (i := 20) (N := some 54) (v := ?_) (a' := ?_) #[true, true, true, true, true, true, true, true, true, true, true, true, true, true, true, true, true, true, true, true, true, false, false] rfl rfl (by kernel_rfl) (fun _ _ _ h => h) (Or.inl ⟨by rfl, ?_⟩) ?_ ?_
          rotate_left
          · intro w'
            go_simp
            with_reducible rfl
          rotate_left
          · simp only [Act.put, List.setIfInBounds_toArray, List.set_cons_zero, List.set_cons_succ, i64_w, i32_w]
            rfl
          refine pure_ (i := 21) (N := some 55) (v := ?_) (a' := ?_) #[true, true, true, true, true, true, true, true, true, true, true, true, true, true, true, true, true, true, true, true, true, true, false] rfl rfl (by kernel_rfl) (fun _ _ _ h => h) (Or.inl ⟨by rfl, ?_⟩) ?_ ?_
          rotate_left
          · intro w'
            go_simp
            with_reducible rfl
          rotate_left
          · simp only [Act.put, List.setIfInBounds_toArray, List.set_cons_zero, List.set_cons_succ, i64_w, i32_w]
            rfl
          refine last_ (i := 22) (N := none) #[true, true, true, true, true, true, true, true, true, true, true, true, true, true, true, true, true, true, true, true, true, true, true] rfl rfl (by kernel_rfl) (by decide) (fun K hK => ?_)
          refine skip_ (w1 := ?_) (by rfl) rfl ?_ ?_
          rotate_left
          · go_simp
            rfl
          refine hK.out _ _ ?_
          clear hK K
          refine done_ (by kernel_rfl) ?_
          clear y0 y1 u0 e1 e2 hHeld hsz9 hn1 hn2
          go_wp2
          go_roundw
          case rel => exact ⟨k + 1, by go_num, by omega, by rw [hsn.out]; exact hoP.out, by rw [hsn.out]; exact hszP.out⟩
          case measure => simp [intOf]; omega
        · have tb : ((k : Int) == torn) = false := by simp [ht]
          have HKC := Lib.hid (hkeep wr hfk)
          by_cases hkp : keep.getD k false = true
          · have hsn := Lib.hid (show failTo keep torn N l row (k + 1) = lk.set x.f0.toNat x.f1 by rw [hst, failStep, if_neg ht, if_pos hkp])
            have hoP := Lib.hid ((hoB.put x.f0 x.f1 hgl2 hgg).drew)
            have hszP := Lib.hid (set_sizes hszl x.f0.toNat hxs)
            have hkl : k < keep.length := by
              rcases Nat.lt_or_ge k keep.length with h | h
              · exact h
              · rw [List.getD_eq_getElem?_getD, List.getElem?_eq_none h] at hkp; cases hkp
            have hkl2 : (k : Int) < (keep.length : Int) := by omega
            obtain ⟨kad, rfl, kq⟩ := Kd.at_bool (Kd.C_below HKC.out (below_alloc (Below.refl _ _) (.cells #[.int .i64 x.f0, .string x.f1] 65))) (k : Int) hk0 hkl2
            rw [Int.toNat_natCast, show rdOf false keep (k : Int) = keep.getD k false from rfl, hkp] at kq
            clear ho hoB hst hszl ht hxs hso hkp
            go_upto_region 9 with fail
            generalize wr.alloc _ = W at *
            generalize wr.heap.size = b at *
            refine start_ (n := 10) (S := fun w' => w'.cell? ⟨g, 0, none⟩ = some (.slice (some ⟨gl, 0, none⟩) l.length cl) ∧ w'.cell? ⟨b, 0, none⟩ = some (.int .i64 x.f0) ∧ w'.cell? ⟨b, 1, none⟩ = some (.string x.f1)) (ds := [9]) #[false, false, false, false, false, false, false, false, false, false] (by kernel_rfl) rfl rfl ⟨u0, y0, y1⟩ (fun hHeld => ?_)
            refine pure_ (i := 0) (N := some 67) (v := ?_) (a' := ?_) #[true, false, false, false, false, false, false, false, false, false] rfl rfl (by kernel_rfl) (fun _ _ _ h => h) (Or.inl ⟨by rfl, ?_⟩) ?_ ?_
            rotate_left
            · intro w'
              go_simp
              with_reducible rfl
            rotate_left
            · simp only [Act.put, List.setIfInBounds_toArray, List.set_cons_zero, List.set_cons_succ, i64_w, i32_w]
              rfl
            refine pure_ (i := 1) (N := some 68) (v := ?_) (a' := ?_) #[true, true, false, false, false, false, false, false, false, false] rfl rfl (by kernel_rfl) (fun _ _ _ h => h) (Or.inl ⟨by rfl, ?_⟩) ?_ ?_
            rotate_left
            · intro w'
              go_simp
              with_reducible rfl
            rotate_left
            · simp only [Act.put, List.setIfInBounds_toArray, List.set_cons_zero, List.set_cons_succ, i64_w, i32_w]
              rfl
            refine pure_ (i := 2) (N := some 69) (v := ?_) (a' := ?_) #[true, true, true, false, false, false, false, false, false, false] rfl rfl (by kernel_rfl) (fun _ _ _ h => h) (Or.inl ⟨by rfl, ?_⟩) ?_ ?_
            rotate_left
            · intro w'
              go_simp
              with_reducible rfl
            rotate_left
            · simp only [Act.put, List.setIfInBounds_toArray, List.set_cons_zero, List.set_cons_succ, i64_w, i32_w]
              rfl
            refine pure_ (i := 4) (N := some 71) (v := ?_) (a' := ?_) #[true, true, true, false, true, false, false, false, false, false] rfl rfl (by kernel_rfl) (fun _ _ _ h => h) (Or.inl ⟨by rfl, ?_⟩) ?_ ?_
            rotate_left
            · intro w'
              go_simp
              with_reducible rfl
            rotate_left
            · simp only [Act.put, List.setIfInBounds_toArray, List.set_cons_zero, List.set_cons_succ, i64_w, i32_w]
              rfl
            refine pure_ (i := 6) (N := some 73) (v := ?_) (a' := ?_) #[true, true, true, false, true, false, true, false, false, false] rfl rfl (by kernel_rfl) (fun _ _ _ h => h) (Or.inl ⟨by rfl, ?_⟩) ?_ ?_
            rotate_left
            · intro w'
              go_simp
              with_reducible rfl
            rotate_left
            · simp only [Act.put, List.setIfInBounds_toArray, List.set_cons_zero, List.set_cons_succ, i64_w, i32_w]
              rfl
            refine take_ (i := 3) (N := some 70) (v := ?_) (a' := ?_) #[true, true, true, true, true, false, true, false, false, false] rfl rfl (by kernel_rfl) (fun _ _ _ h => h) (Or.inl ⟨by rfl, ?_⟩) hHeld ?_ ?_
            rotate_left
            · rintro w' ⟨s0, s1, s2⟩
              go_simp
              with_reducible rfl
            rotate_left
            · simp only [Act.put, List.setIfInBounds_toArray, List.set_cons_zero, List.set_cons_succ, i64_w, i32_w]
              rfl
            refine take_ (i := 5) (N := some 72) (v := ?_) (a' := ?_) #[true, true, true, true, true, true, true, false, false, false] rfl rfl (by kernel_rfl) (fun _ _ _ h => h) (Or.inl ⟨by rfl, ?_⟩) hHeld ?_ ?_
            rotate_left
            · rintro w' ⟨s0, s1, s2⟩
              go_simp
              with_reducible rfl
            rotate_left
            · simp only [Act.put, List.setIfInBounds_toArray, List.set_cons_zero, List.set_cons_succ, i64_w, i32_w]
              rfl
            refine take_ (i := 7) (N := some 74) (v := ?_) (a' := ?_) #[true, true, true, true, true, true, true, true, false, false] rfl rfl (by kernel_rfl) (fun _ _ _ h => h) (Or.inl ⟨by rfl, ?_⟩) hHeld ?_ ?_
            rotate_left
            · rintro w' ⟨s0, s1, s2⟩
              go_simp
              with_reducible rfl
            rotate_left
            · simp only [Act.put, List.setIfInBounds_toArray, List.set_cons_zero, List.set_cons_succ, i64_w, i32_w]
              rfl
            refine pure_ (i := 8) (N := some 75) (v := ?_) (a' := ?_) #[true, true, true, true, true, true, true, true, true, false] rfl rfl (by kernel_rfl) (fun _ _ _ h => h) (Or.inl ⟨by rfl, ?_⟩) ?_ ?_
            rotate_left
            · intro w'
              go_simp
              with_reducible rfl
            rotate_left
            · simp only [Act.put, List.setIfInBounds_toArray, List.set_cons_zero, List.set_cons_succ, i64_w, i32_w]
              rfl
            refine last_ (i := 9) (N := none) #[true, true, true, true, true, true, true, true, true, true] rfl rfl (by kernel_rfl) (by decide) (fun K hK => ?_)
            refine skip_ (w1 := ?_) (by rfl) rfl ?_ ?_
            rotate_left
            · go_simp
              rfl
            refine hK.out _ _ ?_
            clear hK K
            refine done_ (by kernel_rfl) ?_
            generalize (W.setCell ⟨gl, x.f0.toNat, none⟩ (.string x.f1)).drew = W3 at *
            clear y0 y1 u0 e1 e2 hHeld
            go_wp2
            go_roundw
            case rel => exact ⟨k + 1, by go_num, by omega, by rw [hsn.out]; exact hoP.out, by rw [hsn.out]; exact hszP.out⟩
            case measure => simp [intOf]; omega
          · have hsn := Lib.hid (show failTo keep torn N l row (k + 1) = lk by rw [hst, failStep, if_neg ht, if_neg hkp])
            have hoP := Lib.hid hoB
            have hszP := Lib.hid hszl
            have hoP2 := hoP
            clear ho hoB hst hszl ht hxs hso
            by_cases hkl : k < keep.length
            · have hkl2 : (k : Int) < (keep.length : Int) := by omega
              obtain ⟨kad, rfl, kq⟩ := Kd.at_bool (Kd.C_below HKC.out (below_alloc (Below.refl _ _) (.cells #[.int .i64 x.f0, .string x.f1] 65))) (k : Int) hk0 hkl2
              rw [Int.toNat_natCast, show rdOf false keep (k : Int) = keep.getD k false from rfl, show keep.getD k false = false by simpa using hkp] at kq
              clear hkp hkl
              go_upto_region 8 with fail
              generalize wr.alloc _ = W at *
              generalize wr.heap.size = b at *
              go_wp2
              go_roundw
              case rel => exact ⟨k + 1, by go_num, by omega, by rw [hsn.out]; exact hoP.out, by rw [hsn.out]; exact hszP.out⟩
              case measure => simp [intOf]; omega
            · have hkl2 : ¬ (k : Int) < (keep.length : Int) := by omega
              clear hkp hkl
              go_upto_region 8 with fail
              generalize wr.alloc _ = W at *
              generalize wr.heap.size = b at *
              go_wp2
              go_roundw
              case rel => exact ⟨k + 1, by go_num, by omega, by rw [hsn.out]; exact hoP.out, by rw [hsn.out]; exact hszP.out⟩
              case measure => simp [intOf]; omega
      · obtain rfl : k = row.length := by omega
        have d1 := (blk_cell ho.hd 1).trans rfl
        have df1 := blk_frozen ho.hd 1
        have b1 := blk_put ho.hd 1 (.slice none 0 0) rfl
        have d2 := (blk_cell ho.hd 2).trans rfl
        have df2 := blk_frozen ho.hd 2
        have d3 := (blk_cell ho.hd 3).trans rfl
        have df3 := blk_frozen ho.hd 3
        have b2 := blk_put b1 2 (.int .i64 (-1)) rfl
        have b3 := blk_put b2 3 (.bool true) rfl
        have hm := (((Mod.refl [g] wr).setCell (p := ⟨g, 1, none⟩) (by simp) (.slice none 0 0)).setCell (p := ⟨g, 2, none⟩) (by simp) (.int .i64 (-1))).setCell (p := ⟨g, 3, none⟩) (by simp) (.bool true)
        have HOO := Lib.hid ho
        have B3 := Lib.hid b3
        have HFL := Lib.hid (failTo_len keep torn N l row row.length)
        clear ho b1 b2 b3 hszl
        go_wp2
        go_end0
        exact ⟨⟨_, rfl⟩, outs_post (Fr.refl fp wc) rfl HOO.out hfl h4 h5 hm (by rw [HFL.out]; exact B3.out)⟩
end Go.Proofs.Ytcohfbmfmlmblaa
