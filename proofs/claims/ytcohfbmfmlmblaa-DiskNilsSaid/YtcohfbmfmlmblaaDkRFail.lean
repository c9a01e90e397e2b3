/- What the document's Fail gives. -/
import Derived.Test.YtcohfbmfmlmblaaDkRef
set_option linter.unusedVariables false
set_option linter.unusedSimpArgs false
namespace Go.Proofs.Ytcohfbmfmlmblaa
open Go.RowKit Go.Proofs.YtcohfbmfmlmblaaW.PrintWords Go.Proofs.Ytcohfbmfmlmblaa.PDiskPlays Go.Proofs.YtcohfbmfmlmblaaW.PrintLast
theorem with_any (A : Option Addr) (c : Nat) (l : List ByteArray) (i : Int) (s : ByteArray) (w : World) (hr : Kd.C Kd.string w A l.length l) (hc : l.length ≤ c) (h0 : 0 ≤ i) (h1 : i < l.length) (hl : l.length ≤ 1000000) :
    Calls Try.prog 42 #[.slice A l.length c, .int .i64 i, .string s] w fun e w' => ∃ v, e = .returned v ∧ Kd.R Kd.string 9 w' w.heap.size (fun _ => True) v (l.set i.toNat s) ∧ Below w.heap.size w w' :=
  hibernacleref04_with.calls A c l i s (l.set i.toNat s) w hr hc (with_f l i s h0 h1 hl)
/-- The sectors as they stand in the loop of the document's Fail. -/
structure RF (w1 wr : World) (base : Nat) (fq : Nat → Prop) (b4 : Nat) (l : List ByteArray) (R : Value) (f n : Int) (d : Bool) (A : Option Addr) (c : Nat) : Prop where
  md : Mod [] w1 wr
  hd : wr.heap[b4]? = some (.cells #[.slice A l.length c, R, .int .i64 f, .bool d, .int .i64 n] 49 (0, 0))
  hl : Kd.R Kd.string 9 wr base (fun k => fq k ∨ w1.heap.size ≤ k) (.slice A l.length c) l
theorem rf_put {w1 w3 : World} {fq : Nat → Prop} {base B b4 n c3 : Nat} {A3 : Option Addr} {l' : List ByteArray} {cs : Array Value} (hR3 : Kd.R Kd.string 9 w3 B (fun _ => True) (.slice A3 n c3) l') (hB : w1.heap.size ≤ B) (hbase : base ≤ w1.heap.size) (B3 : w3.heap[b4]? = some (.cells cs 49 (0, 0))) (u : Value) :
    Kd.R Kd.string 9 (w3.setCell ⟨b4, 0, none⟩ u) base (fun k => fq k ∨ w1.heap.size ≤ k) (.slice A3 n c3) l' := by
  have h1 := Kd.R_set hR3 B3 (fun q hq => by simp [Kd.string, Kd.scalar] at hq; omega) 0 u
  exact Kd.R_lower (Kd.R_mono (Kd.R_bound h1) (fun k hk => .inr (Nat.le_trans hB hk.2.1))) (Nat.le_trans hbase hB)
set_option maxRecDepth 100000 in
set_option maxHeartbeats 2000000 in
theorem rfail_any (w1 : World) (base : Nat) (fq : Nat → Prop) (L : Value) (l : List ByteArray) (RA : Option Addr) (rc : Nat) (row : List S65) (f n : Int) (d : Bool) (KA : Option Addr) (kc : Nat) (keep : List Bool) (torn a : Int)
    (hL : Kd.R Kd.string 9 w1 base fq L l) (hbase : base ≤ w1.heap.size) (hR : Kd.C k78 w1 RA row.length (rows row)) (hrc : row.length ≤ rc) (hl : row.length ≤ 1000) (hlp : 0 < l.length) (hll : l.length ≤ 1000000) (hat : ∀ x ∈ row, 0 ≤ x.f0 ∧ x.f0 < l.length)
    (hs : ∀ x ∈ row, x.f1.size = 128) (hsl : ∀ s ∈ l, s.size = 128) (hkeep : Kd.C Kd.bool w1 KA keep.length keep) :
    Calls Try.prog 35 #[.agg #[L, .slice RA row.length rc, .int .i64 f, .bool d, .int .i64 n], .slice KA keep.length kc, .int .i64 torn, .int .i64 a] w1 fun e w' =>
      ∃ L', e = .returned (.agg #[L', .slice none 0 0, .int .i64 (-1), .bool true, .int .i64 n]) ∧ Mod [] w1 w' ∧ Kd.R Kd.string 9 w' base (fun k => fq k ∨ w1.heap.size ≤ k) L' (failTo keep torn (clampAt a) l row row.length) := by
  obtain ⟨N, hN⟩ : ∃ N, clampAt a = N := ⟨_, rfl⟩
  have hN128 : N ≤ 128 := by rw [← hN]; exact clampAt_le a
  obtain ⟨a1, ha1⟩ : ∃ a1, (if a < 0 then 0 else a) = a1 := ⟨_, rfl⟩
  have hA1 : (a < 0 ∧ a1 = 0) ∨ (¬ a < 0 ∧ a1 = a) := by rw [← ha1]; split <;> simp_all
  have hA2 : (128 < a1 ∧ N = 128) ∨ (¬ 128 < a1 ∧ a1 = (N : Int)) := by
    rw [← hN]; unfold clampAt
    rcases hA1 with ⟨c1, c2⟩ | ⟨c1, c2⟩
    · rw [if_pos c1, c2]; right; simp
    · rw [if_neg c1, c2]
      by_cases c3 : 128 < a
      · rw [if_pos c3]; exact .inl ⟨c3, rfl⟩
      · rw [if_neg c3]; right; omega
  clear ha1
  rw [hN]
  clear hN
  obtain ⟨LA, lc, rfl⟩ := Kd.R_slice hL
  have bx0 := blk_old (blk_new w1 (.cells #[.slice LA l.length lc, .slice RA row.length rc, .int .i64 f, .bool d, .int .i64 n] 49)) (.cells #[.slice none 0 0, .slice none 0 0, .int .i64 0, .bool false, .int .i64 0] 49)
  have bx8 := blk_new (w1.alloc (.cells #[.slice LA l.length lc, .slice RA row.length rc, .int .i64 f, .bool d, .int .i64 n] 49)) (.cells #[.slice none 0 0, .slice none 0 0, .int .i64 0, .bool false, .int .i64 0] 49)
  have hm0 := ((Mod.refl [] w1).alloc (.cells #[.slice LA l.length lc, .slice RA row.length rc, .int .i64 f, .bool d, .int .i64 n] 49)).alloc (.cells #[.slice none 0 0, .slice none 0 0, .int .i64 0, .bool false, .int .i64 0] 49)
  rw [World.size_alloc] at bx8
  go_enter Try.func35, Try.ntmps35
  go_upto_region 1 with fail
  generalize (w1.alloc _).alloc _ = w2 at *
  obtain ⟨b4, hb4⟩ : ∃ b, w1.heap.size = b := ⟨_, rfl⟩
  rw [hb4] at bx0 bx8 ⊢
  have HB4 := Lib.hid hb4
  have HX0 := Lib.hid bx0
  have HX8 := Lib.hid bx8
  have HM0 := Lib.hid hm0
  have HLL := Lib.hid (Kd.R_below hL hm0.below0)
  clear hb4 bx0 bx8 hm0
  go_upto_if 12 with fail
  go_cut [3] (fun t wx => t = .int .i64 a1 ∧ wx = w2)
  case first =>
    rcases hA1 with ⟨c1, rfl⟩ | ⟨c1, rfl⟩
    · go_wp2
      go_meet
      exact ⟨rfl, rfl⟩
    · go_wp2
      go_meet
      exact ⟨rfl, rfl⟩
  case rest =>
    obtain ⟨rfl, rfl⟩ := hcut
    clear hA1
    go_upto_if 14 with fail
    go_cut [3] (fun t wx => t = .int .i64 (N : Int) ∧ wx = wc)
    case first =>
      rcases hA2 with ⟨c1, rfl⟩ | ⟨c1, rfl⟩
      · go_wp2
        go_meet
        exact ⟨rfl, rfl⟩
      · go_wp2
        go_meet
        exact ⟨rfl, rfl⟩
    case rest =>
      obtain ⟨rfl, rfl⟩ := hcut
      clear hA2
      go_upto_region 5 with fail
      go_wp2_with fail
      go_loopw [9] (fun iv wr => ∃ (k : Nat) (A : Option Addr) (c : Nat), iv = .int .i64 (k : Int) ∧ k ≤ row.length ∧ Mod [] w1 wr ∧ wr.heap[b4]? = some (.cells #[.slice A l.length c, .slice RA row.length rc, .int .i64 f, .bool d, .int .i64 n] 49 (0, 0)) ∧ wr.heap[b4 + 1]? = some (.cells #[.slice none 0 0, .slice none 0 0, .int .i64 0, .bool false, .int .i64 0] 49 (0, 0)) ∧ Kd.R Kd.string 9 wr base (fun k => fq k ∨ w1.heap.size ≤ k) (.slice A l.length c) (failTo keep torn N l row k) ∧ ∀ s ∈ failTo keep torn N l row k, s.size = 128) (fun iv _ => row.length - (intOf iv).toNat)
      case atStart => exact ⟨0, LA, lc, rfl, Nat.zero_le _, HM0.out, HX0.out, HX8.out, Kd.R_mono HLL.out (fun k hk => .inl hk), hsl⟩
      case round =>
        obtain ⟨k, A, c, rfl, hk, hm, hb, hb8, ho, hszl⟩ := hrel
        have v1 := (blk_cell hb 1).trans rfl
        have u0 := (blk_cell hb 0).trans rfl
        have hal := failTo_len keep torn N l row k
        by_cases hlt : k < row.length
        · have hlt2 : (k : Int) < (row.length : Int) := by omega
          have hk0 : (0 : Int) ≤ (k : Int) := by omega
          obtain ⟨ad, hRA, p0, p1⟩ := at_T78 (Kd.C_below hR hm.below0) (k : Int) hk0 hlt2
          subst hRA
          rw [Int.toNat_natCast, rd78 row k hlt, ← rd65 row k hlt] at p0 p1
          have hxm : rd_T65 row (k : Int) ∈ row := by rw [rd65 row k hlt]; exact List.getElem_mem hlt
          have hx := hat _ hxm
          have hxs := hs _ hxm
          dsimp only [toR] at p0 p1
          have hst : failTo keep torn N l row (k + 1) = failStep keep torn N (failTo keep torn N l row k) k (rd_T65 row (k : Int)) := rfl
          generalize rd_T65 row (k : Int) = x at *
          generalize failTo keep torn N l row k = lk at *
          clear hxm
          have hlkp : 0 < lk.length := by omega
          obtain ⟨gk, ck, hA, _⟩ := Kd.R_form ho hlkp
          injection hA with hA1 hA2 hA3
          subst hA1
          subst hA3
          clear hA2
          have hoW := Kd.R_alloc ho (.cells #[.int .i64 x.f0, .string x.f1] 78)
          obtain ⟨e1, e2⟩ := Kd.R_celln (⟨#[]⟩ : ByteArray) hoW x.f0 hx.1 hx.2
          obtain ⟨AC, cC, hAC, hcC, hCC⟩ := Kd.R_reads hoW
          injection hAC with hAC1 hAC2 hAC3
          subst hAC1
          subst hAC3
          have hso : (rdOf (⟨#[]⟩ : ByteArray) lk x.f0).size = 128 := getD_size hszl x.f0.toNat (by omega)
          have y0 := (blk_cell (blk_new wr (.cells #[.int .i64 x.f0, .string x.f1] 78)) 0).trans rfl
          have y1 := (blk_cell (blk_new wr (.cells #[.int .i64 x.f0, .string x.f1] 78)) 1).trans rfl
          have u0 := (blk_cell (blk_old hb (.cells #[.int .i64 x.f0, .string x.f1] 78)) 0).trans rfl
          have HBW := Lib.hid (blk_old hb (.cells #[.int .i64 x.f0, .string x.f1] 78))
          have HB8W := Lib.hid (blk_old hb8 (.cells #[.int .i64 x.f0, .string x.f1] 78))
          have hmW := hm.alloc (.cells #[.int .i64 x.f0, .string x.f1] 78)
          by_cases ht : (k : Int) = torn
          · have tb : ((k : Int) == torn) = true := by simp [ht]
            have hsn := Lib.hid (show failTo keep torn N l row (k + 1) = lk.set x.f0.toNat (tear N x.f1 (rdOf (⟨#[]⟩ : ByteArray) lk x.f0)) by rw [hst, failStep, if_pos ht]; rfl)
            generalize hsoe : rdOf (⟨#[]⟩ : ByteArray) lk x.f0 = so at *
            have hts := tear_size hxs hso hN128
            have hszP := Lib.hid (set_sizes hszl x.f0.toNat hts)
            have hsz9 : ¬ 9223372036854775807 < min N x.f1.size + (so.size - N) := by omega
            have hn1 : (N : Int) ≤ (x.f1.size : Int) := by omega
            have hn2 : (N : Int) ≤ (so.size : Int) := by omega
            have hwith := fun w' (hm' : Mod [] (wr.alloc (.cells #[.int .i64 x.f0, .string x.f1] 78)) w') => with_any _ _ lk x.f0 (tear N x.f1 so) w' (Kd.C_below hCC hm'.below0) hcC hx.1 (by omega) (by omega)
            rw [hal] at hwith
            clear ho hoW hst hsoe hszl ht hxs hso hts hCC hcC hm hb hb8 hAC2 hL
            go_upto_region 10 with fail
            generalize wr.alloc _ = W at *
            generalize wr.heap.size = b at *
            refine start_ (n := 20) (S := fun w' => w'.cell? ⟨b4, 0, none⟩ = some (.slice (some ⟨gk, 0, none⟩) l.length c) ∧ w'.cell? ⟨b, 0, none⟩ = some (.int .i64 x.f0) ∧ w'.cell? ⟨b, 1, none⟩ = some (.string x.f1) ∧ w'.cell? ⟨gk, x.f0.toNat, none⟩ = some (.string so)) (ds := [19]) #[false, false, false, false, false, false, false, false, false, false, false, false, false, false, false, false, false, false, false, false] (by kernel_rfl) rfl rfl ⟨u0, y0, y1, e1⟩ (fun hHeld => ?_)
            refine pure_ (i := 0) (N := some 30) (v := ?_) (a' := ?_) #[true, false, false, false, false, false, false, false, false, false, false, false, false, false, false, false, false, false, false, false] rfl rfl (by kernel_rfl) (fun _ _ _ h => h) (Or.inl ⟨by rfl, ?_⟩) ?_ ?_
            rotate_left
            · intro w'
              go_simp
              with_reducible rfl
            rotate_left
            · simp only [Act.put, List.setIfInBounds_toArray, List.set_cons_zero, List.set_cons_succ, i64_w, i32_w]
              rfl
            refine pure_ (i := 2) (N := some 32) (v := ?_) (a' := ?_) #[true, false, true, false, false, false, false, false, false, false, false, false, false, false, false, false, false, false, false, false] rfl rfl (by kernel_rfl) (fun _ _ _ h => h) (Or.inl ⟨by rfl, ?_⟩) ?_ ?_
            rotate_left
            · intro w'
              go_simp
              with_reducible rfl
            rotate_left
            · simp only [Act.put, List.setIfInBounds_toArray, List.set_cons_zero, List.set_cons_succ, i64_w, i32_w]
              rfl
            refine pure_ (i := 4) (N := some 34) (v := ?_) (a' := ?_) #[true, false, true, false, true, false, false, false, false, false, false, false, false, false, false, false, false, false, false, false] rfl rfl (by kernel_rfl) (fun _ _ _ h => h) (Or.inl ⟨by rfl, ?_⟩) ?_ ?_
            rotate_left
            · intro w'
              go_simp
              with_reducible rfl
            rotate_left
            · simp only [Act.put, List.setIfInBounds_toArray, List.set_cons_zero, List.set_cons_succ, i64_w, i32_w]
              rfl
            refine pure_ (i := 6) (N := some 36) (v := ?_) (a' := ?_) #[true, false, true, false, true, false, true, false, false, false, false, false, false, false, false, false, false, false, false, false] rfl rfl (by kernel_rfl) (fun _ _ _ h => h) (Or.inl ⟨by rfl, ?_⟩) ?_ ?_
            rotate_left
            · intro w'
              go_simp
              with_reducible rfl
            rotate_left
            · simp only [Act.put, List.setIfInBounds_toArray, List.set_cons_zero, List.set_cons_succ, i64_w, i32_w]
              rfl
            refine pure_ (i := 8) (N := some 38) (v := ?_) (a' := ?_) #[true, false, true, false, true, false, true, false, true, false, false, false, false, false, false, false, false, false, false, false] rfl rfl (by kernel_rfl) (fun _ _ _ h => h) (Or.inl ⟨by rfl, ?_⟩) ?_ ?_
            rotate_left
            · intro w'
              go_simp
              with_reducible rfl
            rotate_left
            · simp only [Act.put, List.setIfInBounds_toArray, List.set_cons_zero, List.set_cons_succ, i64_w, i32_w]
              rfl
            refine pure_ (i := 10) (N := some 40) (v := ?_) (a' := ?_) #[true, false, true, false, true, false, true, false, true, false, true, false, false, false, false, false, false, false, false, false] rfl rfl (by kernel_rfl) (fun _ _ _ h => h) (Or.inl ⟨by rfl, ?_⟩) ?_ ?_
            rotate_left
            · intro w'
              go_simp
              with_reducible rfl
            rotate_left
            · simp only [Act.put, List.setIfInBounds_toArray, List.set_cons_zero, List.set_cons_succ, i64_w, i32_w]
              rfl
            refine pure_ (i := 14) (N := some 44) (v := ?_) (a' := ?_) #[true, false, true, false, true, false, true, false, true, false, true, false, false, false, true, false, false, false, false, false] rfl rfl (by kernel_rfl) (fun _ _ _ h => h) (Or.inl ⟨by rfl, ?_⟩) ?_ ?_
            rotate_left
            · intro w'
              go_simp
              with_reducible rfl
            rotate_left
            · simp only [Act.put, List.setIfInBounds_toArray, List.set_cons_zero, List.set_cons_succ, i64_w, i32_w]
              rfl
            refine take_ (i := 1) (N := some 31) (v := ?_) (a' := ?_) #[true, true, true, false, true, false, true, false, true, false, true, false, false, false, true, false, false, false, false, false] rfl rfl (by kernel_rfl) (fun _ _ _ h => h) (Or.inl ⟨by rfl, ?_⟩) hHeld ?_ ?_
            rotate_left
            · rintro w' ⟨s0, s1, s2, s3⟩
              go_simp
              with_reducible rfl
            rotate_left
            · simp only [Act.put, List.setIfInBounds_toArray, List.set_cons_zero, List.set_cons_succ, i64_w, i32_w]
              rfl
            refine take_ (i := 3) (N := some 33) (v := ?_) (a' := ?_) #[true, true, true, true, true, false, true, false, true, false, true, false, false, false, true, false, false, false, false, false] rfl rfl (by kernel_rfl) (fun _ _ _ h => h) (Or.inl ⟨by rfl, ?_⟩) hHeld ?_ ?_
            rotate_left
            · rintro w' ⟨s0, s1, s2, s3⟩
              go_simp
              with_reducible rfl
            rotate_left
            · simp only [Act.put, List.setIfInBounds_toArray, List.set_cons_zero, List.set_cons_succ, i64_w, i32_w]
              rfl
            refine take_ (i := 5) (N := some 35) (v := ?_) (a' := ?_) #[true, true, true, true, true, true, true, false, true, false, true, false, false, false, true, false, false, false, false, false] rfl rfl (by kernel_rfl) (fun _ _ _ h => h) (Or.inl ⟨by rfl, ?_⟩) hHeld ?_ ?_
            rotate_left
            · rintro w' ⟨s0, s1, s2, s3⟩
              go_simp
              with_reducible rfl
            rotate_left
            · simp only [Act.put, List.setIfInBounds_toArray, List.set_cons_zero, List.set_cons_succ, i64_w, i32_w]
              rfl
            refine pure_ (i := 7) (N := some 37) (v := ?_) (a' := ?_) #[true, true, true, true, true, true, true, true, true, false, true, false, false, false, true, false, false, false, false, false] rfl rfl (by kernel_rfl) (fun _ _ _ h => h) (Or.inl ⟨by rfl, ?_⟩) ?_ ?_
            rotate_left
            · intro w'
              go_simp
              with_reducible rfl
            rotate_left
            · simp only [Act.put, List.setIfInBounds_toArray, List.set_cons_zero, List.set_cons_succ, i64_w, i32_w]
              rfl
            refine take_ (i := 9) (N := some 39) (v := ?_) (a' := ?_) #[true, true, true, true, true, true, true, true, true, true, true, false, false, false, true, false, false, false, false, false] rfl rfl (by kernel_rfl) (fun _ _ _ h => h) (Or.inl ⟨by rfl, ?_⟩) hHeld ?_ ?_
            rotate_left
            · rintro w' ⟨s0, s1, s2, s3⟩
              go_simp
              with_reducible rfl
            rotate_left
            · simp only [Act.put, List.setIfInBounds_toArray, List.set_cons_zero, List.set_cons_succ, i64_w, i32_w]
              rfl
            refine take_ (i := 11) (N := some 41) (v := ?_) (a' := ?_) #[true, true, true, true, true, true, true, true, true, true, true, true, false, false, true, false, false, false, false, false] rfl rfl (by kernel_rfl) (fun _ _ _ h => h) (Or.inl ⟨by rfl, ?_⟩) hHeld ?_ ?_
            rotate_left
            · rintro w' ⟨s0, s1, s2, s3⟩
              go_simp
              with_reducible rfl
            rotate_left
            · simp only [Act.put, List.setIfInBounds_toArray, List.set_cons_zero, List.set_cons_succ, i64_w, i32_w]
              rfl
            refine pure_ (i := 12) (N := some 42) (v := ?_) (a' := ?_) #[true, true, true, true, true, true, true, true, true, true, true, true, true, false, true, false, false, false, false, false] rfl rfl (by kernel_rfl) (fun _ _ _ h => h) (Or.inl ⟨by rfl, ?_⟩) ?_ ?_
            rotate_left
            · intro w'
              go_simp
              with_reducible rfl
            rotate_left
            · simp only [Act.put, List.setIfInBounds_toArray, List.set_cons_zero, List.set_cons_succ, i64_w, i32_w]
              rfl
            refine take_ (i := 13) (N := some 43) (v := ?_) (a' := ?_) #[true, true, true, true, true, true, true, true, true, true, true, true, true, true, true, false, false, false, false, false] rfl rfl (by kernel_rfl) (fun _ _ _ h => h) (Or.inl ⟨by rfl, ?_⟩) hHeld ?_ ?_
            rotate_left
            · rintro w' ⟨s0, s1, s2, s3⟩
              go_simp
              with_reducible rfl
            rotate_left
            · simp only [Act.put, List.setIfInBounds_toArray, List.set_cons_zero, List.set_cons_succ, i64_w, i32_w]
              rfl
            refine pure_ (i := 15) (N := some 45) (v := ?_) (a' := ?_) #[true, true, true, true, true, true, true, true, true, true, true, true, true, true, true, true, false, false, false, false] rfl rfl (by kernel_rfl) (fun _ _ _ h => h) (Or.inl ⟨by rfl, ?_⟩) ?_ ?_
            rotate_left
            · intro w'
              go_simp
              with_reducible rfl
            rotate_left
            · simp only [Act.put, List.setIfInBounds_toArray, List.set_cons_zero, List.set_cons_succ, i64_w, i32_w]
              rfl
            refine pure_ (i := 16) (N := some 46) (v := ?_) (a' := ?_) #[true, true, true, true, true, true, true, true, true, true, true, true, true, true, true, true, true, false, false, false] rfl rfl (by kernel_rfl) (fun _ _ _ h => h) (Or.inl ⟨by rfl, ?_⟩) ?_ ?_
            rotate_left
            · intro w'
              go_simp
              with_reducible rfl
            rotate_left
            · simp only [Act.put, List.setIfInBounds_toArray, List.set_cons_zero, List.set_cons_succ, i64_w, i32_w]
              rfl
            refine one_ (i := 17) (N := some 47) #[true, true, true, true, true, true, true, true, true, true, true, true, true, true, true, true, true, true, false, false] rfl rfl (by kernel_rfl) (by decide) (fun K hK => ?_)
            refine goes_ Try.func42 (by kernel_rfl) rfl #[.slice (some ⟨gk, 0, none⟩) l.length c, .int .i64 x.f0, .string (tear N x.f1 so)] (by rfl) rfl rfl (by simp only [List.map_toArray, List.map_cons, List.map_nil]; rfl) ?_
            with_reducible refine (hwith W.drew (Mod.refl [] W).drew).mono ?_
            rintro e w3 ⟨v3, rfl, hR3, hb3⟩
            refine ⟨_, rfl, ?_⟩
            have M3 : Mod [] W w3 := (Mod.refl [] W).drew.trans0 (Mod.of_below hb3)
            obtain ⟨A3, c3, rfl⟩ := Kd.R_slice hR3
            rw [List.length_set, hal] at hR3 ⊢
            have B3 := M3.blk HBW.out (by simp)
            have z0 := (blk_cell B3 0).trans rfl
            have g0 := blk_frozen B3 0
            refine hK.out _ _ ⟨M3.cell u0 (by simp), M3.cell y0 (by simp), M3.cell y1 (by simp), M3.cell e1 (by simp)⟩ (fun hHeld => ?_)
            clear hK K
            refine norm_ (a' := ?_) ?_ ?_
            rotate_left
            · show Act.put _ (some 47) _ = _
              simp only [Act.put, List.setIfInBounds_toArray, List.set_cons_zero, List.set_cons_succ, i64_w, i32_w]
              rfl
            refine pure_ (i := 18) (N := some 48) (v := ?_) (a' := ?_) #[true, true, true, true, true, true, true, true, true, true, true, true, true, true, true, true, true, true, true, false] rfl rfl (by kernel_rfl) (fun _ _ _ h => h) (Or.inl ⟨by rfl, ?_⟩) ?_ ?_
            rotate_left
            · intro w'
              go_simp
              with_reducible rfl
            rotate_left
            · simp only [Act.put, List.setIfInBounds_toArray, List.set_cons_zero, List.set_cons_succ, i64_w, i32_w]
              rfl
            refine last_ (i := 19) (N := none) #[true, true, true, true, true, true, true, true, true, true, true, true, true, true, true, true, true, true, true, true] rfl rfl (by kernel_rfl) (by decide) (fun K hK => ?_)
            refine skip_ (w1 := ?_) (by rfl) rfl ?_ ?_
            rotate_left
            · go_simp
              rfl
            refine hK.out _ _ ?_
            clear hK K
            refine done_ (by kernel_rfl) ?_
            have M9 := ((hmW.trans0 M3).setCell (p := ⟨b4, 0, none⟩) (.inr (by rw [HB4.out]; exact Nat.le_refl _)) (.slice A3 l.length c3))
            have hb9 := blk_put B3 0 (.slice A3 l.length c3) rfl
            have hb89 := (Below.heap_setCell w3 ⟨b4, 0, none⟩ (.slice A3 l.length c3) (b4 + 1) (by simp)).trans (M3.blk HB8W.out (by simp))
            have ho9 := rf_put (fq := fq) hR3 (show w1.heap.size ≤ W.drew.heap.size from hmW.size) hbase B3 (.slice A3 l.length c3)
            have HE := Lib.hid (And.intro M9 (And.intro hb9 (And.intro hb89 ho9)))
            clear M9 hb9 hb89 ho9 hHeld z0 g0 hR3 hb3 M3 B3 u0 y0 y1 e1
            generalize w3.setCell ⟨b4, 0, none⟩ (.slice A3 l.length c3) = w9 at *
            go_wp2
            go_roundw
            case rel => exact ⟨k + 1, A3, c3, by go_num, by omega, HE.out.1, HE.out.2.1, HE.out.2.2.1, by rw [hsn.out]; exact HE.out.2.2.2, by rw [hsn.out]; exact hszP.out⟩
            case measure => simp [intOf]; omega
          · have tb : ((k : Int) == torn) = false := by simp [ht]
            have HKC := Lib.hid (Kd.C_below (Kd.C_below hkeep hm.below0) (below_alloc (Below.refl _ _) (.cells #[.int .i64 x.f0, .string x.f1] 78)))
            by_cases hkp : keep.getD k false = true
            · have hsn := Lib.hid (show failTo keep torn N l row (k + 1) = lk.set x.f0.toNat x.f1 by rw [hst, failStep, if_neg ht, if_pos hkp])
              have hszP := Lib.hid (set_sizes hszl x.f0.toNat hxs)
              have hkl : k < keep.length := by
                rcases Nat.lt_or_ge k keep.length with h | h
                · exact h
                · rw [List.getD_eq_getElem?_getD, List.getElem?_eq_none h] at hkp; cases hkp
              have hkl2 : (k : Int) < (keep.length : Int) := by omega
              obtain ⟨kad, hKA, kq⟩ := Kd.at_bool HKC.out (k : Int) hk0 hkl2
              subst hKA
              rw [Int.toNat_natCast, show rdOf false keep (k : Int) = keep.getD k false from rfl, hkp] at kq
              have hwith := fun w' (hm' : Mod [] (wr.alloc (.cells #[.int .i64 x.f0, .string x.f1] 78)) w') => with_any _ _ lk x.f0 x.f1 w' (Kd.C_below hCC hm'.below0) hcC hx.1 (by omega) (by omega)
              rw [hal] at hwith
              clear ho hoW hst hszl ht hxs hso hkp hCC hcC hm hb hb8 hAC2 hL hkeep
              go_upto_region 9 with fail
              generalize wr.alloc _ = W at *
              generalize wr.heap.size = b at *
              go_wp2_with fail
              refine (hwith W (Mod.refl [] W)).mono ?_
              rintro e w3 ⟨v3, rfl, hR3, hb3⟩
              have M3 : Mod [] W w3 := Mod.of_below hb3
              obtain ⟨A3, c3, rfl⟩ := Kd.R_slice hR3
              rw [List.length_set, hal] at hR3 ⊢
              have B3 := M3.blk HBW.out (by simp)
              have z0 := (blk_cell B3 0).trans rfl
              have g0 := blk_frozen B3 0
              have M9 := ((hmW.trans0 M3).setCell (p := ⟨b4, 0, none⟩) (.inr (by rw [HB4.out]; exact Nat.le_refl _)) (.slice A3 l.length c3))
              have hb9 := blk_put B3 0 (.slice A3 l.length c3) rfl
              have hb89 := (Below.heap_setCell w3 ⟨b4, 0, none⟩ (.slice A3 l.length c3) (b4 + 1) (by simp)).trans (M3.blk HB8W.out (by simp))
              have ho9 := rf_put (fq := fq) hR3 (show w1.heap.size ≤ W.heap.size from hmW.size) hbase B3 (.slice A3 l.length c3)
              have HE := Lib.hid (And.intro M9 (And.intro hb9 (And.intro hb89 ho9)))
              clear M9 hb9 hb89 ho9 hR3 hb3 M3 B3 u0 y0 y1 e1 hwith
              go_wp2
              go_roundw
              case rel => exact ⟨k + 1, A3, c3, by go_num, by omega, HE.out.1, HE.out.2.1, HE.out.2.2.1, by rw [hsn.out]; exact HE.out.2.2.2, by rw [hsn.out]; exact hszP.out⟩
              case measure => simp [intOf]; omega
            · have hsn := Lib.hid (show failTo keep torn N l row (k + 1) = lk by rw [hst, failStep, if_neg ht, if_neg hkp])
              have HE := Lib.hid (And.intro hmW (And.intro HBW.out (And.intro HB8W.out hoW)))
              have hszP := Lib.hid hszl
              by_cases hkl : k < keep.length
              · have hkl2 : (k : Int) < (keep.length : Int) := by omega
                obtain ⟨kad, hKA, kq⟩ := Kd.at_bool HKC.out (k : Int) hk0 hkl2
                subst hKA
                rw [Int.toNat_natCast, show rdOf false keep (k : Int) = keep.getD k false from rfl, show keep.getD k false = false by simpa using hkp] at kq
                clear ho hoW hst hszl ht hxs hso hkp hCC hcC hm hb hb8 hAC2 hL hkeep hkl
                go_upto_region 9 with fail
                generalize wr.alloc _ = W at *
                generalize wr.heap.size = b at *
                go_wp2
                go_roundw
                case rel => exact ⟨k + 1, _, _, by go_num, by omega, HE.out.1, HE.out.2.1, HE.out.2.2.1, by rw [hsn.out]; exact HE.out.2.2.2, by rw [hsn.out]; exact hszP.out⟩
                case measure => simp [intOf]; omega
              · have hkl2 : ¬ (k : Int) < (keep.length : Int) := by omega
                clear ho hoW hst hszl ht hxs hso hkp hCC hcC hm hb hb8 hAC2 hL hkeep hkl
                go_upto_region 9 with fail
                generalize wr.alloc _ = W at *
                generalize wr.heap.size = b at *
                go_wp2
                go_roundw
                case rel => exact ⟨k + 1, _, _, by go_num, by omega, HE.out.1, HE.out.2.1, HE.out.2.2.1, by rw [hsn.out]; exact HE.out.2.2.2, by rw [hsn.out]; exact hszP.out⟩
                case measure => simp [intOf]; omega
        · obtain rfl : k = row.length := by omega
          have hlt2 : ¬ (row.length : Int) < (row.length : Int) := by omega
          have u2 := (blk_cell hb 2).trans rfl
          have u3 := (blk_cell hb 3).trans rfl
          have u4 := (blk_cell hb 4).trans rfl
          have f1 := blk_frozen hb 1
          have f2 := blk_frozen hb 2
          have f3 := blk_frozen hb 3
          have t0 := (blk_cell hb8 0).trans rfl
          have t1 := (blk_cell hb8 1).trans rfl
          have t2 := (blk_cell hb8 2).trans rfl
          have t3 := (blk_cell hb8 3).trans rfl
          have t4 := (blk_cell hb8 4).trans rfl
          have g0 := blk_frozen hb8 0
          have g1 := blk_frozen hb8 1
          have g2 := blk_frozen hb8 2
          have g3 := blk_frozen hb8 3
          have g4 := blk_frozen hb8 4
          have HE := Lib.hid (And.intro hm (And.intro hb (And.intro hb8 ho)))
          clear hm hb hb8 ho hszl hL hkeep hal
          go_wp2
          obtain ⟨HEm, HEb, HE8, HEo⟩ := HE.out
          have k0 : (((wr.setCell ⟨b4, 1, none⟩ (.slice none 0 0)).setCell ⟨b4, 2, none⟩ (.int .i64 (-1))).setCell ⟨b4, 3, none⟩ (.bool true)).heap[b4 + 1]? = some (.cells #[.slice none 0 0, .slice none 0 0, .int .i64 0, .bool false, .int .i64 0] 49 (0, 0)) :=
            ((Below.heap_setCell _ _ _ (b4 + 1) (by simp)).trans ((Below.heap_setCell _ _ _ (b4 + 1) (by simp)).trans (Below.heap_setCell _ _ _ (b4 + 1) (by simp)))).trans HE8
          have k1 := blk_put k0 0 (.slice A l.length c) rfl
          have k2 := blk_put k1 1 (.slice none 0 0) rfl
          have k3 := blk_put k2 2 (.int .i64 (-1)) rfl
          have k4 := blk_put k3 3 (.bool true) rfl
          have k5 := blk_put k4 4 (.int .i64 n) rfl
          have hmm := ((((((((Mod.refl [b4, b4 + 1] wr).setCell (p := ⟨b4, 1, none⟩) (.inl (by simp)) (.slice none 0 0)).setCell (p := ⟨b4, 2, none⟩) (.inl (by simp)) (.int .i64 (-1))).setCell (p := ⟨b4, 3, none⟩) (.inl (by simp)) (.bool true)).setCell (p := ⟨b4 + 1, 0, none⟩) (.inl (by simp)) (.slice A l.length c)).setCell (p := ⟨b4 + 1, 1, none⟩) (.inl (by simp)) (.slice none 0 0)).setCell (p := ⟨b4 + 1, 2, none⟩) (.inl (by simp)) (.int .i64 (-1))).setCell (p := ⟨b4 + 1, 3, none⟩) (.inl (by simp)) (.bool true)).setCell (p := ⟨b4 + 1, 4, none⟩) (.inl (by simp)) (.int .i64 n)
          refine bodyPost_ret (results_cell_row rfl _ _ (b4 + 1) 49 #[.slice A l.length c, .slice none 0 0, .int .i64 (-1), .bool true, .int .i64 n] (0, 0) _ rfl k5 Try.underlying49 rfl (by kernel_rfl)) rfl ⟨_, rfl, ?_, ?_⟩
          · exact HEm.trans hmm (fun t ht => .inr (by rw [HB4.out]; simp at ht; omega))
          · have q1 := Kd.R_types (Kd.R_types HEo HEb (fun q hq => by simp [Kd.string, Kd.scalar] at hq; omega)) HE8 (fun q hq => by simp [Kd.string, Kd.scalar] at hq; omega)
            exact Kd.R_mono (Kd.R_step q1 (fun k hk hlt => hmm.block k hlt (by simp; exact ⟨hk.1.2, hk.2⟩))) (fun k hk => hk.1.1)
end Go.Proofs.Ytcohfbmfmlmblaa
