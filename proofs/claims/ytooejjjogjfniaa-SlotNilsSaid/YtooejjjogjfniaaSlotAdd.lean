/- A page's functions that write: a record added, put, dropped. -/
import Derived.Test.YtooejjjogjfniaaSlotRd
set_option linter.unusedVariables false
set_option linter.unusedSimpArgs false
namespace Go.Proofs.Ytooejjjogjfniaa
open Go.RowKit Go.Proofs.YtooejjjogjfniaaW.PrintWords Go.Proofs.Ytooejjjogjfniaa.PSlotRoom Go.Proofs.YtooejjjogjfniaaW.PrintLast
theorem info60 : (Try.prog.info? 60).map (fun i => (i.zero, i.size, i.bytes)) = some (some (.agg #[(.bool false), (.string ⟨#[]⟩)]), 2, 24) := by kernel_rfl
/-- Slot i is written whole. -/
theorem row_set {W : World} {ok : Nat → Prop} {b n c : Nat} {l : List S42} (h : Kd.R k60 60 W 0 ok (.slice (some ⟨b, 0, none⟩) n c) (l.map c60)) (i : Nat) (hi : i < n) (x : S42) :
    Kd.R k60 60 ((W.setCell ⟨b, i * 2, none⟩ (.bool x.f0)).setCell ⟨b, i * 2 + 1, none⟩ (.string x.f1)) 0 ok (.slice (some ⟨b, 0, none⟩) n c) ((l.set i x).map c60) ∧
    W.grownBy ((W.setCell ⟨b, i * 2, none⟩ (.bool x.f0)).setCell ⟨b, i * 2 + 1, none⟩ (.string x.f1)) (some b) := by
  obtain ⟨cs, hl, hM, hc, hf⟩ := Kd.R_elem h z60 (i : Int) (by omega) (by omega)
  have hl2 : cs.length = 2 := hl
  have := Kd.R_seg h (i : Int) (by omega) (by omega) hl hc (j := 0) (seg := [.bool x.f0, .string x.f1]) (Nat.le_refl 2) (x' := c60 x) (okp := fun _ => False) (by
    rw [show cs.take 0 ++ [Value.bool x.f0, Value.string x.f1] ++ cs.drop (0 + [Value.bool x.f0, Value.string x.f1].length) = [Value.bool x.f0, Value.string x.f1] by
      simp; omega]
    exact k60_mkM W 0 _ (c60 x)) (fun _ hk => hk.elim)
  rw [Int.toNat_natCast] at this
  rw [List.map_set]
  exact this
/-- Slot i's record is written. -/
theorem row_set1 {W : World} {ok : Nat → Prop} {b n c : Nat} {l : List S42} (h : Kd.R k60 60 W 0 ok (.slice (some ⟨b, 0, none⟩) n c) (l.map c60)) (i : Nat) (hi : i < n) (hil : i < l.length) (s : ByteArray) :
    Kd.R k60 60 (W.setCell ⟨b, i * 2 + 1, none⟩ (.string s)) 0 ok (.slice (some ⟨b, 0, none⟩) n c) ((l.set i ⟨l[i].f0, s⟩).map c60) ∧ W.grownBy (W.setCell ⟨b, i * 2 + 1, none⟩ (.string s)) (some b) := by
  obtain ⟨cs, hl, hM, hc, hf⟩ := Kd.R_elem h z60 (i : Int) (by omega) (by omega)
  have hcs := k60_openM hM
  rw [show (l.map c60).getD (i : Int).toNat z60 = c60 l[i] by simp [List.getD_eq_getElem?_getD, hil]] at hcs
  have := Kd.R_seg h (i : Int) (by omega) (by omega) hl hc (j := 1) (seg := [.string s]) (Nat.le_refl 2) (x' := c60 ⟨l[i].f0, s⟩) (okp := fun _ => False) (by
    rw [hcs]
    exact k60_mkM W 0 _ (c60 ⟨l[i].f0, s⟩)) (fun _ hk => hk.elim)
  rw [Int.toNat_natCast] at this
  rw [List.map_set]
  exact this
theorem row_form {W : World} {ok : Nat → Prop} {v : Value} {l : List S42} (h : Kd.R k60 60 W 0 ok v (l.map c60)) (hp : 0 < l.length) : ∃ b c, v = .slice (some ⟨b, 0, none⟩) l.length c ∧ ok b ∧ b < W.heap.size ∧ ∀ j, W.frozen? ⟨b, j, none⟩ = false := by
  obtain ⟨b, c, rfl, _, hlt, cells, hc⟩ := Kd.R_form h (by rw [List.length_map]; exact hp)
  rw [List.length_map]
  exact ⟨b, c, rfl, h.1 b (by simp [Value.ownBlock]), hlt, fun j => blk_frozen hc j⟩
/-- The row has been written: the page is as it is told. -/
theorem pg_wrote {w w2 w3 : World} {fp : Nat → Prop} {g b n c : Nat} {l : List S42} (hm : Fr fp w w2) (h1 : w2.heap[g]? = some (.cells #[.slice (some ⟨b, 0, none⟩) n c] 55 (0, 0)))
    (hr : Kd.R k60 60 w3 0 (fun k => fp k ∧ k ≠ g) (.slice (some ⟨b, 0, none⟩) n c) (l.map c60)) (hg : w2.grownBy w3 (some b)) (hb : fp b ∧ b ≠ g) (h3 : fp g) (h4 : ∀ k, fp k → k < w2.heap.size) : Fr fp w w3 ∧ Pg w3 (grow fp w w3) g l := by
  have hf : Fr fp w2 w3 := (Fr.of_grown hg).weak (fun k hk => .inl (by rw [Option.some.inj hk]; exact hb.1))
  have hz := hf.size
  refine ⟨hm.trans_ hf, .slice (some ⟨b, 0, none⟩) n c, ?_, Kd.R_mono hr (fun k hk => ⟨grow_old hk.1 (by have := h4 k hk.1; omega), hk.2⟩), grow_old h3 (by have := h4 g h3; omega), fun k hk => hk.2⟩
  exact (Fr.of_grown hg).blk h1 (fun e => hb.2 (Option.some.inj e).symm)
def AddPost (w : World) (fp : Nat → Prop) (g : Nat) (n er : Int) (ys : List S42) (e : Ending) (w' : World) : Prop :=
  e = .returned (.tuple #[.int .i64 n, .int .i64 er]) ∧ Fr fp w w' ∧ Pg w' (grow fp w w') g ys
theorem add_nil (s : ByteArray) (w : World) : Calls Try.prog 9 #[.pointer none, .string s] w fun e w' => e = .returned (.tuple #[.int .i64 0, .int .i64 1]) ∧ w = w' := by
  go_enter Try.func9, Try.ntmps9
  go_wp2
  go_ret2
  exact ⟨rfl, rfl⟩
theorem add_long (w : World) (fp : Nat → Prop) (g : Nat) (l : List S42) (s : ByteArray) (h : Pg w fp g l) (hs : 480 < s.size) :
    Calls Try.prog 9 #[.pointer (some ⟨g, 0, none⟩), .string s] w (AddPost w fp g 0 2 l) := by
  have t1 : (480 : Int) < (s.size : Int) := by omega
  go_enter Try.func9, Try.ntmps9
  go_wp2
  go_ret2
  exact ⟨rfl, Fr.refl _ _, h.grow (Mod.refl [] w)⟩
theorem add_full (w : World) (fp : Nat → Prop) (g : Nat) (l : List S42) (s : ByteArray) (h : Pg w fp g l) (hi : Inv l) (hs : s.size ≤ 480) (hr : ¬ (s.size : Int) ≤ room l) :
    Calls Try.prog 9 #[.pointer (some ⟨g, 0, none⟩), .string s] w (AddPost w fp g 0 8 l) := by
  have HR := room_any w fp g l h hi
  have t1 : ¬ (480 : Int) < (s.size : Int) := by omega
  generalize room l = r at *
  have t2 : r < (s.size : Int) := by omega
  clear hr
  go_enter Try.func9, Try.ntmps9
  go_wp2_with (go_at_call 7; refine HR.mono ?_; rintro e w1 ⟨rfl, hm1⟩)
  go_ret2
  exact ⟨rfl, Fr.of_mod0 hm1, h.grow hm1⟩
set_option maxRecDepth 100000 in
set_option maxHeartbeats 1000000 in
theorem add_old (w : World) (fp : Nat → Prop) (g : Nat) (l : List S42) (s : ByteArray) (h : Pg w fp g l) (hi : Inv l) (hs : s.size ≤ 480) (hr : (s.size : Int) ≤ room l) (hb : bare l < l.length) :
    Calls Try.prog 9 #[.pointer (some ⟨g, 0, none⟩), .string s] w (AddPost w fp g (bare l : Int) 0 (l.set (bare l) ⟨true, s⟩)) := by
  have HR := room_any w fp g l h hi
  have HB := fun w' hw' => bare_any w' fp g l hw' (by have := hi.len; omega)
  have t1 : ¬ (480 : Int) < (s.size : Int) := by omega
  generalize room l = r at *
  have t2 : ¬ r < (s.size : Int) := by omega
  have t3 : ((bare l : Int) == (l.length : Int)) = false := by simp; omega
  have t4 : (bare l == l.length) = false := by simp; omega
  have hln := hi.len
  generalize bare l = i at *
  have hki : (0 : Int) ≤ (i : Int) := by omega
  have hki2 : (i : Int) < (l.length : Int) := by omega
  clear hr
  go_enter Try.func9, Try.ntmps9
  go_wp2_with fail
  refine HR.mono ?_
  rintro e w1 ⟨rfl, hm1⟩
  go_wp2_with fail
  refine (HB w1 (h.mod hm1)).mono ?_
  rintro e w2 ⟨rfl, hm2⟩
  have hm := hm1.trans0 hm2
  have h9 := h.mod hm
  obtain ⟨v, h1, h2, h3, h4⟩ := h9
  obtain ⟨b, c, rfl, hok, hbl, hfz⟩ := row_form h2 (by omega)
  have c0 := (blk_cell h1 0).trans rfl
  obtain ⟨cs, hcl, hM, hcc, hff⟩ := Kd.R_elem h2 z60 (i : Int) (by omega) (by omega)
  have hcs := k60_openM hM
  subst hcs
  have q0 := hcc 0 _ rfl
  have q1 := hcc 1 _ rfl
  rw [show (i : Int).toNat * k60.sz + 0 = i * 2 by rw [Int.toNat_natCast]; rfl] at q0
  rw [show (i : Int).toNat * k60.sz + 1 = i * 2 + 1 by rw [Int.toNat_natCast]; rfl] at q1
  have f0 := hfz (i * 2)
  have f1 := hfz (i * 2 + 1)
  have H1 := Lib.hid h1
  have H2 := Lib.hid h2
  clear h1 h2 hcc hff hfz hcl hM
  go_wp2
  go_ret2
  obtain ⟨k1, k2⟩ := row_set H2.out i (by omega) ⟨true, s⟩
  obtain ⟨m1, m2⟩ := pg_wrote (Fr.of_mod0 hm) H1.out k1 k2 hok h3 h4
  exact ⟨rfl, m1, m2⟩
set_option maxRecDepth 100000 in
set_option maxHeartbeats 1000000 in
theorem add_new (w : World) (fp : Nat → Prop) (g : Nat) (l : List S42) (s : ByteArray) (h : Pg w fp g l) (hi : Inv l) (hs : s.size ≤ 480) (hr : (s.size : Int) ≤ room l) (hb : bare l = l.length) :
    Calls Try.prog 9 #[.pointer (some ⟨g, 0, none⟩), .string s] w (AddPost w fp g (l.length : Int) 0 (l ++ [⟨true, s⟩])) := by
  have HR := room_any w fp g l h hi
  have HB := fun w' hw' => bare_any w' fp g l hw' (by have := hi.len; omega)
  have t1 : ¬ (480 : Int) < (s.size : Int) := by omega
  generalize room l = r at *
  have t2 : ¬ r < (s.size : Int) := by omega
  have hln := hi.len
  rw [hb] at HB
  have hl24 : ((l.map c60).length + 1) * 24 ≤ 140737488355328 := by rw [List.length_map]; omega
  clear hr hb
  go_enter Try.func9, Try.ntmps9
  go_wp2_with fail
  refine HR.mono ?_
  rintro e w1 ⟨rfl, hm1⟩
  go_wp2_with fail
  refine (HB w1 (h.mod hm1)).mono ?_
  rintro e w2 ⟨rfl, hm2⟩
  have hm := hm1.trans0 hm2
  have h9 := h.mod hm
  obtain ⟨A, c, h1, hc, h2, _⟩ := h9.open
  obtain ⟨v, _, _, h3, h4⟩ := h9
  have c0 := (blk_cell h1 0).trans rfl
  have H1 := Lib.hid h1
  have H2 := Lib.hid h2
  have F0 := Lib.hid (blk_frozen h1 0)
  have HNE := Lib.hid (fun k (hk : (Value.slice A l.length c).ownBlock = some k) => (h2.1 k hk).2)
  have f0 := F0.out
  clear h1 h2
  go_upto_region 10 with (at_builtin; refine push_one k60 rfl (.tmp 33) (.tmp 35) 53 60 (.agg #[(.bool false), (.string (⟨#[]⟩ : ByteArray))]) 24 rfl Try.underlying53 info60 rfl (by decide) (by decide) (.slice A l.length c) (l.map c60) (c60 ⟨false, ⟨#[]⟩⟩) [.bool false, .string (⟨#[]⟩ : ByteArray)] (fun k => fp k ∧ k ≠ g) rfl rfl (k60_mkM _ 0 _ (c60 ⟨false, ⟨#[]⟩⟩)) H2.out hl24 ?_; intro A4 c4 w4 hr4 hf4; rw [List.length_map]; have HR4 := Lib.hid hr4; have hg4 := hf4.blk H1.out (fun hk => hk.2 rfl); have j0 := (blk_cell hg4 0).trans rfl; have jf := blk_frozen hg4 0; have HG4 := Lib.hid hg4; have HF4 := Lib.hid hf4; clear hr4 hf4 hg4)
  have hrw : Kd.R k60 60 w4 0 (fun k => grow (fun k => fp k ∧ k ≠ g) w2 w4 k ∧ k ≠ g) (.slice A4 (l.length + 1) c4) ((l ++ [(⟨false, ⟨#[]⟩⟩ : S42)]).map c60) := by
    have hq := HR4.out
    rw [List.length_map] at hq
    rw [List.map_append]
    exact Kd.R_mono hq (fun k hk => ⟨hk, fun e => hk.1.elim (fun h => h.2 e) (fun h => by have := h4 g h3; omega)⟩)
  have hr5 : Kd.R k60 60 (w4.setCell ⟨g, 0, none⟩ (.slice A4 (l.length + 1) c4)) 0 (fun k => grow (fun k => fp k ∧ k ≠ g) w2 w4 k ∧ k ≠ g) (.slice A4 (l.length + 1) c4) ((l ++ [(⟨false, ⟨#[]⟩⟩ : S42)]).map c60) :=
    Kd.R_far hrw (p := ⟨g, 0, none⟩) (fun k hk => hk.2) _
  obtain ⟨b, c5, e5, hok, hbl, hfz⟩ := row_form hr5 (by simp)
  injection e5 with e6 e7 e8
  subst e6
  have hg5 : (w4.setCell ⟨g, 0, none⟩ (.slice (some ⟨b, 0, none⟩) (l.length + 1) c4)).heap[g]? = some (.cells #[.slice (some ⟨b, 0, none⟩) (l.length + 1) c4] 55 (0, 0)) := blk_put HG4.out 0 _ rfl
  have hf5 : Fr (fun k => k = g) w4 (w4.setCell ⟨g, 0, none⟩ (.slice (some ⟨b, 0, none⟩) (l.length + 1) c4)) := (Fr.refl (fun k => k = g) w4).setCell (p := ⟨g, 0, none⟩) (.inl rfl) _
  have hz5 : w4.heap.size = (w4.setCell ⟨g, 0, none⟩ (.slice (some ⟨b, 0, none⟩) (l.length + 1) c4)).heap.size := by simp
  have HF5 := Lib.hid hf5
  have HG5 := Lib.hid hg5
  have HR5 := Lib.hid hr5
  have HZ5 := Lib.hid hz5
  have d0 := (blk_cell hg5 0).trans rfl
  clear hrw hf5 hg5 hr5 hz5 j0 jf e7 e8 hbl
  generalize w4.setCell ⟨g, 0, none⟩ (.slice (some ⟨b, 0, none⟩) (l.length + 1) c4) = w5 at *
  obtain ⟨cs, hcl, hM, hcc, hff⟩ := Kd.R_elem HR5.out z60 (l.length : Int) (by omega) (by omega)
  have hcs := k60_openM hM
  subst hcs
  have q0 := hcc 0 _ rfl
  have q1 := hcc 1 _ rfl
  rw [show (l.length : Int).toNat * k60.sz + 0 = l.length * 2 by rw [Int.toNat_natCast]; rfl] at q0
  rw [show (l.length : Int).toNat * k60.sz + 1 = l.length * 2 + 1 by rw [Int.toNat_natCast]; rfl] at q1
  have f0 := hfz (l.length * 2)
  have f1 := hfz (l.length * 2 + 1)
  have hki : (0 : Int) ≤ (l.length : Int) := by omega
  have hki2 : (l.length : Int) < (l.length : Int) + 1 := by omega
  clear hcc hff hfz hcl hM
  go_wp2
  go_ret2
  obtain ⟨k1, k2⟩ := row_set HR5.out l.length (by omega) ⟨true, s⟩
  rw [show (l ++ [(⟨false, ⟨#[]⟩⟩ : S42)]).set l.length ⟨true, s⟩ = l ++ [⟨true, s⟩] by rw [List.set_append_right _ _ (Nat.le_refl _)]; simp] at k1
  generalize (w5.setCell ⟨b, l.length * 2, none⟩ (.bool true)).setCell ⟨b, l.length * 2 + 1, none⟩ (.string s) = w6 at *
  have F24 : Fr fp w2 w4 := HF4.out.weak (fun k hk => .inl hk.1)
  have F45 : Fr fp w4 w5 := HF5.out.weak (fun k hk => .inl (hk ▸ h3))
  have F56 : Fr (fun k => k = b) w5 w6 := (Fr.of_grown k2).weak (fun k hk => .inl (Option.some.inj hk))
  have F25 : Fr fp w w5 := (Fr.of_mod0 hm).trans_ (F24.trans_ F45)
  have hz1 := hm.size
  have hz2 := F24.size
  have hz6 := F56.size
  have hz4 := HZ5.out
  have hgl := h4 g h3
  refine ⟨rfl, F25.trans F56 (fun t ht => ?_), .slice (some ⟨b, 0, none⟩) (l.length + 1) c4, F56.blk HG5.out (fun e => hok.2 e.symm), Kd.R_mono k1 (fun k hk => ⟨⟨hk.1.1.elim (fun h => .inl h.1) (fun h => .inr (by omega)), by have := hk.1.2; omega⟩, hk.2⟩), grow_old h3 (by omega), fun k hk => hk.2⟩
  rw [ht]
  exact hok.1.1.elim (fun h => .inl h.1) (fun h => .inr (by omega))
theorem add_any (w : World) (fp : Nat → Prop) (g : Nat) (l : List S42) (s : ByteArray) (h : Pg w fp g l) (hi : Inv l) :
    Calls Try.prog 9 #[.pointer (some ⟨g, 0, none⟩), .string s] w (AddPost w fp g (addS l s).2.1 (addS l s).2.2 (addS l s).1) := by
  unfold addS
  split
  · exact add_long w fp g l s h (by assumption)
  · split
    · by_cases hb : bare l = l.length
      · rw [show setAt l (bare l) ⟨true, s⟩ = l ++ [⟨true, s⟩] by unfold setAt; rw [if_pos hb], show ((bare l : Nat) : Int) = (l.length : Int) by omega]
        exact add_new w fp g l s h hi (by omega) (by assumption) hb
      · have := bare_le l
        rw [show setAt l (bare l) ⟨true, s⟩ = l.set (bare l) ⟨true, s⟩ by unfold setAt; rw [if_neg hb]]
        exact add_old w fp g l s h hi (by omega) (by assumption) (by omega)
    · exact add_full w fp g l s h hi (by omega) (by assumption)
end Go.Proofs.Ytooejjjogjfniaa
