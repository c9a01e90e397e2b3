/- The law's steps as they are read, and what the document's Room tells. -/
import Derived.Test.YtooejjjogjfniaaSlotStep
import Derived.Test.YtooejjjogjfniaaOpen
set_option linter.unusedVariables false
set_option linter.unusedSimpArgs false
namespace Go.Proofs.Ytooejjjogjfniaa
open Go.RowKit Go.Proofs.YtooejjjogjfniaaW.PrintWords Go.Proofs.Ytooejjjogjfniaa.PSlotRoom Go.Proofs.YtooejjjogjfniaaW.PrintLast
theorem c34 : Try.prog.cellsOf 34 = 4 := by kernel_rfl
theorem c3 : Try.prog.cellsOf 3 = 1 := by kernel_rfl
theorem c5 : Try.prog.cellsOf 5 = 1 := by kernel_rfl
structure S34 where
  f0 : Int
  f1 : Int
  f2 : Int
  f3 : Int
def z34 : S34 := ⟨0, 0, 0, 0⟩
def S34.v (x : S34) : List Value := [.int .i64 x.f0, .int .i64 x.f1, .int .i64 x.f2, .int .u8 x.f3]
def k34 : Kd S34 := Kd.iso (Kd.pair (Kd.int .i64) (Kd.pair (Kd.int .i64) (Kd.pair (Kd.int .i64) (Kd.int .u8)))) (fun x : S34 => (x.f0, x.f1, x.f2, x.f3))
theorem k34_open {w : World} {x : S34} {cs : List Value} (h : k34.K w x cs) : cs = x.v := by
  obtain ⟨_, _, rfl, rfl, _, _, rfl, rfl, _, _, rfl, rfl, rfl⟩ := h
  exact rfl
theorem k34_mk (w : World) (x : S34) : k34.K w x x.v := ⟨[.int .i64 x.f0], _, rfl, rfl, [.int .i64 x.f1], _, rfl, rfl, [.int .i64 x.f2], _, rfl, rfl, rfl⟩
def Op34 (a : S34) : Prop := -9223372036854775808 ≤ a.f2 ∧ a.f2 ≤ 9223372036854775807
theorem op_open {H : Type} {enc : TypeId × Value → H} {w : World} {base n : Nat} {cs : List Value} {x : DataW H × List MemPlace} (h : DataW.trod enc Try.prog w base (fun _ => true) true n 34 cs = some x) (hl : cs.length = k34.sz) :
    ∃ a, k34.K w a cs ∧ Op34 a := by
  obtain ⟨_, m, hf⟩ := fields_trod (l := [(3, 0), (3, 1), (3, 2), (5, 3)]) (by kernel_rfl) h
  obtain ⟨y0, k0⟩ := hf 0 3 0 rfl
  obtain ⟨y1, k1⟩ := hf 1 3 1 rfl
  obtain ⟨y2, k2⟩ := hf 2 3 2 rfl
  obtain ⟨y3, k3⟩ := hf 3 5 3 rfl
  rw [c3] at k0 k1 k2
  rw [c5] at k3
  have hl2 : cs.length = 4 := hl
  match cs, hl2 with
  | [u0, u1, u2, u3], _ =>
    simp only [List.drop_zero, List.drop_succ_cons, List.take_succ_cons, List.take_zero] at k0 k1 k2 k3
    obtain ⟨n0, r0, _, w0⟩ := DataW.trod_int Try.underlying3 k0
    obtain ⟨n1, r1, _, w1⟩ := DataW.trod_int Try.underlying3 k1
    obtain ⟨n2, r2, _, w2⟩ := DataW.trod_int Try.underlying3 k2
    obtain ⟨n3, r3, _, w3⟩ := DataW.trod_int Try.underlying5 k3
    obtain rfl : u0 = .int .i64 n0 := by simpa using r0
    obtain rfl : u1 = .int .i64 n1 := by simpa using r1
    obtain rfl : u2 = .int .i64 n2 := by simpa using r2
    obtain rfl : u3 = .int .u8 n3 := by simpa using r3
    exact ⟨⟨n0, n1, n2, n3⟩, k34_mk w ⟨n0, n1, n2, n3⟩, bounds_i64 w2⟩
theorem ops_open {H : Type} {enc : TypeId × Value → H} {w : World} {v : Value} {D : DataW H} {p : List MemPlace} (ho : Value.okWide Try.prog w .any 0 22 v) (h : DataW.Trod enc Try.prog w 0 (fun _ => true) true 22 v D p) :
    ∃ A c ops, v = .slice A ops.length c ∧ ops.length ≤ c ∧ Kd.C k34 w A ops.length ops ∧ ∀ x ∈ ops, Op34 x :=
  rows_open k34 Op34 Try.underlying22 c34 (fun n cs x h hl => op_open h hl) (Go.WideShapes.okWide_slice (e := 34) Try.underlying22 ho) h
/-- Where an op lies. -/
theorem op_at {w : World} {A : Option Addr} {ops : List S34} (hr : Kd.C k34 w A ops.length ops) (i : Nat) (h : i < ops.length) :
    ∃ ad : Addr, A = some ad ∧ w.cell? (ad.add (i * 4)) = some (.int .i64 ops[i].f0) ∧ w.cell? ⟨(ad.add (i * 4)).block, (ad.add (i * 4)).off + 1, none⟩ = some (.int .i64 ops[i].f1) ∧
      w.cell? ⟨(ad.add (i * 4)).block, (ad.add (i * 4)).off + 2, none⟩ = some (.int .i64 ops[i].f2) ∧ w.cell? ⟨(ad.add (i * 4)).block, (ad.add (i * 4)).off + 3, none⟩ = some (.int .u8 ops[i].f3) := by
  obtain ⟨ad, c, e, _, hK, hc0⟩ := Kd.C_get hr z34 (i : Int) (by omega) (by omega)
  have hg : ops.getD (i : Int).toNat z34 = ops[i] := by rw [Int.toNat_natCast, List.getD_eq_getElem?_getD, List.getElem?_eq_getElem h]; rfl
  rw [hg] at hK
  obtain rfl := k34_open hK
  rw [Int.toNat_natCast] at hc0
  have hc : ∀ j u, ops[i].v[j]? = some u → w.cell? (ad.add (i * 4 + j)) = some u := hc0
  exact ⟨ad, e, hc 0 _ rfl, by rw [← add_field _ _ 1 (by omega)]; exact hc 1 _ rfl, by rw [← add_field _ _ 2 (by omega)]; exact hc 2 _ rfl, by rw [← add_field _ _ 3 (by omega)]; exact hc 3 _ rfl⟩
noncomputable def runS (l : List S42) (ops : List S34) : List S42 := ops.foldl (fun l o => stepS l o.f0 o.f1 o.f2 o.f3) l
theorem runS_snoc (l : List S42) (ops : List S34) (k : Nat) (h : k < ops.length) : runS l (ops.take (k + 1)) = stepS (runS l (ops.take k)) ops[k].f0 ops[k].f1 ops[k].f2 ops[k].f3 := by
  rw [List.take_succ_eq_append_getElem h, runS, List.foldl_append]
  rfl
theorem inv_run (ops : List S34) : ∀ {l : List S42}, Inv l → Inv (runS l ops) := by
  induction ops with
  | nil => exact fun h => h
  | cons o ops ih => exact fun h => ih (inv_step h o.f0 o.f1 o.f2 o.f3)
theorem room_min (l : List S42) : -1 ≤ room l ∧ room l ≤ 480 := by unfold room; split <;> omega
/-- An add that is too long says so, one that is not goes in. -/
theorem add_err {l : List S42} {s : ByteArray} (h : s.size ≤ 480) : (addS l s).2.2 = if (s.size : Int) ≤ room l then 0 else 8 := by
  unfold addS
  rw [if_neg (by omega)]
  split <;> rfl
theorem add_same {l : List S42} {s : ByteArray} (h : s.size ≤ 480) (h1 : room l < (s.size : Int)) : (addS l s).1 = l := by
  unfold addS
  rw [if_neg (by omega), if_neg (by omega)]
set_option maxRecDepth 100000 in
set_option maxHeartbeats 2000000 in
theorem refRoom_any (w : World) (v : Value) (ok : Nat → Prop) (l : List S42) (h : Kd.R k42 42 w 0 ok v l) (hi : Inv l) :
    Calls Try.prog 8 #[v] w fun e w' => e = .returned (.int .i64 (room l)) ∧ Mod [] w w' := by
  have HR := Lib.hid h
  have HI := Lib.hid hi
  obtain ⟨hr1, hr2⟩ := room_min l
  have HA := fun s w' (hm : Mod [] w w') (hs : s.size ≤ 100000) => refAdd_any w' ok v l s (row_mod h hm) hi hs
  have HE := fun s => @add_err l s
  generalize room l = r at *
  clear h hi
  go_enter Try.func8, Try.ntmps8
  go_wp2_with fail
  go_loopw [3, 4] (fun last i wr => ∃ k : Nat, i = .int .i64 (k : Int) ∧ last = .int .i64 ((k : Int) - 1) ∧ (k : Int) - 1 ≤ r ∧ Mod [] w wr) (fun _ i _ => 481 - (intOf i).toNat)
  case atStart => exact ⟨0, rfl, rfl, by omega, Mod.refl [] w⟩
  case round =>
    obtain ⟨k, rfl, rfl, hkr, hm⟩ := hrel
    by_cases hlt : k ≤ 480
    · have hki : (k : Int) ≤ 480 := by omega
      have hk0 : (0 : Int) ≤ (k : Int) := by omega
      obtain ⟨bs, hbs⟩ : ∃ bs, strOfNums (List.replicate (k : Int).toNat (0 : Int)) = bs := ⟨_, rfl⟩
      have hsz : bs.size = k := by rw [← hbs, str_size, List.length_replicate, Int.toNat_natCast]
      have HBS := Lib.hid hbs
      clear hbs
      go_wp2_with (at_make; refine Kd.R_make (Kd.scalar (Value.int .u8) (fun _ => rfl)) _ 5 rfl (N := 15) rfl 58 _ _ rfl (k : Int) rfl rfl Try.underlying58 (.int .u8 0) 1 info5 rfl (by decide) (by omega) 0 (ok := fun _ => True) (okp := fun _ => True) rfl (fun _ hk => hk) trivial (by omega) (by simp; omega) (Below.refl _ _) (Nat.le_refl _) ?_; intro v1 w5 hr5 hb5 hg5 hn5; have hcv : (convert 58 9 v1).run Try.prog w5 = .ok (.string bs) w5 := (by rw [← HBS.out]; exact own_string Try.underlying58 Try.underlying5 Try.underlying9 (Kd.own_of_R hr5)); have HB5 := Lib.hid (Mod.of_below hb5); clear hr5 hb5 hg5 hn5)
      refine (HA bs w5 (hm.trans0 HB5.out) (by omega)).mono ?_
      rintro e w6 ⟨v', rfl, hm6, _⟩
      have HM6 := Lib.hid ((hm.trans0 HB5.out).trans0 hm6)
      rw [HE bs (by omega)]
      clear hm6 hcv
      by_cases hf : (bs.size : Int) ≤ r
      · rw [if_pos hf]
        go_wp2
        go_roundw
        case rel => exact ⟨k + 1, by go_num, by simp, by omega, HM6.out⟩
        case measure => simp [intOf]; omega
      · rw [if_neg hf]
        go_wp2
        go_ret
        exact ⟨by rw [show (k : Int) - 1 = r by omega]; rfl, HM6.out⟩
    · have hki : ¬ (k : Int) ≤ 480 := by omega
      go_wp2
      go_ret
      exact ⟨by rw [show (k : Int) - 1 = r by omega]; rfl, hm⟩
end Go.Proofs.Ytooejjjogjfniaa
