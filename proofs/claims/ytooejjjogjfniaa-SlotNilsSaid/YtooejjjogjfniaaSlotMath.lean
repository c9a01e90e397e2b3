/- Slots as lists: what they need, the least bare one, and what the document's functions tell. -/
import Derived.Test.YtooejjjogjfniaaPSlotRoomx2
import Derived.Test.YtooejjjogjfniaaStr
set_option linter.unusedVariables false
set_option linter.unusedSimpArgs false
namespace Go.Proofs.Ytooejjjogjfniaa
open Go.RowKit Go.Proofs.YtooejjjogjfniaaW.PrintWords Go.Proofs.Ytooejjjogjfniaa.PSlotRoom Go.Proofs.YtooejjjogjfniaaW.PrintLast
theorem up {α : Type} {f : Nat → Option α} (hm : ∀ k, LeO (f k) (f (k + 1))) {k k' : Nat} {r : α} (h : f k = some r) (hk : k ≤ k') : f k' = some r := by
  obtain ⟨d, rfl⟩ : ∃ d, k' = k + d := ⟨k' - k, by omega⟩
  induction d with
  | zero => exact h
  | succ d ih => exact hm (k + d) r (ih (by omega))
def szs (l : List S42) : Nat := (l.map (fun x => x.f1.size)).sum
def need (l : List S42) : Nat := 1 + 2 * l.length + szs l
def bare (l : List S42) : Nat := l.findIdx (fun x => !x.f0)
def c60 (x : S42) : S60 := ⟨x.f0, x.f1⟩
structure Inv (l : List S42) : Prop where
  len : l.length ≤ 64
  nd : need l ≤ 512
  em : ∀ x ∈ l, x.f0 = false → x.f1.size = 0
theorem szs_append (a b : List S42) : szs (a ++ b) = szs a + szs b := by simp [szs]
theorem szs_cons (x : S42) (l : List S42) : szs (x :: l) = x.f1.size + szs l := by simp [szs]
theorem szs_take (l : List S42) (i : Nat) (h : i < l.length) : szs (l.take (i + 1)) = szs (l.take i) + l[i].f1.size := by
  rw [List.take_succ_eq_append_getElem h, szs_append]; simp [szs]
theorem szs_set (l : List S42) (i : Nat) (x : S42) (h : i < l.length) : szs (l.set i x) + l[i].f1.size = szs l + x.f1.size := by
  induction l generalizing i with
  | nil => simp at h
  | cons y l ih =>
    cases i with
    | zero => simp [szs_cons]; omega
    | succ i =>
      have := ih i (by simpa using h)
      simp only [List.set_cons_succ, szs_cons, List.getElem_cons_succ]
      omega
theorem szs_mem {l : List S42} {x : S42} (h : x ∈ l) : x.f1.size ≤ szs l := by
  induction l with
  | nil => simp at h
  | cons y l ih =>
    rw [szs_cons]
    rcases List.mem_cons.1 h with rfl | h
    · omega
    · have := ih h; omega
theorem szs_take_le (l : List S42) (i : Nat) : szs (l.take i) ≤ szs l := by
  have : szs l = szs (l.take i) + szs (l.drop i) := by rw [← szs_append, List.take_append_drop]
  omega
theorem rd42 (l : List S42) (i : Nat) (h : i < l.length) : rd_T42 l (i : Int) = l[i] := by
  rw [rd_T42, Int.toNat_natCast, List.getD_eq_getElem?_getD, List.getElem?_eq_getElem h]; rfl
theorem rd60 (l : List S42) (i : Nat) (h : i < l.length) : rd_T60 (l.map c60) (i : Int) = c60 l[i] := by
  rw [rd_T60, Int.toNat_natCast, List.getD_eq_getElem?_getD, List.getElem?_map, List.getElem?_eq_getElem h]; rfl
theorem wrapS (n : Nat) (h : n ≤ 1000000000) : wrap64 ((n : Int) + 1) = ((n + 1 : Nat) : Int) := by unfold wrap64; omega
/-- size of the program. -/
theorem size_from (l : List S42) (hl : l.length ≤ 1000) (hz : szs l ≤ 1000000) (d : Nat) : ∀ i : Nat, i + d = l.length → slot_size.l0 (d + 1) ((1 + 2 * i + szs (l.take i) : Nat) : Int) (l.map c60) (l.length : Int) (i : Int) = some ((need l : Nat) : Int) := by
  induction d with
  | zero =>
    intro i h
    simp only [slot_size.l0]
    rw [if_neg (by omega)]
    have : i = l.length := by omega
    subst this
    rw [List.take_length]; rfl
  | succ d ih =>
    intro i h
    have hi : i < l.length := by omega
    simp only [slot_size.l0]
    rw [if_pos (by omega), if_pos (by omega), if_pos (by simp; omega), rd60 l i hi, wrapS i (by omega)]
    have h1 := szs_take l i hi
    have h2 := szs_take_le l (i + 1)
    rw [show wrap64 (((1 + 2 * i + szs (l.take i) : Nat) : Int) + wrap64 (2 + ((c60 l[i]).f1.size : Int))) = ((1 + 2 * (i + 1) + szs (l.take (i + 1)) : Nat) : Int) by
      rw [show (c60 l[i]).f1 = l[i].f1 from rfl]; unfold wrap64; omega]
    exact ih (i + 1) (by omega)
theorem size_some (l : List S42) (hl : l.length ≤ 1000) (hz : szs l ≤ 1000000) : slot_size.f (l.length + 1) (l.map c60) = some ((need l : Nat) : Int) := by
  have := size_from l hl hz l.length 0 (by omega)
  rw [slot_size.f, List.length_map]
  simpa [szs] using this
theorem need_from (l : List S42) (hl : l.length ≤ 1000) (hz : szs l ≤ 1000000) (d : Nat) : ∀ i : Nat, i + d = l.length → hibernacleref09_Need.l0 (d + 1) l ((1 + 2 * l.length + szs (l.take i) : Nat) : Int) (i : Int) = some ((need l : Nat) : Int) := by
  induction d with
  | zero =>
    intro i h
    simp only [hibernacleref09_Need.l0]
    rw [if_neg (by omega)]
    have : i = l.length := by omega
    subst this
    rw [List.take_length]; rfl
  | succ d ih =>
    intro i h
    have hi : i < l.length := by omega
    simp only [hibernacleref09_Need.l0]
    rw [if_pos (by omega), if_pos (by omega), rd42 l i hi, wrapS i (by omega)]
    have h1 := szs_take l i hi
    have h2 := szs_take_le l (i + 1)
    rw [show wrap64 (((1 + 2 * l.length + szs (l.take i) : Nat) : Int) + (l[i].f1.size : Int)) = ((1 + 2 * l.length + szs (l.take (i + 1)) : Nat) : Int) by unfold wrap64; omega]
    exact ih (i + 1) (by omega)
theorem need_some (l : List S42) (hl : l.length ≤ 1000) (hz : szs l ≤ 1000000) (k : Nat) (hk : l.length < k) : hibernacleref09_Need.f k l = some ((need l : Nat) : Int) := by
  refine up (f := fun k => hibernacleref09_Need.f k l) (fun k => hibernacleref09_Need.mono l k) (k := l.length + 1) ?_ hk
  show hibernacleref09_Need.l0 (l.length + 1) l (wrap64 (1 + wrap64 (2 * (l.length : Int)))) 0 = _
  rw [show wrap64 (1 + wrap64 (2 * (l.length : Int))) = ((1 + 2 * l.length + szs (l.take 0) : Nat) : Int) by simp only [List.take_zero]; unfold wrap64 szs; simp; omega]
  exact need_from l hl hz l.length 0 (by omega)
theorem bare_le (l : List S42) : bare l ≤ l.length := List.findIdx_le_length
theorem bare_at {l : List S42} (h : bare l < l.length) : (l[bare l]'h).f0 = false := by
  have := List.findIdx_getElem (p := fun x : S42 => !x.f0) (w := h)
  show (l[List.findIdx (fun x : S42 => !x.f0) l]'h).f0 = false
  simpa using this
theorem bare_before {l : List S42} {j : Nat} (h : j < bare l) : (l[j]'(Nat.lt_of_lt_of_le h (bare_le l))).f0 = true := by
  have := List.not_of_lt_findIdx (p := fun x : S42 => !x.f0) h
  simpa using this
theorem bare_from (l : List S42) (hl : l.length ≤ 1000000) (d : Nat) : ∀ i : Nat, i + d = l.length → i ≤ bare l → hibernacleref09_Bare.l0 (d + 1) l (i : Int) = some ((bare l : Nat) : Int) := by
  induction d with
  | zero =>
    intro i h hb
    have := bare_le l
    simp only [hibernacleref09_Bare.l0]
    rw [if_neg (by omega)]
    congr 1
    omega
  | succ d ih =>
    intro i h hb
    have hi : i < l.length := by omega
    simp only [hibernacleref09_Bare.l0]
    rw [if_pos (by omega), if_pos (by omega), rd42 l i hi, wrapS i (by omega)]
    by_cases e : i = bare l
    · have : l[i].f0 = false := by subst e; exact bare_at hi
      rw [if_neg (by simp [this]), e]
    · have : l[i].f0 = true := bare_before (by omega)
      rw [if_pos this]
      exact ih (i + 1) (by omega) (by omega)
theorem bare_some (l : List S42) (hl : l.length ≤ 1000000) (k : Nat) (hk : l.length < k) : hibernacleref09_Bare.f k l = some ((bare l : Nat) : Int) :=
  up (f := fun k => hibernacleref09_Bare.f k l) (fun k => hibernacleref09_Bare.mono l k) (k := l.length + 1) (bare_from l hl l.length 0 (by omega) (Nat.zero_le _)) hk
def setAt (l : List S42) (i : Nat) (x : S42) : List S42 := if i = l.length then l ++ [x] else l.set i x
theorem with_some (l : List S42) (hl : l.length ≤ 1000000) (i : Nat) (hi : i ≤ l.length) (b : Bool) (s : ByteArray) : hibernacleref09_with.f l (i : Int) b s = some (setAt l i ⟨b, s⟩) := by
  unfold hibernacleref09_with.f setAt
  rw [if_pos (by simp; omega)]
  simp only [Option.bind_some, List.nil_append]
  by_cases e : i = l.length
  · rw [if_pos (by omega), if_pos (by omega), if_pos e]
  · rw [if_neg (by omega), if_pos (by omega), if_pos (by omega), if_neg e, Int.toNat_natCast]
theorem setAt_len (l : List S42) (i : Nat) (x : S42) : (setAt l i x).length = if i = l.length then l.length + 1 else l.length := by
  unfold setAt; split <;> simp
/-- How long a record may be. -/
def room (l : List S42) : Int := if bare l = 64 then -1 else max (-1) (min (512 - (need l : Int) - (if bare l = l.length then 2 else 0)) 480)
theorem setAt_need {l : List S42} (h : Inv l) (s : ByteArray) : need (setAt l (bare l) ⟨true, s⟩) = need l + (if bare l = l.length then 2 else 0) + s.size := by
  unfold need setAt
  by_cases e : bare l = l.length
  · rw [if_pos e, if_pos e, szs_append]; simp [szs]; omega
  · have hlt : bare l < l.length := by have := bare_le l; omega
    have h1 := szs_set l (bare l) ⟨true, s⟩ hlt
    have h2 := h.em _ (List.getElem_mem hlt) (bare_at hlt)
    rw [if_neg e, if_neg e, List.length_set]
    simp only at h1
    omega
theorem room_iff {l : List S42} (h : Inv l) (s : ByteArray) (hs : s.size ≤ 480) : ((s.size : Int) ≤ room l ↔ (setAt l (bare l) ⟨true, s⟩).length ≤ 64 ∧ need (setAt l (bare l) ⟨true, s⟩) ≤ 512) := by
  rw [setAt_need h, setAt_len]
  have h1 := h.len
  have h2 := h.nd
  have h3 := bare_le l
  unfold room
  split <;> split <;> omega
def addS (l : List S42) (s : ByteArray) : List S42 × Int × Int := if 480 < s.size then (l, 0, 2) else if (s.size : Int) ≤ room l then (setAt l (bare l) ⟨true, s⟩, (bare l : Int), 0) else (l, 0, 8)
theorem add_some {l : List S42} (h : Inv l) (s : ByteArray) (hz : s.size ≤ 100000) : hibernacleref09_Add.f 80 l s = some (addS l s) := by
  have h1 := h.len
  have h2 := h.nd
  unfold hibernacleref09_Add.f addS
  by_cases e : 480 < s.size
  · rw [if_pos (by omega), if_pos e]
  · have hn := setAt_need h s
    have hl := setAt_len l (bare l) ⟨true, s⟩
    have hr := room_iff h s (by omega)
    have hz2 : szs (setAt l (bare l) ⟨true, s⟩) ≤ need (setAt l (bare l) ⟨true, s⟩) := by unfold need; omega
    have hll : (setAt l (bare l) ⟨true, s⟩).length ≤ 65 := by rw [hl]; split <;> omega
    rw [if_neg (by omega), if_neg e, bare_some l (by omega) 80 (by omega)]
    simp only [Option.bind_some]
    rw [with_some l (by omega) (bare l) (bare_le l)]
    simp only [Option.bind_some]
    by_cases c : (setAt l (bare l) ⟨true, s⟩).length ≤ 64
    · rw [if_neg (by omega), need_some _ (by omega) (by split at hn <;> omega) 80 (by omega)]
      simp only [Option.bind_some]
      by_cases c2 : need (setAt l (bare l) ⟨true, s⟩) ≤ 512
      · rw [if_neg (by omega), if_pos (hr.2 ⟨c, c2⟩)]
      · rw [if_pos (by omega), if_neg (fun h => c2 (hr.1 h).2)]
    · rw [if_pos (by omega), if_neg (fun h => c (hr.1 h).1)]
def hasS (l : List S42) (i : Int) : Bool := decide (0 ≤ i) && (decide (i < (l.length : Int)) && (rd_T42 l i).f0)
theorem hasS_true {l : List S42} {i : Int} (h : hasS l i = true) : 0 ≤ i ∧ i.toNat < l.length ∧ ∀ h', (l[i.toNat]'h').f0 = true := by
  simp only [hasS, Bool.and_eq_true, decide_eq_true_eq] at h
  obtain ⟨h1, h2, h3⟩ := h
  refine ⟨h1, by omega, fun h' => ?_⟩
  have := rd42 l i.toNat h'
  rw [Int.toNat_of_nonneg h1] at this
  rw [← this]; exact h3
theorem hasS_mk {l : List S42} {i : Nat} (h : i < l.length) : hasS l (i : Int) = l[i].f0 := by
  simp only [hasS, rd42 l i h]
  simp [h]
theorem hasS_out {l : List S42} {i : Int} (h : ¬ (0 ≤ i ∧ i < (l.length : Int))) : hasS l i = false := by
  simp only [hasS]
  by_cases h0 : 0 ≤ i
  · have : decide (i < (l.length : Int)) = false := decide_eq_false (fun h1 => h ⟨h0, h1⟩)
    simp [this]
  · simp [h0]
def putS (l : List S42) (i : Int) (s : ByteArray) : List S42 × Int :=
  if hasS l i = false then (l, 5) else if 480 < s.size then (l, 2) else if 512 < need (l.set i.toNat ⟨true, s⟩) then (l, 8) else (l.set i.toNat ⟨true, s⟩, 0)
theorem put_some {l : List S42} (h : Inv l) (i : Int) (s : ByteArray) (hz : s.size ≤ 100000) : hibernacleref09_Put.f 80 l i s = some (putS l i s) := by
  have h1 := h.len
  have h2 := h.nd
  have key : ∀ b : Bool, (b = true → 0 ≤ i ∧ i.toNat < l.length) → hibernacleref09_Put.j0 80 l i s (!b) = some (if b = false then (l, 5) else if 480 < s.size then (l, 2) else if 512 < need (l.set i.toNat ⟨true, s⟩) then (l, 8) else (l.set i.toNat ⟨true, s⟩, 0)) := by
    intro b hb
    simp only [hibernacleref09_Put.j0]
    cases b with
    | false => simp
    | true =>
      obtain ⟨a1, a2⟩ := hb rfl
      simp only [Bool.not_true, Bool.false_eq_true, if_false]
      by_cases e : 480 < s.size
      · rw [if_pos (by omega), if_pos e]; rfl
      · have hw := with_some l (by omega) i.toNat (by omega) true s
        rw [Int.toNat_of_nonneg a1, show setAt l i.toNat ⟨true, s⟩ = l.set i.toNat ⟨true, s⟩ by unfold setAt; rw [if_neg (by omega)]] at hw
        have hset := szs_set l i.toNat ⟨true, s⟩ a2
        have hle : szs (l.set i.toNat ⟨true, s⟩) ≤ 600000 := by
          have : szs l ≤ 512 := by unfold need at h2; omega
          simp only at hset
          omega
        rw [if_neg (by omega), hw]
        simp only [Option.bind_some]
        rw [need_some _ (by rw [List.length_set]; omega) (by omega) 79 (by rw [List.length_set]; omega)]
        simp only [Option.bind_some]
        by_cases c : 512 < need (l.set i.toNat ⟨true, s⟩)
        · rw [if_pos (by omega), if_neg e, if_pos c]; rfl
        · rw [if_neg (by omega), if_neg e, if_neg c]; rfl
  unfold hibernacleref09_Put.f putS
  by_cases a : i < 0
  · rw [if_pos a, hasS_out (by omega)]; exact key false (fun h => by cases h)
  · by_cases b : i ≥ (l.length : Int)
    · rw [if_neg a, if_pos b, hasS_out (by omega)]; exact key false (fun h => by cases h)
    · rw [if_neg a, if_neg b, if_pos (by omega), if_pos (by omega), show hasS l i = (rd_T42 l i).f0 by unfold hasS; rw [decide_eq_true (show 0 ≤ i by omega), decide_eq_true (show i < (l.length : Int) by omega)]; rfl]
      exact key _ (fun _ => by omega)
def trim (l : List S42) : List S42 := (l.reverse.dropWhile (fun x => !x.f0)).reverse
theorem trim_snoc (l : List S42) (x : S42) : trim (l ++ [x]) = if x.f0 = true then l ++ [x] else trim l := by
  unfold trim
  rw [List.reverse_append]
  simp only [List.reverse_cons, List.reverse_nil, List.nil_append, List.singleton_append, List.dropWhile_cons]
  cases x.f0 <;> simp
theorem trim_some (d : Nat) : ∀ (k : Nat) (l : List S42), l.length = d → d < k → d ≤ 1000000 → hibernacleref09_Drop.l0 k l = some (trim l, true) := by
  induction d with
  | zero =>
    intro k l hl hk _
    obtain ⟨k, rfl⟩ : ∃ m, k = m + 1 := ⟨k - 1, by omega⟩
    obtain rfl : l = [] := List.eq_nil_of_length_eq_zero hl
    simp only [hibernacleref09_Drop.l0]
    rw [if_neg (by simp)]; rfl
  | succ d ih =>
    intro k l hl hk hd
    obtain ⟨k, rfl⟩ : ∃ m, k = m + 1 := ⟨k - 1, by omega⟩
    have hdl : d < l.length := by omega
    have hs : l = l.take d ++ [l[d]] := by
      rw [← List.take_succ_eq_append_getElem hdl, List.take_of_length_le (by omega)]
    simp only [hibernacleref09_Drop.l0]
    rw [show wrap64 ((l.length : Int) - 1) = (d : Int) by unfold wrap64; omega, if_pos (by omega), if_pos (by omega), if_pos (by omega), rd42 l d hdl]
    have ht := trim_snoc (l.take d) l[d]
    rw [← hs] at ht
    by_cases c : l[d].f0 = true
    · rw [if_pos c, ht, if_pos c]
    · rw [if_neg c, if_pos (by omega), Int.toNat_natCast, ih k (l.take d) (by simp; omega) (by omega) (by omega), ht, if_neg c]
def dropS (l : List S42) (i : Int) : List S42 × Bool := if hasS l i = false then (l, false) else (trim (l.set i.toNat ⟨false, ⟨#[]⟩⟩), true)
theorem drop_some {l : List S42} (h : Inv l) (i : Int) : hibernacleref09_Drop.f 80 l i = some (dropS l i) := by
  have h1 := h.len
  have key : ∀ b : Bool, (b = true → 0 ≤ i ∧ i.toNat < l.length) → hibernacleref09_Drop.j0 80 l i (!b) = some (if b = false then (l, false) else (trim (l.set i.toNat ⟨false, ⟨#[]⟩⟩), true)) := by
    intro b hb
    simp only [hibernacleref09_Drop.j0]
    cases b with
    | false => simp
    | true =>
      obtain ⟨a1, a2⟩ := hb rfl
      have hw := with_some l (by omega) i.toNat (by omega) false ⟨#[]⟩
      rw [Int.toNat_of_nonneg a1, show setAt l i.toNat ⟨false, ⟨#[]⟩⟩ = l.set i.toNat ⟨false, ⟨#[]⟩⟩ by unfold setAt; rw [if_neg (by omega)]] at hw
      simp only [Bool.not_true, Bool.false_eq_true, if_false]
      rw [hw]
      simp only [Option.bind_some]
      rw [trim_some l.length 79 _ (by rw [List.length_set]) (by omega) (by omega)]
      rfl
  unfold hibernacleref09_Drop.f dropS
  by_cases a : i < 0
  · rw [if_pos a, hasS_out (by omega)]; exact key false (fun h => by cases h)
  · by_cases b : i ≥ (l.length : Int)
    · rw [if_neg a, if_pos b, hasS_out (by omega)]; exact key false (fun h => by cases h)
    · rw [if_neg a, if_neg b, if_pos (by omega), if_pos (by omega), show hasS l i = (rd_T42 l i).f0 by unfold hasS; rw [decide_eq_true (show 0 ≤ i by omega), decide_eq_true (show i < (l.length : Int) by omega)]; rfl]
      exact key _ (fun _ => by omega)
/-! The steps keep what is told of the slots. -/
theorem inv_nil : Inv [] := ⟨by simp, by simp [need, szs], fun x h => by simp at h⟩
theorem mem_setAt {l : List S42} {i : Nat} {x y : S42} (h : y ∈ setAt l i x) : y = x ∨ y ∈ l := by
  unfold setAt at h
  split at h
  · rcases List.mem_append.1 h with h | h
    · exact .inr h
    · exact .inl (by simpa using h)
  · rcases List.mem_or_eq_of_mem_set h with h | h
    · exact .inr h
    · exact .inl h
theorem inv_add {l : List S42} (h : Inv l) (s : ByteArray) : Inv (addS l s).1 := by
  unfold addS
  split
  · exact h
  · split
    · rename_i c1 c2
      obtain ⟨a, b⟩ := (room_iff h s (by omega)).1 c2
      refine ⟨a, b, fun x hx hf => ?_⟩
      rcases mem_setAt hx with rfl | hx
      · cases hf
      · exact h.em x hx hf
    · exact h
theorem inv_put {l : List S42} (h : Inv l) (i : Int) (s : ByteArray) : Inv (putS l i s).1 := by
  unfold putS
  split
  · exact h
  · split
    · exact h
    · split
      · exact h
      · rename_i c4
        refine ⟨by rw [List.length_set]; exact h.len, Nat.le_of_not_lt c4, fun x hx hf => ?_⟩
        rcases List.mem_or_eq_of_mem_set hx with hx | rfl
        · exact h.em x hx hf
        · cases hf
theorem trim_take (l : List S42) : ∃ n, n ≤ l.length ∧ trim l = l.take n := by
  have : ∀ d (l : List S42), l.length = d → ∃ n, n ≤ l.length ∧ trim l = l.take n := by
    intro d
    induction d with
    | zero =>
      intro l hl
      obtain rfl : l = [] := List.eq_nil_of_length_eq_zero hl
      exact ⟨0, Nat.le_refl _, rfl⟩
    | succ d ih =>
      intro l hl
      have hdl : d < l.length := by omega
      have hs : l = l.take d ++ [l[d]] := by
        rw [← List.take_succ_eq_append_getElem hdl, List.take_of_length_le (by omega)]
      have ht := trim_snoc (l.take d) l[d]
      rw [← hs] at ht
      by_cases c : l[d].f0 = true
      · rw [if_pos c] at ht
        exact ⟨l.length, Nat.le_refl _, by rw [List.take_length]; exact ht⟩
      · rw [if_neg c] at ht
        obtain ⟨n, h1, h2⟩ := ih (l.take d) (by simp; omega)
        refine ⟨n, by simp at h1; omega, ?_⟩
        rw [ht, h2, List.take_take]
        congr 1
        simp at h1
        omega
  exact this l.length l rfl
theorem inv_drop {l : List S42} (h : Inv l) (i : Int) : Inv (dropS l i).1 := by
  unfold dropS
  split
  · exact h
  · rename_i c
    obtain ⟨h0, h1, h2⟩ := hasS_true (by simpa using c)
    obtain ⟨n, hn, ht⟩ := trim_take (l.set i.toNat ⟨false, ⟨#[]⟩⟩)
    have hset := szs_set l i.toNat ⟨false, ⟨#[]⟩⟩ h1
    have h3 := szs_take_le (l.set i.toNat ⟨false, ⟨#[]⟩⟩) n
    have h4 := h.nd
    have h5 := h.len
    have hz : (⟨#[]⟩ : ByteArray).size = 0 := rfl
    rw [List.length_set] at hn
    simp only [ht]
    refine ⟨by rw [List.length_take, List.length_set]; omega, ?_, fun x hx hf => ?_⟩
    · unfold need at h4 ⊢
      rw [List.length_take, List.length_set]
      simp only [hz] at hset
      omega
    · rcases List.mem_or_eq_of_mem_set (List.mem_of_mem_take hx) with hx | rfl
      · exact h.em x hx hf
      · rfl
end Go.Proofs.Ytooejjjogjfniaa
