/- Small words on strings: a string's bytes in memory. Over any program. -/
import Derived.Test.YtopfaafgfgjfaaaMem
import Derived.Lib.ConvBytes
set_option linter.unusedVariables false
set_option linter.unusedSimpArgs false
namespace Go.Proofs.Ytopfaafgfgjfaaa
open Go.RowKit Go.Proofs.YtopfaafgfgjfaaaW.PrintWords
/-- A string's bytes as numbers. -/
def bys (s : ByteArray) : List Int := s.data.toList.map (fun b => (b.toNat : Int))
theorem bys_length (s : ByteArray) : (bys s).length = s.size := by simp [bys]
theorem bys_getD (s : ByteArray) (j : Nat) (h : j < s.size) : (bys s).getD j 0 = bt s (j : Int) := by
  have h' : j < s.data.size := h
  simp [bys, bt, List.getD_eq_getElem?_getD, h', h]
  rfl
theorem conv_str {P : Program} (w : World) (src dst e : TypeId) (s : ByteArray) {u : TypeDesc}
    (hs : P.underlying src = some u) (hd : P.underlying dst = some (.slice e)) (he : P.underlying e = some (.int .u8)) (hm : s.size ≤ 9223372036854775807) :
    ∃ w1 c, (convert src dst (.string s)).run P w = .ok (.slice (some ⟨w.heap.size, 0, none⟩) s.size c) w1 ∧ Mod [] w w1 ∧ s.size ≤ c ∧ ReadsInt w1 .u8 (some ⟨w.heap.size, 0, none⟩) s.size (bys s) ∧ w1.heap.size = w.heap.size + 1 := by
  refine ⟨_, _, Lib.run_convert_string_bytes w src dst e s hs hd he, ⟨rfl, rfl, rfl, by rw [Lib.bytesWorld_size]; omega, fun k hk _ => Lib.bytesWorld_at_old w e s k hk⟩, ?_, ⟨bys_length s, hm, fun _ => ⟨_, rfl, fun j hj => ?_⟩⟩, Lib.bytesWorld_size w e s⟩
  · exact grownCap_ge w s.size 0 e
  · rw [add_plain]
    refine (Lib.bytesWorld_cell w e s j hj).trans ?_
    congr 2
    simp [bys, List.getD_eq_getElem?_getD, hj]
theorem str_append (a b : List Int) : strOfNums (a ++ b) = strOfNums a ++ strOfNums b := by
  have h : (strOfNums (a ++ b)).data = (strOfNums a ++ strOfNums b).data := by simp [strOfNums, ByteArray.data_append]
  exact ByteArray.ext h
theorem str_size (a : List Int) : (strOfNums a).size = a.length := by
  show ((a.map fun n => UInt8.ofNat n.toNat).toArray).size = a.length
  simp
theorem size_data (s : ByteArray) : s.data.toList.length = s.size := by rw [Array.length_toList]; rfl
theorem data_inj {a b : ByteArray} (h : a.data.toList = b.data.toList) : a = b := ByteArray.ext (by rw [← Array.toList_inj]; exact h)
theorem data_app (a b : ByteArray) : (a ++ b).data.toList = a.data.toList ++ b.data.toList := by simp [ByteArray.data_append]
theorem size_app (a b : ByteArray) : (a ++ b).size = a.size + b.size := ByteArray.size_append
theorem data_ext (s : ByteArray) (i j : Nat) : (s.extract i j).data.toList = (s.data.toList.take j).drop i := by
  rw [ByteArray.data_extract, Array.toList_extract, List.extract_eq_take_drop, ← List.drop_take]
theorem toList_eq_data (s : ByteArray) : s.toList = s.data.toList := ByteArray.toList_eq s
theorem isEmpty_of (s : ByteArray) (h : s.size ≠ 0) : s.toList.isEmpty = false := by
  rw [toList_eq_data, ← Bool.not_eq_true, List.isEmpty_iff]
  intro e
  have := size_data s
  rw [e] at this
  simp at this
  omega
theorem nil_of (s : ByteArray) (h : s.size = 0) : s.toList = [] := by
  rw [toList_eq_data]
  exact List.eq_nil_of_length_eq_zero (by rw [size_data]; exact h)
end Go.Proofs.Ytopfaafgfgjfaaa
