import Derived.Test.YtpbmclaglkcmoaaDoorFoot
namespace Go.Proofs.YtpbmclaglkcmoaaDoor
open Go.RowKit
set_option linter.unusedVariables false

theorem take_snoc8 (s : ByteArray) (k : Nat) (h : k < s.size) : s.data.toList.take (k + 1) = s.data.toList.take k ++ [s[k]] := by
  rw [List.take_succ_eq_append_getElem (by simpa using h)]; rfl

theorem bapp (q : List UInt8) (s : ByteArray) : (⟨q.toArray⟩ : ByteArray) ++ s = ⟨(q ++ s.data.toList).toArray⟩ := by
  apply ByteArray.ext
  rw [ByteArray.data_append]
  apply Array.ext'
  simp

def bstr (l : List UInt8) : ByteArray := ⟨l.toArray⟩

theorem toList_length (s : ByteArray) : s.data.toList.length = s.size := by rw [Array.length_toList]; rfl

theorem ext_drop (s : ByteArray) (k : Nat) : (s.extract k s.size).data.toList = s.data.toList.drop k := by
  rw [ByteArray.data_extract, Array.toList_extract]
  apply List.take_of_length_le
  rw [List.length_drop, toList_length]
  omega

theorem ext_take (s : ByteArray) (k : Nat) : (s.extract 0 k).data.toList = s.data.toList.take k := by
  rw [ByteArray.data_extract, Array.toList_extract]
  simp

theorem bstr_eq (s : ByteArray) (l : List UInt8) (h : s.data.toList = l) : s = bstr l := by
  subst h
  rfl

theorem bapp2 (s : ByteArray) (q : List UInt8) : s ++ bstr q = bstr (s.data.toList ++ q) := by
  apply ByteArray.ext
  rw [ByteArray.data_append]
  apply Array.ext'
  simp [bstr]

theorem bstr_toList (l : List UInt8) : (bstr l).data.toList = l := rfl
theorem bstr_size (l : List UInt8) : (bstr l).size = l.length := rfl

end Go.Proofs.YtpbmclaglkcmoaaDoor
