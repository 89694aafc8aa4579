import Derived.Test.YtpbmclaglkcmoaaSum
namespace Go.Proofs.Ytpbmclaglkcmoaa
open Go.RowKit
set_option linter.unusedVariables false

/-- Read: what it tells. -/
def readB (b : List UInt8) : List UInt8 × Int :=
  if b.length < 4 then ([], 5) else if b.drop (b.length - 4) = seal4 (b.take (b.length - 4)) then (b.take (b.length - 4), 0) else ([], 6)

set_option maxHeartbeats 1000000 in
theorem read_calls (s : ByteArray) (w : World) (hs : s.size ≤ 140737488355328) :
    Calls Try.prog 30 #[.string s] w fun r w' => r = .returned (.tuple #[.string (bstr (readB s.data.toList).1), .int .i64 (readB s.data.toList).2]) ∧ Below w.heap.size w w' := by
  by_cases h4 : s.size < 4
  · have hd : readB s.data.toList = ([], 5) := by
      unfold readB
      rw [if_pos (by rw [toList_length]; exact h4)]
    have HD := Lib.hid hd
    clear hd
    go_enter Try.func30, Try.ntmps30
    go_wp2
    go_ret2
    exact ⟨by rw [HD.out]; rfl, Below.refl _ _⟩
  · have h4i : (4 : Int) ≤ s.size := by omega
    obtain ⟨k, hk⟩ : ∃ k, k = s.size - 4 := ⟨_, rfl⟩
    have hks : k ≤ s.size := by omega
    have hsub : (s.size : Int) - 4 = (k : Int) := by omega
    have hex : Hid ((s.extract 0 k).data.toList = s.data.toList.take k) := ext_take s _
    by_cases heq : s.data.toList.drop k = seal4 (s.data.toList.take k)
    · have hd : readB s.data.toList = (s.data.toList.take k, 0) := by
        unfold readB
        rw [toList_length, if_neg h4, ← hk, if_pos heq]
      have HD := Lib.hid hd
      have ht : ((s.extract k s.size).toList == seal4 (s.data.toList.take k)) = true := by
        rw [ByteArray.toList_eq, ext_drop]; exact beq_iff_eq.2 heq
      clear hd heq hk
      generalize List.take k s.data.toList = q at ht HD hex
      go_enter Try.func30, Try.ntmps30
      go_wp2_with fail
      go_region_with (first | (go_at_call 34; (refine (of_at _ _ (s.extract 0 k) q hex.out (by simp; omega) (by exact Lib.cell_of_heap (heap_alloc_new w _) 0)).mono ?_); rintro e w1 ⟨rfl, rfl⟩) | (go_at_call 61; refine (four_crc _ _).mono ?_; rintro e w1 ⟨rfl, hb⟩))
      go_wp2_with fail
      refine (clone_calls _ _ (by simp; omega)).mono ?_
      rintro e w2 ⟨rfl, hb2⟩
      go_wp2
      go_ret2
      refine ⟨by rw [HD.out, bstr_eq _ _ hex.out]; rfl, ?_⟩
      exact (((Below.refl _ w).alloc (Nat.le_refl _) _).drew.trans (hb.mono (by simp))).trans (hb2.mono (by have := hb.size; simp at this; omega))
    · have hd : readB s.data.toList = ([], 6) := by
        unfold readB
        rw [toList_length, if_neg h4, ← hk, if_neg heq]
      have HD := Lib.hid hd
      have ht : ((s.extract k s.size).toList == seal4 (s.data.toList.take k)) = false := by
        rw [ByteArray.toList_eq, ext_drop]; exact beq_eq_false_iff_ne.2 heq
      clear hd heq hk
      generalize List.take k s.data.toList = q at ht HD hex
      go_enter Try.func30, Try.ntmps30
      go_wp2_with fail
      go_region_with (first | (go_at_call 34; (refine (of_at _ _ (s.extract 0 k) q hex.out (by simp; omega) (by exact Lib.cell_of_heap (heap_alloc_new w _) 0)).mono ?_); rintro e w1 ⟨rfl, rfl⟩) | (go_at_call 61; refine (four_crc _ _).mono ?_; rintro e w1 ⟨rfl, hb⟩))
      go_wp2
      go_ret2
      refine ⟨by rw [HD.out]; rfl, ?_⟩
      exact (((Below.refl _ w).alloc (Nat.le_refl _) _).drew.trans (hb.mono (by simp)))

/-- Stamp: what it tells. -/
def stampB (b : List UInt8) (n : Int) : List UInt8 × Int :=
  if n < 4 ∨ 60000 < n then ([], 1) else if n - 4 < b.length then ([], 2)
  else (b ++ List.replicate ((n - 4).toNat - b.length) 0 ++ seal4 (b ++ List.replicate ((n - 4).toNat - b.length) 0), 0)

theorem repeat_zero : ∀ (k : Nat), Lib.repeatL [0] k = List.replicate k 0
  | 0 => rfl
  | k + 1 => by
    rw [List.replicate_succ, ← repeat_zero k]
    rfl

theorem rep_calls (k : Int) (W : World) (hk : 0 ≤ k) (hk2 : k ≤ 60000) :
    Calls Try.prog 63 #[.string { data := #[0] }, .int .i64 k] W fun r w' => r = .returned (.string (bstr (List.replicate k.toNat 0))) ∧ Below W.heap.size W w' := by
  have h := Try.strings_Repeat { data := #[0] } k.toNat W (by omega) (by show 1 * k.toNat ≤ _; omega)
  rw [Int.toNat_of_nonneg hk] at h
  have e : Lib.repeatL (ByteArray.mk #[0]).data.toList k.toNat = List.replicate k.toNat 0 := repeat_zero _
  rw [e] at h
  exact h

set_option maxHeartbeats 1000000 in
theorem stamp_calls (s : ByteArray) (n : Int) (w : World) (hs : s.size ≤ 140737488355328) :
    Calls Try.prog 32 #[.string s, .int .i64 n] w fun r w' => r = .returned (.tuple #[.string (bstr (stampB s.data.toList n).1), .int .i64 (stampB s.data.toList n).2]) ∧ Below w.heap.size w w' := by
  by_cases h1 : n < 4
  · have hd : stampB s.data.toList n = ([], 1) := by unfold stampB; rw [if_pos (.inl h1)]
    have HD := Lib.hid hd
    clear hd
    go_enter Try.func32, Try.ntmps32
    go_wp2
    go_ret2
    exact ⟨by rw [HD.out]; rfl, Below.refl _ _⟩
  by_cases h2 : 60000 < n
  · have hd : stampB s.data.toList n = ([], 1) := by unfold stampB; rw [if_pos (.inr h2)]
    have HD := Lib.hid hd
    clear hd
    go_enter Try.func32, Try.ntmps32
    go_wp2
    go_ret2
    exact ⟨by rw [HD.out]; rfl, Below.refl _ _⟩
  by_cases h3 : n - 4 < (s.size : Int)
  · have hd : stampB s.data.toList n = ([], 2) := by unfold stampB; rw [if_neg (by omega), if_pos (by rw [toList_length]; exact h3)]
    have HD := Lib.hid hd
    clear hd
    go_enter Try.func32, Try.ntmps32
    go_wp2
    go_ret2
    exact ⟨by rw [HD.out]; rfl, Below.refl _ _⟩
  have hd : stampB s.data.toList n = (s.data.toList ++ List.replicate (n - 4 - s.size).toNat 0 ++ seal4 (s.data.toList ++ List.replicate (n - 4 - s.size).toNat 0), 0) := by
    unfold stampB
    rw [if_neg (by omega), if_neg (by rw [toList_length]; exact h3), toList_length, show (n - 4 - (s.size : Int)).toNat = (n - 4).toNat - s.size from by omega]
  have HD := Lib.hid hd
  clear hd
  obtain ⟨k, hk⟩ := Int.eq_ofNat_of_zero_le (show 0 ≤ n - 4 - (s.size : Int) by omega)
  have hk2 : k ≤ 60000 := by omega
  have HK := Lib.hid hk
  have hz : (bstr (List.replicate k 0)).size ≤ 60000 := by rw [bstr_size, List.length_replicate]; exact hk2
  have hss : s.size ≤ 60000 := by omega
  have hz2 : (s ++ bstr (List.replicate k 0)).size ≤ 120000 := by rw [ByteArray.size_append]; omega
  obtain ⟨t, ht⟩ : ∃ t, s ++ bstr (List.replicate k 0) = t := ⟨_, rfl⟩
  rw [ht] at hz2
  have HT := Lib.hid ht
  have h4 : (seal4 t.data.toList).length ≤ 4 := Nat.le_of_eq (seal4_length _)
  go_enter Try.func32, Try.ntmps32
  go_wp2_with fail
  refine (rep_calls k _ (by omega) (by omega)).mono ?_
  rintro e w1 ⟨rfl, hb⟩
  rw [Int.toNat_natCast]
  go_wp2_with fail
  refine (of_at _ _ t _ rfl (by omega) (by exact Lib.cell_of_heap (heap_alloc_new w1 _) 0)).mono ?_
  rintro e w2 ⟨rfl, rfl⟩
  go_wp2_with fail
  refine (four_crc _ _).mono ?_
  rintro e w2 ⟨rfl, hb2⟩
  go_wp2
  go_ret2
  refine ⟨?_, hb.trans ((((Below.refl _ w1).alloc (Nat.le_refl _) _).trans (hb2.mono (by simp))).mono hb.size)⟩
  have et : t.data.toList = s.data.toList ++ List.replicate k 0 := by rw [← HT.out, bapp2]; rfl
  rw [HD.out, HK.out, Int.toNat_natCast, ← et]
  exact congrArg (fun x => Ending.returned (Value.tuple #[Value.string x, Value.int .i64 0])) (bapp2 t (seal4 t.data.toList))

theorem openB_seal (l : List UInt8) : openB (seal4 l ++ l) = (l, 0) := by
  have h4 := seal4_length l
  unfold openB
  rw [if_neg (by simp; omega), List.take_left' h4, List.drop_left' h4, if_pos rfl]

theorem readB_stamp (l : List UInt8) : readB (l ++ seal4 l) = (l, 0) := by
  have h4 := seal4_length l
  have e : (l ++ seal4 l).length - 4 = l.length := by simp; omega
  unfold readB
  rw [if_neg (by simp; omega), e, List.take_left, List.drop_left, if_pos rfl]

end Go.Proofs.Ytpbmclaglkcmoaa
