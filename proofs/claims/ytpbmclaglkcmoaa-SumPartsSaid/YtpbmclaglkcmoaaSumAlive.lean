import Derived.Test.YtpbmclaglkcmoaaSum2
namespace Go.Proofs.Ytpbmclaglkcmoaa
open Go.RowKit
set_option linter.unusedVariables false

theorem crc_check : (crc [49, 50, 51, 52, 53, 54, 55, 56, 57] : Nat) = 3421780262 := by decide +kernel

theorem strs_two (W w : World) (t : TypeId) (a b : ByteArray) : Strs (w.alloc (.cells #[.string a, .string b] t)) (some ⟨w.heap.size, 0, none⟩) [a, b] := strs_new w [a, b] t

theorem of_check (w : World) (t : TypeId) : Calls Try.prog 34 #[.slice (some ⟨w.heap.size, 0, none⟩) 2 2] (w.alloc (.cells #[.string { data := #[49, 50, 51, 52] }, .string { data := #[53, 54, 55, 56, 57] }] t)) fun r w' => r = .returned (.int .u32 3421780262) ∧ w.alloc (.cells #[.string { data := #[49, 50, 51, 52] }, .string { data := #[53, 54, 55, 56, 57] }] t) = w' := by
  have h := of_calls (some ⟨w.heap.size, 0, none⟩) 2 [{ data := #[49, 50, 51, 52] }, { data := #[53, 54, 55, 56, 57] }] _ (strs_two w w t _ _) (by simp) (by
    intro s hs
    simp at hs
    rcases hs with rfl | rfl <;> decide)
  have e : (crc (catL [{ data := #[49, 50, 51, 52] }, { data := #[53, 54, 55, 56, 57] }]) : Nat) = 3421780262 := crc_check
  rw [e] at h
  exact h

theorem alive_seal (W : World) : Calls Try.prog 36 #[.string { data := #[97, 98, 99] }] W fun r w' => r = .returned (.string (bstr (seal4 [97, 98, 99] ++ [97, 98, 99]))) ∧ Below W.heap.size W w' := seal_calls _ W (by decide)

theorem alive_open (W : World) : Calls Try.prog 28 #[.string (bstr (seal4 [97, 98, 99] ++ [97, 98, 99]))] W fun r w' => r = .returned (.tuple #[.string { data := #[97, 98, 99] }, .int .i64 0]) ∧ Below W.heap.size W w' := by
  have h := open_calls (bstr (seal4 [97, 98, 99] ++ [97, 98, 99])) W (by rw [bstr_size, List.length_append, seal4_length]; decide)
  rw [bstr_toList, openB_seal] at h
  exact h

theorem alive_stamp (W : World) : Calls Try.prog 32 #[.string { data := #[97] }, .int .i64 6] W fun r w' => r = .returned (.tuple #[.string (bstr ([97, 0] ++ seal4 [97, 0])), .int .i64 0]) ∧ Below W.heap.size W w' := stamp_calls { data := #[97] } 6 W (by decide)

theorem alive_read (W : World) : Calls Try.prog 30 #[.string (bstr ([97, 0] ++ seal4 [97, 0]))] W fun r w' => r = .returned (.tuple #[.string { data := #[97, 0] }, .int .i64 0]) ∧ Below W.heap.size W w' := by
  have h := read_calls (bstr ([97, 0] ++ seal4 [97, 0])) W (by rw [bstr_size, List.length_append, seal4_length]; decide)
  rw [bstr_toList, readB_stamp] at h
  exact h

set_option maxHeartbeats 1000000 in
theorem sumAlive_calls (w : World) : Calls Try.prog 26 #[] w fun r w' => r = .returned (.bool true) ∧ Below w.heap.size w w' := by
  have hsz : (bstr ([97, 0] ++ seal4 [97, 0])).size = 6 := by rw [bstr_size, List.length_append, seal4_length]; rfl
  go_enter Try.func26, Try.ntmps26
  go_wp2_with fail
  refine (alive_seal _).mono ?_
  rintro e w1 ⟨rfl, hb1⟩
  generalize ha : bstr (seal4 [97, 98, 99] ++ [97, 98, 99]) = A
  go_wp2_with fail
  rw [← ha]
  refine (alive_open _).mono ?_
  rintro e w2 ⟨rfl, hb2⟩
  go_wp2_with fail
  refine (alive_stamp _).mono ?_
  rintro e w3 ⟨rfl, hb3⟩
  generalize hb : bstr ([97, 0] ++ seal4 [97, 0]) = B
  rw [hb] at hsz
  have HB := Lib.hid hb
  clear hb
  go_wp2_with fail
  rw [← HB.out]
  refine (alive_read _).mono ?_
  rintro e w4 ⟨rfl, hb4⟩
  rw [HB.out]
  go_wp2_with fail
  refine (of_check _ _).mono ?_
  rintro e w5 ⟨rfl, rfl⟩
  go_wp2
  go_ret
  exact ⟨rfl, ((((hb1.trans (hb2.mono hb1.size)).trans (hb3.mono (Nat.le_trans hb1.size hb2.size))).trans (hb4.mono (Nat.le_trans hb1.size (Nat.le_trans hb2.size hb3.size)))).alloc (Nat.le_trans hb1.size (Nat.le_trans hb2.size (Nat.le_trans hb3.size hb4.size))) _)⟩

end Go.Proofs.Ytpbmclaglkcmoaa
