import Derived.Test.YtpbmclaglkcmoaaSumAlive
import Derived.OpenShut
namespace Go.Proofs.Ytpbmclaglkcmoaa
open Go.RowKit
set_option linter.unusedVariables false

theorem seal_at (s : ByteArray) (W : World) (hs : s.size ≤ 3000) :
    Calls Try.prog 36 #[.string s] W fun r w' => r = .returned (.string (bstr (seal4 s.data.toList ++ s.data.toList))) ∧ Below W.heap.size W w' := seal_calls s W (by omega)

theorem open_sealed (s : ByteArray) (W : World) (hs : s.size ≤ 3000) :
    Calls Try.prog 28 #[.string (bstr (seal4 s.data.toList ++ s.data.toList))] W fun r w' => r = .returned (.tuple #[.string s, .int .i64 0]) ∧ Below W.heap.size W w' := by
  have h := open_calls (bstr (seal4 s.data.toList ++ s.data.toList)) W (by rw [bstr_size, List.length_append, seal4_length, toList_length]; omega)
  rw [bstr_toList, openB_seal] at h
  exact h

theorem stamp_bad (s : ByteArray) (n : Int) (W : World) (hs : s.size ≤ 3000) (hn : n ≤ 4000) (hb : n < 4 ∨ n - 4 < (s.size : Int)) :
    ∃ e : Int, e ≠ 0 ∧ Calls Try.prog 32 #[.string s, .int .i64 n] W fun r w' => r = .returned (.tuple #[.string { data := #[] }, .int .i64 e]) ∧ Below W.heap.size W w' := by
  have h := stamp_calls s n W (by omega)
  by_cases h1 : n < 4
  · have hd : stampB s.data.toList n = ([], 1) := by unfold stampB; rw [if_pos (.inl h1)]
    rw [hd] at h
    exact ⟨1, by decide, h⟩
  · have hd : stampB s.data.toList n = ([], 2) := by unfold stampB; rw [if_neg (by omega), if_pos (by rw [toList_length]; omega)]
    rw [hd] at h
    exact ⟨2, by decide, h⟩

/-- What is stamped: the bytes and bytes 0. -/
def padB (s : ByteArray) (n : Int) : List UInt8 := s.data.toList ++ List.replicate ((n - 4).toNat - s.size) 0

theorem padB_length (s : ByteArray) (n : Int) (hn : 4 ≤ n) (h : (s.size : Int) ≤ n - 4) : ((padB s n).length : Int) = n - 4 := by
  unfold padB
  rw [List.length_append, List.length_replicate, toList_length]
  omega

theorem padB_zero (s : ByteArray) (n : Int) (i : Nat) (h : i < (padB s n).length) (hi : s.size ≤ i) : (padB s n)[i] = 0 := by
  unfold padB at h ⊢
  rw [List.getElem_append_right (by rw [toList_length]; exact hi)]
  simp

theorem stamp_good (s : ByteArray) (n : Int) (W : World) (hs : s.size ≤ 3000) (hn : n ≤ 4000) (h4 : 4 ≤ n) (hb : (s.size : Int) ≤ n - 4) :
    Calls Try.prog 32 #[.string s, .int .i64 n] W fun r w' => r = .returned (.tuple #[.string (bstr (padB s n ++ seal4 (padB s n))), .int .i64 0]) ∧ Below W.heap.size W w' := by
  have h := stamp_calls s n W (by omega)
  have hd : stampB s.data.toList n = (padB s n ++ seal4 (padB s n), 0) := by
    unfold stampB
    rw [if_neg (by omega), if_neg (by rw [toList_length]; omega), toList_length]
    rfl
  rw [hd] at h
  exact h

theorem read_stamped (l : List UInt8) (W : World) (hs : l.length ≤ 4000) :
    Calls Try.prog 30 #[.string (bstr (l ++ seal4 l))] W fun r w' => r = .returned (.tuple #[.string (bstr l), .int .i64 0]) ∧ Below W.heap.size W w' := by
  have h := read_calls (bstr (l ++ seal4 l)) W (by rw [bstr_size, List.length_append, seal4_length]; omega)
  rw [bstr_toList, readB_stamp] at h
  exact h

set_option maxHeartbeats 2000000 in
set_option maxRecDepth 100000 in
theorem sumBack_calls (s : ByteArray) (n : Int) (w : World) (hs : s.size ≤ 140737488351232) (hn : (Lit.int .i64 n).wf = true) :
    Calls Try.prog 8 #[.string s, .int .i64 n] w fun r w' => r = .returned (.bool true) ∧ Below w.heap.size w w' := by
  by_cases h1 : 3000 < s.size
  · go_enter Try.func8, Try.ntmps8
    go_wp2_with fail
    refine (sumAlive_calls _).mono ?_
    rintro e w1 ⟨rfl, hb1⟩
    go_wp2
    go_ret
    exact ⟨rfl, hb1⟩
  by_cases h2 : 4000 < n
  · go_enter Try.func8, Try.ntmps8
    go_wp2_with fail
    refine (sumAlive_calls _).mono ?_
    rintro e w1 ⟨rfl, hb1⟩
    go_wp2
    go_ret
    exact ⟨rfl, hb1⟩
  have hn' := Go.bounds_i64 hn
  have hs3 : s.size ≤ 3000 := by omega
  clear hn hs
  by_cases h3 : n < 4 ∨ n - 4 < (s.size : Int)
  · go_enter Try.func8, Try.ntmps8
    go_wp2_with fail
    refine (seal_at _ _ hs3).mono ?_
    rintro e w1 ⟨rfl, hb1⟩
    go_wp2_with fail
    refine (open_sealed _ _ hs3).mono ?_
    rintro e w2 ⟨rfl, hb2⟩
    go_wp2_with fail
    obtain ⟨q, hq, hst⟩ := stamp_bad s n w2 hs3 (by omega) h3
    refine hst.mono ?_
    rintro e w3 ⟨rfl, hb3⟩
    have hq2 : (q != 0) = true := bne_iff_ne.2 hq
    clear hst
    go_wp2_with fail
    refine (sumAlive_calls _).mono ?_
    rintro e w4 ⟨rfl, hb4⟩
    go_wp2
    all_goals
      go_ret
      refine ⟨?_, bl (bl (bl hb1 hb2) hb3) hb4⟩
      first | rfl | (simp; omega)
  · have h4 : 4 ≤ n := by omega
    have hsn : (s.size : Int) ≤ n - 4 := by omega
    have hpl := padB_length s n h4 hsn
    obtain ⟨k, hk⟩ := Int.eq_ofNat_of_zero_le (show 0 ≤ n - 4 by omega)
    obtain rfl : n = (k : Int) + 4 := by omega
    have hsk : s.size ≤ k := by omega
    have hk4 : k ≤ 3996 := by omega
    have hpk : (padB s (k + 4)).length = k := by omega
    have hpz : (bstr (padB s (k + 4))).size = k := hpk
    have hz0 : ∀ i (h : i < (bstr (padB s (k + 4))).size), s.size ≤ i → (bstr (padB s (k + 4)))[i] = 0 := by
      intro i h hi
      exact padB_zero s (k + 4) i h hi
    have hfin : (((bstr (padB s (k + 4))).extract 0 s.size).toList == s.toList) = true := by
      rw [ByteArray.toList_eq, ByteArray.toList_eq, ext_take]
      apply beq_iff_eq.2
      show List.take s.size (padB s (k + 4)) = _
      unfold padB
      rw [List.take_left' (toList_length s)]
    have htz : (bstr (padB s (k + 4) ++ seal4 (padB s (k + 4)))).size = k + 4 := by rw [bstr_size, List.length_append, seal4_length, hpk]
    have hst := Lib.hid (fun W => stamp_good s (k + 4) W hs3 (by omega) h4 hsn)
    have hrd := Lib.hid (fun W => read_stamped (padB s (k + 4)) W (by omega))
    generalize bstr (padB s (k + 4) ++ seal4 (padB s (k + 4))) = t at htz hst hrd
    generalize bstr (padB s (k + 4)) = p at hpz hz0 hfin hrd
    have HZ0 := Lib.hid hz0
    clear hz0 hpk hpl hk h3 h1
    go_enter Try.func8, Try.ntmps8
    go_wp2_with fail
    refine (seal_at _ _ hs3).mono ?_
    rintro e w1 ⟨rfl, hb1⟩
    go_wp2_with fail
    refine (open_sealed _ _ hs3).mono ?_
    rintro e w2 ⟨rfl, hb2⟩
    go_wp2_with fail
    refine (hst.out _).mono ?_
    rintro e w3 ⟨rfl, hb3⟩
    go_wp2_with fail
    refine (hrd.out _).mono ?_
    rintro e w4 ⟨rfl, hb4⟩
    go_wp2_with fail
    go_loop [11] (fun s11 => ∃ i : Nat, s.size ≤ i ∧ i ≤ k ∧ s11 = .int .i64 i) (fun s11 => k - (intOf s11).toNat)
    case atStart => exact ⟨s.size, Nat.le_refl _, hsk, rfl⟩
    case round =>
      obtain ⟨i, hi1, hi2, rfl⟩ := hrel
      by_cases hlt : i < k
      · have hlt2 : i < p.size := by omega
        have hz := HZ0.out i hlt2 hi1
        go_wp2
        go_round
        case rel => exact ⟨i + 1, by omega, by omega, by go_num⟩
        case measure => simp [intOf]; omega
      · go_wp2_with fail
        refine (sumAlive_calls _).mono ?_
        rintro e w5 ⟨rfl, hb5⟩
        go_wp2
        go_ret
        exact ⟨rfl, bl (bl (bl (bl hb1 hb2) hb3) hb4) hb5⟩

end Go.Proofs.Ytpbmclaglkcmoaa
