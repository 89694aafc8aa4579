import Derived.Test.YtpbmclaglkcmoaaRecAlive
namespace Go.Proofs.Ytpbmclaglkcmoaa
open Go.RowKit
set_option linter.unusedVariables false
set_option linter.unusedSimpArgs false

set_option maxHeartbeats 4000000 in
set_option maxRecDepth 100000 in
theorem recMost_calls (log : Int) (w : World) (hn : (Lit.int .i64 log).wf = true) :
    Calls Try.prog 12 #[.int .i64 log] w fun r w' => r = .returned (.bool true) ∧ Below w.heap.size w w' := by
  have HN := Lib.hid hn
  clear hn
  by_cases h1 : log < 8
  · go_enter Try.func12, Try.ntmps12
    go_wp2_with fail
    refine (recAlive_calls _).mono ?_
    rintro r w1 ⟨rfl, hb⟩
    go_wp2
    go_ret
    exact ⟨rfl, hb⟩
  by_cases h2 : 256 < log
  · go_enter Try.func12, Try.ntmps12
    go_wp2_with fail
    refine (recAlive_calls _).mono ?_
    rintro r w1 ⟨rfl, hb⟩
    go_wp2
    go_ret
    exact ⟨rfl, hb⟩
  go_enter Try.func12, Try.ntmps12
  go_wp2_with fail
  refine (most_calls log _ (by omega) (by omega)).mono ?_
  rintro r w1 ⟨n, hp, rfl, rfl⟩
  obtain ⟨hn60, hle, hgt⟩ := hp
  have hn1 : 1 ≤ n := by
    rcases Nat.eq_zero_or_pos n with h0 | h0
    · subst h0
      rcases hgt with h | h
      · cases h
      · have e1 : secN ((0 : Nat) + 1) = 3 := by decide
        rw [e1] at h
        omega
    · exact h0
  obtain ⟨S, hS⟩ : ∃ S, S = secN (n : Int) := ⟨_, rfl⟩
  obtain ⟨S1, hS1⟩ : ∃ S1, S1 = secN ((n : Int) + 1) := ⟨_, rfl⟩
  rw [← hS] at hle
  rw [← hS1] at hgt
  have hS2 : 2 * S ≤ log - 1 := by rcases hle with h | h <;> omega
  have hS0 : 0 ≤ S ∧ S ≤ 200 := by rw [hS]; unfold secN; split <;> omega
  have hS10 : 0 ≤ S1 ∧ S1 ≤ 200 := by rw [hS1]; unfold secN; split <;> omega
  have hgt' : n = 60 ∨ log - 1 < 2 * S1 := by rcases hgt with h | h <;> omega
  have HS := Lib.hid hS
  have HS1 := Lib.hid hS1
  clear hS hS1 hle hgt
  go_wp2_with fail
  refine (recAlive_calls _).mono ?_
  rintro r w1 ⟨rfl, hb⟩
  have hn1' : (1 : Int) ≤ (n : Int) := by omega
  have hn60' : (n : Int) ≤ 60 := by omega
  go_wp2_with fail
  refine (sectors_calls _ _ (by omega) (by omega)).mono ?_
  rintro r w7 ⟨rfl, rfl⟩
  rw [← HS.out]
  by_cases h60 : n = 60
  · subst h60
    go_wp2
    go_ret
    exact ⟨rfl, hb⟩
  · have hne : ((n : Int) == 60) = false := beq_eq_false_iff_ne.2 (by omega)
    have hgt2 : log - 1 < 2 * S1 := by exact hgt'.resolve_left h60
    clear hgt'
    go_wp2_with fail
    refine (sectors_calls _ _ (by omega) (by omega)).mono ?_
    rintro r w8 ⟨rfl, rfl⟩
    rw [← HS1.out]
    go_wp2
    go_ret
    exact ⟨rfl, hb⟩

end Go.Proofs.Ytpbmclaglkcmoaa
