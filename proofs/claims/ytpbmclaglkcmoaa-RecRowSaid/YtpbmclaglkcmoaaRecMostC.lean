import Derived.Test.YtpbmclaglkcmoaaRecOne
namespace Go.Proofs.Ytpbmclaglkcmoaa
open Go.RowKit
set_option linter.unusedVariables false
set_option linter.unusedSimpArgs false

def MostPost (log : Int) (n : Nat) : Prop := n ≤ 60 ∧ (n = 0 ∨ secN n ≤ (log - 1) / 2) ∧ (n = 60 ∨ (log - 1) / 2 < secN ((n : Int) + 1))

set_option maxRecDepth 100000 in
theorem most_calls (log : Int) (w : World) (h1 : 1 ≤ log) (h2 : log ≤ 100000) :
    Calls Try.prog 45 #[.int .i64 log] w fun r w' => ∃ n : Nat, MostPost log n ∧ r = .returned (.int .i64 n) ∧ w = w' := by
  obtain ⟨H, hH⟩ : ∃ H : Int, (log - 1) / 2 = H := ⟨_, rfl⟩
  have hq : (log - 1).tdiv 2 = H := by rw [Int.tdiv_eq_ediv_of_nonneg (by omega)]; exact hH
  have hw : wrap64 H = H := by unfold wrap64; omega
  have HH := Lib.hid hH
  clear hH
  go_enter Try.func45, Try.ntmps45
  go_wp2_with fail
  go_loopw [3] (fun s3 wr => ∃ n : Nat, n ≤ 60 ∧ s3 = .int .i64 n ∧ Hid (n = 0 ∨ secN n ≤ H) ∧ w = wr) (fun s3 _ => 60 - (intOf s3).toNat)
  case atStart => exact ⟨0, by decide, rfl, .inl rfl, rfl⟩
  case round =>
    obtain ⟨n, hn, rfl, HN, rfl⟩ := hrel
    by_cases hlt : n < 60
    · have hlt' : (n : Int) < 60 := by omega
      obtain ⟨S, hS⟩ : ∃ S, S = secN ((n : Int) + 1) := ⟨_, rfl⟩
      have HS := Lib.hid hS
      by_cases hS2 : S ≤ H
      · have hd : decide (S ≤ H) = true := decide_eq_true hS2
        have HS2 := Lib.hid hS2
        clear hS
        go_wp2_with fail
        refine (sectors_calls _ _ (by omega) (by omega)).mono ?_
        rintro r w4 ⟨rfl, rfl⟩
        rw [← HS.out]
        go_wp2
        go_roundw
        case rel => exact ⟨n + 1, by omega, by go_num, .inr (by have := HS.out; have := HS2.out; rw [Int.natCast_succ]; omega), trivial⟩
        case measure => simp [intOf]; omega
      · have HS2 := Lib.hid hS2
        clear hS
        go_wp2_with fail
        refine (sectors_calls _ _ (by omega) (by omega)).mono ?_
        rintro r w4 ⟨rfl, rfl⟩
        rw [← HS.out]
        go_wp2
        go_ret
        refine ⟨n, ⟨hn, ?_, ?_⟩, rfl, rfl⟩
        · rw [HH.out]; exact HN.out
        · rw [HH.out]; exact .inr (by have := HS.out; have := HS2.out; omega)
    · have hn60 : n = 60 := by omega
      subst hn60
      go_wp2
      go_ret
      refine ⟨60, ⟨hn, ?_, .inl rfl⟩, rfl, rfl⟩
      rw [HH.out]; exact HN.out

end Go.Proofs.Ytpbmclaglkcmoaa
