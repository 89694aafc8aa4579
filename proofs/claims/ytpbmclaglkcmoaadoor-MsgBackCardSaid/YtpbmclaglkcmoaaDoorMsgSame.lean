import Derived.Test.YtpbmclaglkcmoaaDoorMsgAlive
namespace Go.Proofs.YtpbmclaglkcmoaaDoor
open Go.RowKit
set_option linter.unusedVariables false
set_option linter.unusedSimpArgs false

set_option maxHeartbeats 4000000 in
set_option maxRecDepth 100000 in
theorem sameLocks_calls (l : List LockR) (A A2 : Option Addr) (c c2 : Nat) (w : World) (h1 : Locks w A l) (h2 : Locks w A2 l) (hc : l.length ≤ c) (hc2 : l.length ≤ c2) (hl : l.length ≤ 9223372036854775806) :
    Calls Tryd.prog 69 #[.slice A l.length c, .slice A2 l.length c2] w fun r w' => r = .returned (.bool true) ∧ ∃ m, w' = w.drewN m := by
  have HI := Lib.hid h1
  have HJ := Lib.hid h2
  clear h1 h2
  go_enter Tryd.func69, Tryd.ntmps69
  go_wp2_with fail
  go_loopw [5] (fun s5 wr => ∃ k : Nat, k ≤ l.length ∧ s5 = .int .i64 k ∧ ∃ m, wr = w.drewN m) (fun s5 _ => l.length - (intOf s5).toNat)
  case atStart => exact ⟨0, Nat.zero_le _, rfl, 0, rfl⟩
  case round =>
    obtain ⟨k, hk, rfl, m, rfl⟩ := hrel
    by_cases hlt : k < l.length
    · obtain ⟨ib, io, hA, c0, c1, c2⟩ := HI.out k hlt
      obtain ⟨jb, jo, hB, d0, d1, d2⟩ := HJ.out k hlt
      subst hA hB
      generalize l[k] = x at c0 c1 c2 d0 d1 d2
      have c0' : (w.drewN m).cell? ⟨ib, io + k * 3, none⟩ = some (.int .i64 x.f) := c0
      have c1' : (w.drewN m).cell? ⟨ib, io + k * 3 + 1, none⟩ = some (.int .i64 x.t) := c1
      have c2' : (w.drewN m).cell? ⟨ib, io + k * 3 + 2, none⟩ = some (.int .i64 x.m) := c2
      have d0' : (w.drewN m).cell? ⟨jb, jo + k * 3, none⟩ = some (.int .i64 x.f) := d0
      have d1' : (w.drewN m).cell? ⟨jb, jo + k * 3 + 1, none⟩ = some (.int .i64 x.t) := d1
      have d2' : (w.drewN m).cell? ⟨jb, jo + k * 3 + 2, none⟩ = some (.int .i64 x.m) := d2
      go_wp2_with fail
      go_region_held3 (fun w' => w'.cell? ⟨ib, io + k * 3, none⟩ = some (.int .i64 x.f) ∧ w'.cell? ⟨ib, io + k * 3 + 1, none⟩ = some (.int .i64 x.t) ∧ w'.cell? ⟨ib, io + k * 3 + 2, none⟩ = some (.int .i64 x.m) ∧ w'.cell? ⟨jb, jo + k * 3, none⟩ = some (.int .i64 x.f) ∧ w'.cell? ⟨jb, jo + k * 3 + 1, none⟩ = some (.int .i64 x.t) ∧ w'.cell? ⟨jb, jo + k * 3 + 2, none⟩ = some (.int .i64 x.m)) (go_keep) (fail)
      clear c0 c1 c2 d0 d1 d2 c0' c1' c2' d0' d1' d2'
      go_wp2
      go_roundw
      case rel => exact ⟨k + 1, by omega, by go_num, m + 1, rfl⟩
      case measure => simp [intOf]; omega
    · clear HI HJ
      go_wp2
      go_ret
      exact ⟨rfl, m, rfl⟩

end Go.Proofs.YtpbmclaglkcmoaaDoor
