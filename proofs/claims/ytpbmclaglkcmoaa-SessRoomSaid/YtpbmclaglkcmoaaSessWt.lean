import Derived.Test.YtpbmclaglkcmoaaSess1
namespace Go.Proofs.Ytpbmclaglkcmoaa
open Go.RowKit
set_option linter.unusedVariables false
set_option linter.unusedSimpArgs false

theorem waiting_calls (F : Nat → Prop) (S : Nat) (s : Se) (w : World) (h : SS F S s w) : Calls Try.prog 22 #[.pointer (some ⟨S, 0, none⟩)] w fun r w' => r = .returned (.int .i64 s.out.length) ∧ w = w' := by
  obtain ⟨R, M, hFS, hFR, hFM, hS, hR, hM, n1, n2, n3, hb, hr, hm, c0, c1, c2, c3, c4, c5, c6, c7, c8⟩ := h.cells
  have HH := Lib.hid h
  have HR := Lib.hid hr
  clear h hb hr hm
  go_enter Try.func22, Try.ntmps22
  go_wp2_with fail
  refine (none_calls F S s _ HH.out).mono ?_
  rintro e w1 ⟨rfl, rfl⟩
  go_wp2_with fail
  refine (ringLen_calls _ R s.out _ HR.out).mono ?_
  rintro e w1 ⟨rfl, rfl⟩
  go_wp2
  go_ret
  exact ⟨rfl, rfl⟩

theorem life_calls (F : Nat → Prop) (S : Nat) (s : Se) (w : World) (h : SS F S s w) : Calls Try.prog 24 #[.pointer (some ⟨S, 0, none⟩)] w fun r w' => r = .returned (.int .i64 s.yours) ∧ w = w' := by
  obtain ⟨R, M, hFS, hFR, hFM, hS, hR, hM, n1, n2, n3, hb, hr, hm, c0, c1, c2, c3, c4, c5, c6, c7, c8⟩ := h.cells
  clear h hb hr hm
  go_enter Try.func24, Try.ntmps24
  go_wp2
  go_ret
  exact ⟨rfl, rfl⟩

end Go.Proofs.Ytpbmclaglkcmoaa
