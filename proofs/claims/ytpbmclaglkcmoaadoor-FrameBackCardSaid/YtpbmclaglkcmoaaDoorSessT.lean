import Derived.Test.YtpbmclaglkcmoaaDoorSess9
namespace Go.Proofs.YtpbmclaglkcmoaaDoor
open Go.RowKit
set_option linter.unusedVariables false
set_option linter.unusedSimpArgs false

theorem TakeEnd.bad {F : Nat → Prop} {S : Nat} {s : Se} {f : Fr} {w : World} (h : SS F S s w) (hb : s.bad f = true) : ∀ r w', (r = .returned (.tuple #[.slice none 0 0, .bool false]) ∧ ∃ m, w' = (w.alloc (.cells #[.int .i64 f.fr, .int .i64 f.to, .int .i64 f.mine, .int .i64 f.yours, .int .i64 f.seq, .int .i64 f.ack, .string f.data, .bool f.has] 79)).drewN m) → TakeEnd F S s f w r w' := by
  rintro r w' ⟨rfl, m, rfl⟩
  refine TakeEnd.mk (t := (([], false), s)) (G := F) ?_ (World.ownsRow_nil _ _ _ _) (by simp [Value.ownBlock]) (fun k hk => .inl hk) ?_ (((KeptF.refl F w).alloc _).drewN _)
  · unfold Se.take
    rw [if_pos hb]
  · exact (h.keep (fun k hk hlt => ⟨Below.heap_alloc _ _ _ hlt, hk⟩) : SS F S s (w.alloc _)).drewN _

/-- Take, of any frame. -/
theorem sessTake_calls (F : Nat → Prop) (S : Nat) (s : Se) (f : Fr) (w : World) (h : SS F S s w) {N : Int} (hN : N ≤ 1000000) (hN64 : 64 ≤ N) (hk : s.Ok N) (hsq : 0 ≤ f.seq ∧ f.seq ≤ 1000000) (hds : f.data.size ≤ 3000) :
    Calls Tryd.prog 78 #[.pointer (some ⟨S, 0, none⟩), .agg #[.int .i64 f.fr, .int .i64 f.to, .int .i64 f.mine, .int .i64 f.yours, .int .i64 f.seq, .int .i64 f.ack, .string f.data, .bool f.has]] w (TakeEnd F S s f w) := by
  cases hb : s.bad f with
  | false => exact take_good F S s f w h hN hN64 hk hb hsq hds
  | true =>
    have hb' := Se.bad_iff.1 hb
    by_cases n0 : f.fr = s.peer
    · by_cases n1 : f.to = s.self
      · by_cases n2 : f.mine < 1
        · exact (take_bad2 F S s f w h n0 n1 n2).mono (TakeEnd.bad h hb)
        · by_cases n3 : f.mine < s.yours
          · exact (take_bad3 F S s f w h n0 n1 (by omega) n3).mono (TakeEnd.bad h hb)
          · exact (take_bad4 F S s f w h n0 n1 (by omega) (by omega) (by omega)).mono (TakeEnd.bad h hb)
      · exact (take_bad1 F S s f w h n0 n1).mono (TakeEnd.bad h hb)
    · exact (take_bad0 F S s f w h n0).mono (TakeEnd.bad h hb)

end Go.Proofs.YtpbmclaglkcmoaaDoor
