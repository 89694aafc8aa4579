import Derived.Test.YtpbmclaglkcmoaaDoorFrame
import Derived.Test.YtpbmclaglkcmoaaDoorWire
import Derived.Test.YtpbmclaglkcmoaaDoorSum
import Derived.Deep.RegionHeld3
namespace Go.Proofs.YtpbmclaglkcmoaaDoor
open Go.RowKit
set_option linter.unusedVariables false
set_option linter.unusedSimpArgs false

/-- A frame, as a value. -/
def frA (f : Fr) : Value := .agg #[.int .i64 f.fr, .int .i64 f.to, .int .i64 f.mine, .int .i64 f.yours, .int .i64 f.seq, .int .i64 f.ack, .string f.data, .bool f.has]

def min6 (a b c d e f : Int) : Int := min (min (min (min (min a b) c) d) e) f
theorem min6_lt (a b c d e f : Int) : min6 a b c d e f < 0 ↔ ¬ (0 ≤ a ∧ 0 ≤ b ∧ 0 ≤ c ∧ 0 ≤ d ∧ 0 ≤ e ∧ 0 ≤ f) := by
  unfold min6
  omega
theorem min_step (x y : Int) : (if y < x then y else x) = min x y := by omega
theorem run_min6 {P : Program} (w : World) (ts : Array TypeId) (t : TypeId) (a b c d e f : Int) :
    (Builtin.min_ ts t #[.int .i64 a, .int .i64 b, .int .i64 c, .int .i64 d, .int .i64 e, .int .i64 f]).run P w = .ok (.int .i64 (min6 a b c d e f)) w := by
  simp [Builtin.min_, Builtin.min2, min_step, min6]

set_option maxHeartbeats 1000000 in
theorem wrong_calls (f : Fr) (w : World) :
    Calls Tryd.prog 79 #[frA f] w fun r w' => r = .returned (.int .i64 (wrongF f)) ∧ Below w.heap.size w w' := by
  obtain ⟨a0, a1, a2, a3, a4, a5, d, has⟩ := f
  have hmin := fun W ts t => run_min6 (P := Tryd.prog) W ts t a0 a1 a2 a3 a4 a5
  have hml := min6_lt a0 a1 a2 a3 a4 a5
  generalize min6 a0 a1 a2 a3 a4 a5 = M at hmin hml
  unfold frA
  by_cases h1 : M < 0
  · have hr : wrongF ⟨a0, a1, a2, a3, a4, a5, d, has⟩ = 1 := by
      unfold wrongF
      rw [if_neg (fun h => hml.1 h1 h.1)]
    have HR := Lib.hid hr
    clear hr hml
    go_enter Tryd.func79, Tryd.ntmps79
    go_wp2
    go_ret
    exact ⟨by rw [HR.out]; rfl, al (Below.refl _ _) _⟩
  · have h1' : ¬ M < 0 := h1
    by_cases h2 : 65535 < max a0 a1
    · have hr : wrongF ⟨a0, a1, a2, a3, a4, a5, d, has⟩ = 1 := by
        unfold wrongF
        rw [if_neg (fun h => by have h3 := h.2; simp only at h3; omega)]
      have HR := Lib.hid hr
      clear hr hml
      generalize hx : max a0 a1 = X at h2
      have HX := Lib.hid hx
      have hmax := fun W ts t => Lib.run_max_ints (P := Tryd.prog) W ts t .i64 .i64 a0 a1
      rw [hx] at hmax
      clear hx
      go_enter Tryd.func79, Tryd.ntmps79
      go_wp2
      go_ret
      exact ⟨by rw [HR.out]; rfl, al (Below.refl _ _) _⟩
    · have hok : okF ⟨a0, a1, a2, a3, a4, a5, d, has⟩ := ⟨Decidable.not_not.1 (fun h => h1 (hml.2 h)), by simp only; omega⟩
      have hr : wrongF ⟨a0, a1, a2, a3, a4, a5, d, has⟩ = if 3000 < d.size then 2 else 0 := by
        unfold wrongF
        rw [if_pos hok]
      have HR := Lib.hid hr
      clear hr hml hok
      have hmax := fun W ts t => Lib.run_max_ints (P := Tryd.prog) W ts t .i64 .i64 a0 a1
      generalize hx : max a0 a1 = X at h2 hmax
      clear hx
      by_cases h3 : 3000 < d.size
      · rw [if_pos h3] at HR
        have h3i : (3000 : Int) < (d.size : Int) := by omega
        go_enter Tryd.func79, Tryd.ntmps79
        go_wp2
        go_ret
        exact ⟨by rw [HR.out]; rfl, al (Below.refl _ _) _⟩
      · rw [if_neg h3] at HR
        have h3i : ¬ (3000 : Int) < (d.size : Int) := by omega
        go_enter Tryd.func79, Tryd.ntmps79
        go_wp2
        go_ret
        exact ⟨by rw [HR.out]; rfl, al (Below.refl _ _) _⟩

end Go.Proofs.YtpbmclaglkcmoaaDoor
