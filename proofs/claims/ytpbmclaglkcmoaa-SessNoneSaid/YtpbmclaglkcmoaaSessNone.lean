import Derived.Test.YtpbmclaglkcmoaaSessAlive
namespace Go.Proofs.Ytpbmclaglkcmoaa
open Go.RowKit
set_option linter.unusedVariables false
set_option linter.unusedSimpArgs false

theorem below_drewN {B : Nat} {w w' : World} (h : Below B w w') (n : Nat) : Below B w (w'.drewN n) := ⟨h.os, h.tape, h.output, h.size, h.block⟩

/-- A nil session, or a zero one. -/
def Dead (p : Option Addr) (w : World) : Prop := p = none ∨ ∃ b, p = some ⟨b, 0, none⟩ ∧ w.heap[b]? = some (.cells #[.int .i64 0, .int .i64 0, .int .i64 0, .int .i64 0, .pointer none, .int .i64 0, .int .i64 0, .map none, .bool false] 46 (0, 0))

theorem none_dead (p : Option Addr) (w : World) (h : Dead p w) : Calls Try.prog 49 #[.pointer p] w fun r w' => r = .returned (.bool true) ∧ w = w' := by
  rcases h with rfl | ⟨b, rfl, hb⟩
  · go_enter Try.func49, Try.ntmps49
    go_wp2
    go_ret
    exact ⟨rfl, rfl⟩
  · have c4 : w.cell? ⟨b, 4, none⟩ = some (.pointer none) := by rw [Lib.cell_of_heap hb]; rfl
    clear hb
    go_enter Try.func49, Try.ntmps49
    go_wp2
    go_ret
    exact ⟨rfl, rfl⟩

theorem none_deadq (p : Option Addr) (w : World) (n : Nat) (h : Dead p w) : Calls Try.prog 49 #[.pointer p] (w.drewN n) fun r w' => r = .returned (.bool true) ∧ ∃ m, w' = w.drewN m :=
  (none_dead p (w.drewN n) h).mono fun _ _ ⟨he, hm⟩ => ⟨he, n, hm.symm⟩

theorem send_dead (p : Option Addr) (w : World) (h : Dead p w) (d : ByteArray) : Calls Try.prog 17 #[.pointer p, .string d] w fun r w' => r = .returned (.int .i64 1) ∧ w = w' := by
  have HD := Lib.hid h
  clear h
  go_enter Try.func17, Try.ntmps17
  go_wp2_with fail
  refine (none_dead p _ HD.out).mono ?_
  rintro e w1 ⟨rfl, rfl⟩
  go_wp2
  go_ret
  exact ⟨rfl, rfl⟩
theorem out_dead (p : Option Addr) (w : World) (h : Dead p w) : Calls Try.prog 20 #[.pointer p] w fun r w' => r = .returned (.slice none 0 0) ∧ w = w' := by
  have HD := Lib.hid h
  clear h
  go_enter Try.func20, Try.ntmps20
  go_wp2_with fail
  refine (none_dead p _ HD.out).mono ?_
  rintro e w1 ⟨rfl, rfl⟩
  go_wp2
  go_ret
  exact ⟨rfl, rfl⟩
theorem tick_dead (p : Option Addr) (w : World) (h : Dead p w) : Calls Try.prog 18 #[.pointer p] w fun r w' => r = .returned (.slice none 0 0) ∧ w = w' := by
  have HD := Lib.hid h
  clear h
  go_enter Try.func18, Try.ntmps18
  go_wp2_with fail
  refine (none_dead p _ HD.out).mono ?_
  rintro e w1 ⟨rfl, rfl⟩
  go_wp2
  go_ret
  exact ⟨rfl, rfl⟩
theorem waiting_dead (p : Option Addr) (w : World) (h : Dead p w) : Calls Try.prog 22 #[.pointer p] w fun r w' => r = .returned (.int .i64 0) ∧ w = w' := by
  have HD := Lib.hid h
  clear h
  go_enter Try.func22, Try.ntmps22
  go_wp2_with fail
  refine (none_dead p _ HD.out).mono ?_
  rintro e w1 ⟨rfl, rfl⟩
  go_wp2
  go_ret
  exact ⟨rfl, rfl⟩
theorem peer_nil (w : World) : Calls Try.prog 25 #[.pointer none] w fun r w' => r = .returned (.int .i64 0) ∧ w = w' := by
  go_enter Try.func25, Try.ntmps25
  go_wp2
  go_ret
  exact ⟨rfl, rfl⟩
theorem life_nil (w : World) : Calls Try.prog 24 #[.pointer none] w fun r w' => r = .returned (.int .i64 0) ∧ w = w' := by
  go_enter Try.func24, Try.ntmps24
  go_wp2
  go_ret
  exact ⟨rfl, rfl⟩

set_option maxRecDepth 100000 in
theorem take_nil (a0 a1 a2 a3 a4 a5 : Int) (d : ByteArray) (h : Bool) (w : World) : Calls Try.prog 19 #[.pointer none, .agg #[.int .i64 a0, .int .i64 a1, .int .i64 a2, .int .i64 a3, .int .i64 a4, .int .i64 a5, .string d, .bool h]] w fun r w' =>
    r = .returned (.tuple #[.slice none 0 0, .bool false]) ∧ Below w.heap.size w w' := by
  go_enter Try.func19, Try.ntmps19
  go_wp2_with fail
  go_quiet ((go_at_call 49; exact none_deadq none _ _ (.inl rfl)))
  go_wp2
  go_ret2
  exact ⟨rfl, below_drewN (al (Below.refl _ _) _) _⟩

set_option maxRecDepth 100000 in
set_option maxHeartbeats 1000000 in
theorem sessNone_any (a0 a1 a2 a3 a4 a5 : Int) (d : ByteArray) (h : Bool) (hd : d.size ≤ 9223372036854775807) (w : World) : Calls Try.prog 6 #[.agg #[.int .i64 a0, .int .i64 a1, .int .i64 a2, .int .i64 a3, .int .i64 a4, .int .i64 a5, .string d, .bool h]] w fun r w' =>
    r = .returned (.bool true) ∧ Below w.heap.size w w' := by
  by_cases hs : (300 : Int) < (d.size : Int)
  · have hs1 : decide ((300 : Int) < (d.size : Int)) = true := by simpa using hs
    go_enter Try.func6, Try.ntmps6
    go_wp2_with fail
    refine (alive15_calls _).mono ?_
    rintro e w1 ⟨rfl, hb1⟩
    have HB1 := Lib.hid hb1
    clear hb1
    go_wp2
    go_ret
    exact ⟨rfl, bl (al (Below.refl _ _) _) HB1.out⟩
  · have hs1 : decide ((300 : Int) < (d.size : Int)) = false := by simpa using hs
    go_enter Try.func6, Try.ntmps6
    go_wp2_with fail
    refine (take_nil a0 a1 a2 a3 a4 a5 d h _).mono ?_
    rintro e w1 ⟨rfl, hb1⟩
    have hz1 : w.heap.size + 1 < w1.heap.size := by have := hb1.size; simp at this; omega
    have hZ1 := (hb1.block (w.heap.size + 1) (by simp)).trans (heap_new_at _ _ _ (by simp))
    have HB1 := Lib.hid hb1
    clear hb1
    go_wp2_with fail
    refine (alive15_calls _).mono ?_
    rintro e w2 ⟨rfl, hb2⟩
    have hZ2 := (hb2.block (w.heap.size + 1) hz1).trans hZ1
    have hz : Dead (some ⟨w.heap.size + 1, 0, none⟩) w2 := .inr ⟨_, rfl, hZ2⟩
    have HZ := Lib.hid hz
    have HB2 := Lib.hid hb2
    clear hb2 hZ1 hZ2 hz
    go_wp2_with fail
    refine (send_dead none _ (.inl rfl) _).mono ?_
    rintro e w3 ⟨rfl, rfl⟩
    go_wp2_with fail
    refine (send_dead _ _ HZ.out _).mono ?_
    rintro e w3 ⟨rfl, rfl⟩
    go_wp2_with fail
    refine (tick_dead none _ (.inl rfl)).mono ?_
    rintro e w3 ⟨rfl, rfl⟩
    go_wp2_with fail
    refine (out_dead none _ (.inl rfl)).mono ?_
    rintro e w3 ⟨rfl, rfl⟩
    go_wp2_with fail
    refine (waiting_dead none _ (.inl rfl)).mono ?_
    rintro e w3 ⟨rfl, rfl⟩
    go_wp2_with fail
    refine (peer_nil _).mono ?_
    rintro e w3 ⟨rfl, rfl⟩
    go_wp2_with fail
    refine (life_nil _).mono ?_
    rintro e w3 ⟨rfl, rfl⟩
    go_wp2_with fail
    refine (out_dead _ _ HZ.out).mono ?_
    rintro e w3 ⟨rfl, rfl⟩
    go_wp2_with fail
    refine (waiting_dead _ _ HZ.out).mono ?_
    rintro e w3 ⟨rfl, rfl⟩
    go_wp2
    go_ret
    exact ⟨rfl, bl (bl (al (al (Below.refl _ _) _) _) HB1.out) HB2.out⟩

theorem sessNone_row (f : Fr) (w : World) (wf : (Lit.int .i64 f.fr).wf = true ∧ (Lit.int .i64 f.to).wf = true ∧ (Lit.int .i64 f.mine).wf = true ∧ (Lit.int .i64 f.yours).wf = true ∧ (Lit.int .i64 f.seq).wf = true ∧ (Lit.int .i64 f.ack).wf = true) (wd : f.data.size ≤ maxLen) :
    Calls Try.prog 6 #[.agg #[.int .i64 f.fr, .int .i64 f.to, .int .i64 f.mine, .int .i64 f.yours, .int .i64 f.seq, .int .i64 f.ack, .string f.data, .bool f.has]] w fun r w' => r = .returned (.bool true) ∧ Below w.heap.size w w' :=
  sessNone_any f.fr f.to f.mine f.yours f.seq f.ack f.data f.has (by unfold maxLen at wd; exact wd) w

end Go.Proofs.Ytpbmclaglkcmoaa
