import Derived.Test.YtpbmclaglkcmoaaDoorSess7
namespace Go.Proofs.YtpbmclaglkcmoaaDoor
open Go.RowKit
set_option linter.unusedVariables false
set_option linter.unusedSimpArgs false

theorem none_q (F : Nat → Prop) (S : Nat) (s : Se) (w : World) (n : Nat) (h : SS F S s w) : Calls Tryd.prog 94 #[.pointer (some ⟨S, 0, none⟩)] (w.drewN n) fun r w' => r = .returned (.bool false) ∧ ∃ m, w' = w.drewN m :=
  (none_calls F S s _ (h.drewN n)).mono fun _ _ ⟨he, hm⟩ => ⟨he, n, hm.symm⟩

set_option maxRecDepth 100000 in
theorem take_bad0 (F : Nat → Prop) (S : Nat) (s : Se) (f : Fr) (w : World) (h : SS F S s w) (n0 : f.fr ≠ s.peer) :
    Calls Tryd.prog 78 #[.pointer (some ⟨S, 0, none⟩), .agg #[.int .i64 f.fr, .int .i64 f.to, .int .i64 f.mine, .int .i64 f.yours, .int .i64 f.seq, .int .i64 f.ack, .string f.data, .bool f.has]] w fun r w' => r = .returned (.tuple #[.slice none 0 0, .bool false]) ∧ ∃ m, w' = (w.alloc (.cells #[.int .i64 f.fr, .int .i64 f.to, .int .i64 f.mine, .int .i64 f.yours, .int .i64 f.seq, .int .i64 f.ack, .string f.data, .bool f.has] 79)).drewN m := by
  obtain ⟨R, M, hFS, hFR, hFM, hS, hR, hM, m1, m2, m3, hb, hr, hm, c0, c1, c2, c3, c4, c5, c6, c7, c8⟩ := h.cells
  have HH := Lib.hid h
  clear h hb hr hm c4 c5 c6 c7 c8
  have p0 : (f.fr != s.peer) = true := by rw [bne_iff_ne]; exact n0
  have q0 : (f.fr == s.peer) = false := by rw [beq_eq_false_iff_ne]; exact n0
  obtain ⟨fr, tx, mi, yo, sq, ak, da, ha⟩ := f
  simp only at *
  go_enter Tryd.func78, Tryd.ntmps78
  go_wp2_with fail
  have hs1 : SS F S s (w.alloc (.cells #[.int .i64 fr, .int .i64 tx, .int .i64 mi, .int .i64 yo, .int .i64 sq, .int .i64 ak, .string da, .bool ha] 79)) := HH.out.keep (fun k hk hlt => ⟨Below.heap_alloc _ _ _ hlt, hk⟩)
  have HS1 := Lib.hid hs1
  clear hs1
  go_quiet ((go_at_call 94; exact none_q F S s _ _ HS1.out))
  go_wp2
  go_ret2
  exact ⟨rfl, _, rfl⟩

set_option maxRecDepth 100000 in
theorem take_bad1 (F : Nat → Prop) (S : Nat) (s : Se) (f : Fr) (w : World) (h : SS F S s w) (n0 : f.fr = s.peer) (n1 : f.to ≠ s.self) :
    Calls Tryd.prog 78 #[.pointer (some ⟨S, 0, none⟩), .agg #[.int .i64 f.fr, .int .i64 f.to, .int .i64 f.mine, .int .i64 f.yours, .int .i64 f.seq, .int .i64 f.ack, .string f.data, .bool f.has]] w fun r w' => r = .returned (.tuple #[.slice none 0 0, .bool false]) ∧ ∃ m, w' = (w.alloc (.cells #[.int .i64 f.fr, .int .i64 f.to, .int .i64 f.mine, .int .i64 f.yours, .int .i64 f.seq, .int .i64 f.ack, .string f.data, .bool f.has] 79)).drewN m := by
  obtain ⟨R, M, hFS, hFR, hFM, hS, hR, hM, m1, m2, m3, hb, hr, hm, c0, c1, c2, c3, c4, c5, c6, c7, c8⟩ := h.cells
  have HH := Lib.hid h
  clear h hb hr hm c4 c5 c6 c7 c8
  have p0 : (f.fr != s.peer) = false := by rw [n0]; simp
  have q0 : (f.fr == s.peer) = true := by rw [n0]; simp
  have p1 : (f.to != s.self) = true := by rw [bne_iff_ne]; exact n1
  have q1 : (f.to == s.self) = false := by rw [beq_eq_false_iff_ne]; exact n1
  clear n0
  obtain ⟨fr, tx, mi, yo, sq, ak, da, ha⟩ := f
  simp only at *
  go_enter Tryd.func78, Tryd.ntmps78
  go_wp2_with fail
  have hs1 : SS F S s (w.alloc (.cells #[.int .i64 fr, .int .i64 tx, .int .i64 mi, .int .i64 yo, .int .i64 sq, .int .i64 ak, .string da, .bool ha] 79)) := HH.out.keep (fun k hk hlt => ⟨Below.heap_alloc _ _ _ hlt, hk⟩)
  have HS1 := Lib.hid hs1
  clear hs1
  go_quiet ((go_at_call 94; exact none_q F S s _ _ HS1.out))
  go_wp2
  go_ret2
  exact ⟨rfl, _, rfl⟩

set_option maxRecDepth 100000 in
theorem take_bad2 (F : Nat → Prop) (S : Nat) (s : Se) (f : Fr) (w : World) (h : SS F S s w) (n0 : f.fr = s.peer) (n1 : f.to = s.self) (n2 : f.mine < 1) :
    Calls Tryd.prog 78 #[.pointer (some ⟨S, 0, none⟩), .agg #[.int .i64 f.fr, .int .i64 f.to, .int .i64 f.mine, .int .i64 f.yours, .int .i64 f.seq, .int .i64 f.ack, .string f.data, .bool f.has]] w fun r w' => r = .returned (.tuple #[.slice none 0 0, .bool false]) ∧ ∃ m, w' = (w.alloc (.cells #[.int .i64 f.fr, .int .i64 f.to, .int .i64 f.mine, .int .i64 f.yours, .int .i64 f.seq, .int .i64 f.ack, .string f.data, .bool f.has] 79)).drewN m := by
  obtain ⟨R, M, hFS, hFR, hFM, hS, hR, hM, m1, m2, m3, hb, hr, hm, c0, c1, c2, c3, c4, c5, c6, c7, c8⟩ := h.cells
  have HH := Lib.hid h
  clear h hb hr hm c4 c5 c6 c7 c8
  have p0 : (f.fr != s.peer) = false := by rw [n0]; simp
  have q0 : (f.fr == s.peer) = true := by rw [n0]; simp
  have p1 : (f.to != s.self) = false := by rw [n1]; simp
  have q1 : (f.to == s.self) = true := by rw [n1]; simp
  have p2 : decide (f.mine < (1 : Int)) = true := by simp; omega
  clear n0 n1
  obtain ⟨fr, tx, mi, yo, sq, ak, da, ha⟩ := f
  simp only at *
  go_enter Tryd.func78, Tryd.ntmps78
  go_wp2_with fail
  have hs1 : SS F S s (w.alloc (.cells #[.int .i64 fr, .int .i64 tx, .int .i64 mi, .int .i64 yo, .int .i64 sq, .int .i64 ak, .string da, .bool ha] 79)) := HH.out.keep (fun k hk hlt => ⟨Below.heap_alloc _ _ _ hlt, hk⟩)
  have HS1 := Lib.hid hs1
  clear hs1
  go_quiet ((go_at_call 94; exact none_q F S s _ _ HS1.out))
  go_wp2
  go_ret2
  exact ⟨rfl, _, rfl⟩

set_option maxRecDepth 100000 in
theorem take_bad3 (F : Nat → Prop) (S : Nat) (s : Se) (f : Fr) (w : World) (h : SS F S s w) (n0 : f.fr = s.peer) (n1 : f.to = s.self) (n2 : 1 ≤ f.mine) (n3 : f.mine < s.yours) :
    Calls Tryd.prog 78 #[.pointer (some ⟨S, 0, none⟩), .agg #[.int .i64 f.fr, .int .i64 f.to, .int .i64 f.mine, .int .i64 f.yours, .int .i64 f.seq, .int .i64 f.ack, .string f.data, .bool f.has]] w fun r w' => r = .returned (.tuple #[.slice none 0 0, .bool false]) ∧ ∃ m, w' = (w.alloc (.cells #[.int .i64 f.fr, .int .i64 f.to, .int .i64 f.mine, .int .i64 f.yours, .int .i64 f.seq, .int .i64 f.ack, .string f.data, .bool f.has] 79)).drewN m := by
  obtain ⟨R, M, hFS, hFR, hFM, hS, hR, hM, m1, m2, m3, hb, hr, hm, c0, c1, c2, c3, c4, c5, c6, c7, c8⟩ := h.cells
  have HH := Lib.hid h
  clear h hb hr hm c4 c5 c6 c7 c8
  have p0 : (f.fr != s.peer) = false := by rw [n0]; simp
  have q0 : (f.fr == s.peer) = true := by rw [n0]; simp
  have p1 : (f.to != s.self) = false := by rw [n1]; simp
  have q1 : (f.to == s.self) = true := by rw [n1]; simp
  have p2 : decide (f.mine < (1 : Int)) = false := by simp; omega
  have p3 : decide (f.mine < s.yours) = true := by simp; omega
  clear n0 n1
  obtain ⟨fr, tx, mi, yo, sq, ak, da, ha⟩ := f
  simp only at *
  go_enter Tryd.func78, Tryd.ntmps78
  go_wp2_with fail
  have hs1 : SS F S s (w.alloc (.cells #[.int .i64 fr, .int .i64 tx, .int .i64 mi, .int .i64 yo, .int .i64 sq, .int .i64 ak, .string da, .bool ha] 79)) := HH.out.keep (fun k hk hlt => ⟨Below.heap_alloc _ _ _ hlt, hk⟩)
  have HS1 := Lib.hid hs1
  clear hs1
  go_quiet ((go_at_call 94; exact none_q F S s _ _ HS1.out))
  go_wp2
  go_ret2
  exact ⟨rfl, _, rfl⟩

set_option maxRecDepth 100000 in
theorem take_bad4 (F : Nat → Prop) (S : Nat) (s : Se) (f : Fr) (w : World) (h : SS F S s w) (n0 : f.fr = s.peer) (n1 : f.to = s.self) (n2 : 1 ≤ f.mine) (n3 : s.yours ≤ f.mine) (n4 : s.mine < f.yours) :
    Calls Tryd.prog 78 #[.pointer (some ⟨S, 0, none⟩), .agg #[.int .i64 f.fr, .int .i64 f.to, .int .i64 f.mine, .int .i64 f.yours, .int .i64 f.seq, .int .i64 f.ack, .string f.data, .bool f.has]] w fun r w' => r = .returned (.tuple #[.slice none 0 0, .bool false]) ∧ ∃ m, w' = (w.alloc (.cells #[.int .i64 f.fr, .int .i64 f.to, .int .i64 f.mine, .int .i64 f.yours, .int .i64 f.seq, .int .i64 f.ack, .string f.data, .bool f.has] 79)).drewN m := by
  obtain ⟨R, M, hFS, hFR, hFM, hS, hR, hM, m1, m2, m3, hb, hr, hm, c0, c1, c2, c3, c4, c5, c6, c7, c8⟩ := h.cells
  have HH := Lib.hid h
  clear h hb hr hm c4 c5 c6 c7 c8
  have p0 : (f.fr != s.peer) = false := by rw [n0]; simp
  have q0 : (f.fr == s.peer) = true := by rw [n0]; simp
  have p1 : (f.to != s.self) = false := by rw [n1]; simp
  have q1 : (f.to == s.self) = true := by rw [n1]; simp
  have p2 : decide (f.mine < (1 : Int)) = false := by simp; omega
  have p3 : decide (f.mine < s.yours) = false := by simp; omega
  have p4 : decide (s.mine < f.yours) = true := by simp; omega
  clear n0 n1
  obtain ⟨fr, tx, mi, yo, sq, ak, da, ha⟩ := f
  simp only at *
  go_enter Tryd.func78, Tryd.ntmps78
  go_wp2_with fail
  have hs1 : SS F S s (w.alloc (.cells #[.int .i64 fr, .int .i64 tx, .int .i64 mi, .int .i64 yo, .int .i64 sq, .int .i64 ak, .string da, .bool ha] 79)) := HH.out.keep (fun k hk hlt => ⟨Below.heap_alloc _ _ _ hlt, hk⟩)
  have HS1 := Lib.hid hs1
  clear hs1
  go_quiet ((go_at_call 94; exact none_q F S s _ _ HS1.out))
  go_wp2
  go_ret2
  exact ⟨rfl, _, rfl⟩

end Go.Proofs.YtpbmclaglkcmoaaDoor
