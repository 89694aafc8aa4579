import Derived.Test.YtpbmclaglkcmoaaDoorSess2
namespace Go.Proofs.YtpbmclaglkcmoaaDoor
open Go.RowKit
set_option linter.unusedVariables false
set_option linter.unusedSimpArgs false

/-- Send. -/
theorem send_long (F : Nat → Prop) (S : Nat) (s : Se) (d : ByteArray) (w : World) (h : SS F S s w) (hd : 3000 < d.size) (hdm : d.size ≤ 9223372036854775807) :
    Calls Tryd.prog 76 #[.pointer (some ⟨S, 0, none⟩), .string d] w fun r w' => r = .returned (.int .i64 2) ∧ w = w' := by
  have HH := Lib.hid h
  clear h
  have hd1 : (3000 : Int) < (d.size : Int) := by omega
  go_enter Tryd.func76, Tryd.ntmps76
  go_wp2_with fail
  refine (none_calls F S s _ HH.out).mono ?_
  rintro e w1 ⟨rfl, rfl⟩
  go_wp2
  go_ret
  exact ⟨rfl, rfl⟩

theorem send_full (F : Nat → Prop) (S : Nat) (s : Se) (d : ByteArray) (w : World) (h : SS F S s w) (hd : d.size ≤ 3000) (hl : s.out.length = 64) :
    Calls Tryd.prog 76 #[.pointer (some ⟨S, 0, none⟩), .string d] w fun r w' => r = .returned (.int .i64 10) ∧ ∃ m, w' = w.drewN m := by
  have HH := Lib.hid h
  obtain ⟨R, M, hFS, hFR, hFM, hS, hR, hM, n1, n2, n3, hb, hr, hm, c0, c1, c2, c3, c4, c5, c6, c7, c8⟩ := h.cells
  have HR := Lib.hid hr
  have HL := Lib.hid hl
  have HL2 := Lib.hid (show s.out.length ≤ 64 by omega)
  clear h hb hr hm hl
  have hd1 : ¬ (3000 : Int) < (d.size : Int) := by omega
  have hd2 : (d.size : Int) ≤ 3000 := by omega
  go_enter Tryd.func76, Tryd.ntmps76
  go_wp2_with fail
  refine (none_calls F S s _ HH.out).mono ?_
  rintro e w1 ⟨rfl, rfl⟩
  go_wp2_with fail
  refine (ringRoom_calls _ R s.out _ HR.out HL2.out).mono ?_
  rintro e w1 ⟨rfl, m, rfl⟩
  rw [HL.out]
  go_wp2
  go_ret
  exact ⟨rfl, m, rfl⟩

theorem send_ok (F : Nat → Prop) (S : Nat) (s : Se) (d : ByteArray) (w : World) (h : SS F S s w) (hd : d.size ≤ 3000) (hl : s.out.length < 64) (ha : 0 ≤ s.last ∧ s.last ≤ 1000000) :
    Calls Tryd.prog 76 #[.pointer (some ⟨S, 0, none⟩), .string d] w fun r w' => r = .returned (.int .i64 0) ∧
      SS (fun j => F j ∨ w.heap.size ≤ j) S { s with last := s.last + 1, out := s.out ++ [⟨s.last + 1, d, false, 0⟩] } w' ∧ KeptF F w w' := by
  have HH := Lib.hid h
  obtain ⟨R, M, hFS, hFR, hFM, hS, hR, hM, n1, n2, n3, hb, hr, hm, c0, c1, c2, c3, c4, c5, c6, c7, c8⟩ := h.cells
  have f5 := Lib.frozen_of_heap hb 5
  have HB := Lib.hid hb
  have HR := Lib.hid hr
  have HM := Lib.hid hm
  have HL2 := Lib.hid (show s.out.length ≤ 64 by omega)
  have HL3 := Lib.hid hl
  clear h hb hr hm
  have hl0 : (0 : Int) ≤ (s.out.length : Int) := Int.natCast_nonneg _
  have hl1 : (s.out.length : Int) < 64 := by omega
  have hd1 : ¬ (3000 : Int) < (d.size : Int) := by omega
  have hd2 : (d.size : Int) ≤ 3000 := by omega
  have hz : ((64 - (s.out.length : Int)) == 0) = false := by rw [beq_eq_false_iff_ne]; omega
  obtain ⟨a0, a1⟩ := ha
  generalize hn : s.out.length = n at *
  go_enter Tryd.func76, Tryd.ntmps76
  go_wp2_with fail
  refine (none_calls F S s _ HH.out).mono ?_
  rintro e w1 ⟨rfl, rfl⟩
  go_wp2_with fail
  refine (ringRoom_calls _ R s.out _ HR.out (by rw [hn]; exact HL2.out)).mono ?_
  rintro e w1 ⟨rfl, m, rfl⟩
  rw [hn]
  go_wp2_with fail
  obtain ⟨W, hW⟩ : ∃ W, W = (w.drewN m).setCell ⟨S, 5, none⟩ (.int .i64 (s.last + 1)) := ⟨_, rfl⟩
  rw [← hW]
  have hbW : W.heap[S]? = some (.cells (SC R M { s with last := s.last + 1 }) 133 (0, 0)) := by
    rw [hW, heap_setCell_same (w.drewN m) S 5 _ _ _ HB.out]
    rfl
  have hoW : ∀ k, k ≠ S → W.heap[k]? = w.heap[k]? := fun k hk => by rw [hW]; exact heap_setCell_other _ _ _ _ hk
  have hzW : W.heap.size = w.heap.size := by rw [hW]; exact World.size_setCell _ _ _
  have hkW : KeptF F w W := by rw [hW]; exact ((KeptF.refl F w).drewN m).setCell (.inl hFS) _
  have hrW : Rg (RF F S M w.heap.size) R s.out W := HR.out.keep (fun k hk _ => ⟨hoW k hk.2.1, hk⟩)
  obtain ⟨⟨q0, q1, q2, q3, q4, q5, q6, q7, q8⟩, qf⟩ := nine_of hbW
  have HBW := Lib.hid hbW
  have HOW := Lib.hid hoW
  have HKW := Lib.hid hkW
  have HRW := Lib.hid hrW
  clear hW hbW hoW hkW hrW c0 c1 c2 c3 c4 c5 c6 c7 c8 f5 qf q0 q1 q2 q3 q6 q7 q8
  have hSW : S < W.heap.size := by omega
  go_region_held3 (fun w' => w'.cell? ⟨S, 4, none⟩ = some (.pointer (some ⟨R, 0, none⟩)) ∧ w'.cell? ⟨S, 5, none⟩ = some (.int .i64 (s.last + 1))) (go_keep)
    (first
      | (go_at_call 62; (refine (cloneS_calls d _ (by omega)).mono ?_); rintro r w5 ⟨rfl, hb5⟩; obtain ⟨g4, g5⟩ : w5.cell? ⟨S, 4, none⟩ = some (.pointer (some ⟨R, 0, none⟩)) ∧ w5.cell? ⟨S, 5, none⟩ = some (.int .i64 (s.last + 1)) := ⟨(by rw [hb5.cell (p := ⟨S, 4, none⟩) (by simpa using hSW)]; go_simp), (by rw [hb5.cell (p := ⟨S, 5, none⟩) (by simpa using hSW)]; go_simp)⟩)
      | (go_at_call 96; (refine (ringPush_calls (RF F S M w.heap.size) R w5.heap.size ⟨s.last + 1, d, false, 0⟩ s.out _ (by refine HRW.out.keep (fun k hk hlt => ⟨?_, hk⟩); rw [Below.heap_alloc _ _ _ (Nat.lt_of_lt_of_le hlt hb5.size)]; exact hb5.block k hlt) (by rw [hn]; exact HL3.out) (heap_alloc_new _ _)).mono ?_); rintro r w6 ⟨rfl, hR6, hk6⟩;
          have hS6 : w6.heap[S]? = some (.cells (SC R M { s with last := s.last + 1 }) 133 (0, 0)) := (hk6.block S (by have := hb5.size; simp at this ⊢; omega) (fun e => e.2.1 rfl)).trans ((Below.heap_alloc _ _ _ (Nat.lt_of_lt_of_le hSW hb5.size)).trans ((hb5.block S hSW).trans HBW.out));
          obtain ⟨⟨p0, p1, p2, p3, p4, p5, p6, p7, p8⟩, pf⟩ := nine_of hS6; clear p0 p1 p2 p3 p6 p7 p8 pf))
  have hz5 : W.heap.size ≤ w5.heap.size := hb5.size
  have hb5' : Below W.heap.size W w5 := ⟨hb5.os, hb5.tape, hb5.output, hb5.size, hb5.block⟩
  have k5 : KeptF F w w6 := ((HKW.out.trans (KeptF.ofBelow hb5')).alloc _).trans (hk6.mono (fun k _ hk => .inl hk.1))
  have eM : w6.heap[M]? = w.heap[M]? := by
    rw [hk6.block M (by simp; omega) (fun e => e.2.2.1 rfl), Below.heap_alloc _ _ _ (by omega), hb5'.block M (by omega)]
    exact HOW.out M n2
  have hm6 : Mp (fun k => k = M) M s.ahead w6 := HM.out.keep (fun k hk _ => ⟨by rw [hk]; exact eM, hk⟩)
  have HR6 := Lib.hid hR6
  have HS6 := Lib.hid hS6
  have HM6 := Lib.hid hm6
  have K5 := Lib.hid k5
  clear hR6 hS6 hm6 k5 hk6 hb5 hb5' p4 p5
  go_wp2
  go_ret
  refine ⟨rfl, ⟨R, M, .inl hFS, HS6.out, ?_, ?_⟩, K5.out⟩
  · refine HR6.out.keep (fun k hk _ => ⟨rfl, ?_⟩)
    rcases hk with hk | hk
    · exact .inl hk.1
    · exact .inr (by simp at hk; omega)
  · exact HM6.out.keep (fun k hk _ => ⟨rfl, by rw [hk]; exact .inl hFM⟩)

theorem sendS_calls (F : Nat → Prop) (S : Nat) (s : Se) (d : ByteArray) (w : World) (h : SS F S s w) {N : Int} (hN : N ≤ 1000000) (ho : s.Ok N) (hdm : d.size ≤ 9223372036854775807) :
    Calls Tryd.prog 76 #[.pointer (some ⟨S, 0, none⟩), .string d] w fun r w' => r = .returned (.int .i64 (s.send d).1) ∧ SS (fun j => F j ∨ w.heap.size ≤ j) S (s.send d).2 w' ∧ KeptF F w w' := by
  have hl := ho.len
  have ha := ho.last
  unfold Se.send
  split
  · refine (send_long F S s d w h (by assumption) hdm).mono ?_
    rintro e w' ⟨rfl, rfl⟩
    exact ⟨rfl, h.keep (fun k hk _ => ⟨rfl, .inl hk⟩), KeptF.refl _ _⟩
  · split
    · refine (send_full F S s d w h (by omega) (by assumption)).mono ?_
      rintro e w' ⟨rfl, m, rfl⟩
      exact ⟨rfl, h.keep (fun k hk _ => ⟨rfl, .inl hk⟩), (KeptF.refl _ _).drewN m⟩
    · exact send_ok F S s d w h (by omega) (by omega) ⟨ha.1, by omega⟩

end Go.Proofs.YtpbmclaglkcmoaaDoor
