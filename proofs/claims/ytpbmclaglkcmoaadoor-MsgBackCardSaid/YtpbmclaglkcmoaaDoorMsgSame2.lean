import Derived.Test.YtpbmclaglkcmoaaDoorMsgSame
namespace Go.Proofs.YtpbmclaglkcmoaaDoor
open Go.RowKit
set_option linter.unusedVariables false
set_option linter.unusedSimpArgs false

set_option maxHeartbeats 4000000 in
set_option maxRecDepth 100000 in
theorem plain_calls (m : MsgR) (A : Option Addr) (c : Nat) (w : World) :
    Calls Tryd.prog 37 #[msgV m A c] w fun r w' => r = .returned (msgV m A c) ∧ Below w.heap.size w w' := by
  simp only [msgV]
  go_enter Tryd.func37, Tryd.ntmps37
  go_wp2_with fail
  have hB : Below w.heap.size w ((w.alloc (.cells #[.int .i64 m.kind, .int .i64 m.id, .int .i64 m.node, .int .i64 m.gen, .int .i64 m.stamp, .int .u64 m.epoch, .int .i64 m.err, .slice A m.locks.length c] 53)).alloc (.cells #[.int .i64 m.kind, .int .i64 m.id, .int .i64 m.node, .int .i64 m.gen, .int .i64 m.stamp, .int .u64 m.epoch, .int .i64 m.err, .slice A m.locks.length c] 59)) := al (al (Below.refl _ w) _) _
  have h8 : ((w.alloc (.cells #[.int .i64 m.kind, .int .i64 m.id, .int .i64 m.node, .int .i64 m.gen, .int .i64 m.stamp, .int .u64 m.epoch, .int .i64 m.err, .slice A m.locks.length c] 53)).alloc (.cells #[.int .i64 m.kind, .int .i64 m.id, .int .i64 m.node, .int .i64 m.gen, .int .i64 m.stamp, .int .u64 m.epoch, .int .i64 m.err, .slice A m.locks.length c] 59)).heap[w.heap.size + 1]? = some (.cells #[.int .i64 m.kind, .int .i64 m.id, .int .i64 m.node, .int .i64 m.gen, .int .i64 m.stamp, .int .u64 m.epoch, .int .i64 m.err, .slice A m.locks.length c] 59 (0, 0)) := by
    have := heap_alloc_new (w.alloc (.cells #[.int .i64 m.kind, .int .i64 m.id, .int .i64 m.node, .int .i64 m.gen, .int .i64 m.stamp, .int .u64 m.epoch, .int .i64 m.err, .slice A m.locks.length c] 53)) (.cells #[.int .i64 m.kind, .int .i64 m.id, .int .i64 m.node, .int .i64 m.gen, .int .i64 m.stamp, .int .u64 m.epoch, .int .i64 m.err, .slice A m.locks.length c] 59)
    rw [show (w.alloc (.cells #[.int .i64 m.kind, .int .i64 m.id, .int .i64 m.node, .int .i64 m.gen, .int .i64 m.stamp, .int .u64 m.epoch, .int .i64 m.err, .slice A m.locks.length c] 53)).heap.size = w.heap.size + 1 by simp] at this
    exact this
  generalize ((w.alloc (.cells #[.int .i64 m.kind, .int .i64 m.id, .int .i64 m.node, .int .i64 m.gen, .int .i64 m.stamp, .int .u64 m.epoch, .int .i64 m.err, .slice A m.locks.length c] 53)).alloc (.cells #[.int .i64 m.kind, .int .i64 m.id, .int .i64 m.node, .int .i64 m.gen, .int .i64 m.stamp, .int .u64 m.epoch, .int .i64 m.err, .slice A m.locks.length c] 59)) = W8 at hB h8 ⊢
  have r0 : W8.cell? ⟨w.heap.size + 1, 0, none⟩ = some (.int .i64 m.kind) := by rw [Lib.cell_of_heap h8]; rfl
  have r1 : W8.cell? ⟨w.heap.size + 1, 1, none⟩ = some (.int .i64 m.id) := by rw [Lib.cell_of_heap h8]; rfl
  have r2 : W8.cell? ⟨w.heap.size + 1, 2, none⟩ = some (.int .i64 m.node) := by rw [Lib.cell_of_heap h8]; rfl
  have r3 : W8.cell? ⟨w.heap.size + 1, 3, none⟩ = some (.int .i64 m.gen) := by rw [Lib.cell_of_heap h8]; rfl
  have r4 : W8.cell? ⟨w.heap.size + 1, 4, none⟩ = some (.int .i64 m.stamp) := by rw [Lib.cell_of_heap h8]; rfl
  have r5 : W8.cell? ⟨w.heap.size + 1, 5, none⟩ = some (.int .u64 m.epoch) := by rw [Lib.cell_of_heap h8]; rfl
  have r6 : W8.cell? ⟨w.heap.size + 1, 6, none⟩ = some (.int .i64 m.err) := by rw [Lib.cell_of_heap h8]; rfl
  have r7 : W8.cell? ⟨w.heap.size + 1, 7, none⟩ = some (.slice A m.locks.length c) := by rw [Lib.cell_of_heap h8]; rfl
  have hlt8 := lt_of_heap h8
  exact bodyPost_ret (v := .agg #[.int .i64 m.kind, .int .i64 m.id, .int .i64 m.node, .int .i64 m.gen, .int .i64 m.stamp, .int .u64 m.epoch, .int .i64 m.err, .slice A m.locks.length c]) (by simp [results, Tryd.results37, go_sem, r0, r1, r2, r3, r4, r5, r6, r7, hlt8]) rfl ⟨rfl, hB⟩

set_option maxHeartbeats 4000000 in
set_option maxRecDepth 100000 in
theorem sameM_calls (m : MsgR) (A A2 : Option Addr) (c c2 : Nat) (w : World) (h1 : Locks w A m.locks) (h2 : Locks w A2 m.locks) (hc : m.locks.length ≤ c) (hc2 : m.locks.length ≤ c2) (hl : m.locks.length ≤ 9223372036854775806) :
    Calls Tryd.prog 36 #[msgV m A c, msgV m A2 c2] w fun r w' => r = .returned (.bool true) ∧ Below w.heap.size w w' := by
  have HS := Lib.hid (fun W (g1 : Locks W A m.locks) (g2 : Locks W A2 m.locks) => sameLocks_calls m.locks A A2 c c2 W g1 g2 hc hc2 hl)
  have H1 := Lib.hid h1
  have H2 := Lib.hid h2
  clear h1 h2
  simp only [msgV]
  go_enter Tryd.func36, Tryd.ntmps36
  go_wp2_with fail
  refine (HS.out _ (H1.out.below (al (al (Below.refl _ w) _) _)) (H2.out.below (al (al (Below.refl _ w) _) _))).mono ?_
  rintro r w3 ⟨rfl, mm, rfl⟩
  go_wp2
  go_ret
  exact ⟨rfl, (al (al (Below.refl _ w) _) _).trans (dr _ mm _ (by simp; omega))⟩

end Go.Proofs.YtpbmclaglkcmoaaDoor
