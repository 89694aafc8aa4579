import Derived.Test.YtpbmclaglkcmoaaRecLaw
import Derived.Laws.OwnMore
namespace Go.Proofs.Ytpbmclaglkcmoaa
open Go.RowKit
set_option linter.unusedVariables false
set_option linter.unusedSimpArgs false

/-- make([]byte, n). -/
theorem make_zero (w : World) (n : Nat) (hn : n ≤ 1000000) :
    ∃ W, (Instr.makeSlice 58 (.int .i64 (n : Int)) (.int .i64 (n : Int))).run Try.prog w = .ok (.slice (some ⟨w.heap.size, 0, none⟩) n n) W ∧ BArr w.heap.size (List.replicate n 0) W ∧ Below w.heap.size w W := by
  obtain ⟨i0, hi', hz0, hz1, hz2⟩ := info_parts Try.info5w
  obtain ⟨W, hrun, ho, hg⟩ := run_make_full (P := Try.prog) w w.heap.size 58 5 i0 (.int .u8 0) 1 Try.underlying58 hi' hz0 hz1 .i64 .i64 n (by rw [hz2]; omega) (by simp only [maxLen]; omega) (Nat.le_refl _)
  have hB : Below w.heap.size w W := (Below.refl _ w).grown hg (Nat.le_refl _) (fun k h => by cases h)
  refine ⟨W, hrun, ?_, hB⟩
  have hz : (madeCells (Value.int .u8 0).cells (n * 1)).toList = List.replicate n (.int .u8 0) := by
    rw [Nat.mul_one]
    exact toList_madeCells_one _ _
  rw [hz] at ho
  rcases ho.2 with ⟨h1, _⟩ | ⟨g, cap, cur, h1, _, hh, hc, _, hcs, ht⟩
  · cases h1
  · cases h1
    refine ⟨lt_of_heap hh, fun j hj => ?_⟩
    have hj' : j < n := by simpa using hj
    refine ⟨?_, Lib.frozen_of_heap hh j⟩
    rw [Lib.cell_of_heap hh]
    have h2 : (cur.toList.take (n * 1))[j]? = (List.replicate n (Value.int .u8 0))[j]? := by rw [ht]
    rw [List.getElem?_take_of_lt (by omega), List.getElem?_replicate, if_pos hj'] at h2
    simpa using h2

set_option maxRecDepth 100000 in
theorem one_calls (w : World) :
    Calls Try.prog 64 #[.int .i64 3, .int .u64 4] w fun r w' => ∃ D : ByteArray, D.size = 96 ∧ r = .returned (.agg #[.int .i64 3, .int .u64 4, .string D]) ∧ Below w.heap.size w w' := by
  obtain ⟨W, hW⟩ : ∃ W, W = w.alloc (.cells #[.int .i64 0, .int .u64 0, .string { data := #[] }] 99) := ⟨_, rfl⟩
  obtain ⟨W1, hmake, hb1, hB1⟩ := make_zero W 96 (by decide)
  have hs1 : W.heap.size = w.heap.size + 1 := by rw [hW]; simp
  obtain ⟨g, hg⟩ : ∃ g, g = W.heap.size := ⟨_, rfl⟩
  rw [← hg] at hmake hb1 hB1
  have hne : w.heap.size ≠ g := by omega
  have hgle : w.heap.size ≤ g := by omega
  have gr : W1.heap[w.heap.size]? = some (.cells #[.int .i64 0, .int .u64 0, .string { data := #[] }] 99 (0, 0)) := by
    rw [hB1.block _ (by omega), hW]
    exact heap_alloc_new w _
  have b3 := hb1.set 0 (by simp) 3
  have hback := b3.back (P := Try.prog) 58 9 5 96 Try.underlying58 Try.underlying5 Try.underlying9
  simp only [List.length_set, List.length_replicate] at hback
  obtain ⟨D, hD⟩ : ∃ D : ByteArray, D = ⟨((List.replicate 96 (0 : UInt8)).set 0 3).toArray⟩ := ⟨_, rfl⟩
  rw [← hD] at hback
  have hDs : D.size = 96 := by rw [hD]; rfl
  have k0 := hb1.2 0 (by simp)
  have k0c : W1.cell? ⟨g, 0, none⟩ = some (.int .u8 0) := k0.1
  have k0f := k0.2
  have hB2 := Lib.hid (show Below w.heap.size w W1 from by
    have h1 := al (Below.refl _ w) (.cells #[.int .i64 0, .int .u64 0, .string { data := #[] }] 99)
    rw [← hW] at h1
    exact h1.trans (hB1.mono (by omega)))
  have hmake' : (Instr.makeSlice 58 (.int .i64 96) (.int .i64 96)).run Try.prog W = .ok (.slice (some ⟨g, 0, none⟩) 96 96) W1 := hmake
  have hback' : (convert 58 9 (.slice (some ⟨g, 0, none⟩) 96 96)).run Try.prog (W1.setCell ⟨g, 0, none⟩ (.int .u8 3)) = .ok (.string D) (W1.setCell ⟨g, 0, none⟩ (.int .u8 3)) := hback
  have c0 : W1.cell? ⟨w.heap.size, 0, none⟩ = some (.int .i64 0) := by rw [Lib.cell_of_heap gr]; rfl
  have c1 : W1.cell? ⟨w.heap.size, 1, none⟩ = some (.int .u64 0) := by rw [Lib.cell_of_heap gr]; rfl
  have c2 : W1.cell? ⟨w.heap.size, 2, none⟩ = some (.string { data := #[] }) := by rw [Lib.cell_of_heap gr]; rfl
  have f0 : W1.frozen? ⟨w.heap.size, 0, none⟩ = false := Lib.frozen_of_heap gr 0
  have f1 : W1.frozen? ⟨w.heap.size, 1, none⟩ = false := Lib.frozen_of_heap gr 1
  have f2 : W1.frozen? ⟨w.heap.size, 2, none⟩ = false := Lib.frozen_of_heap gr 2
  clear hmake hback k0 b3 hb1 gr hD hs1 hB1 hg
  subst hW
  go_enter Try.func64, Try.ntmps64
  go_wp2
  refine bodyPost_ret (v := .agg #[.int .i64 3, .int .u64 4, .string D]) (by simp [results, Try.results64, go_sem, c0, c1, c2, hne]) rfl ⟨D, hDs, rfl, ?_⟩
  have hB := hB2.out
  trace_state
  repeat (first | exact hB | refine sc ?_ (Nat.le_refl _) _ _ | refine sc ?_ hgle _ _)

end Go.Proofs.Ytpbmclaglkcmoaa
