import Derived.Test.YtpbmclaglkcmoaaDoorMsgAlive
namespace Go.Proofs.YtpbmclaglkcmoaaDoor
open Go.RowKit
set_option linter.unusedVariables false
set_option linter.unusedSimpArgs false

def mk (k n : Int) : MsgR := ⟨k, n, 0, 0, 0, 0, 0, []⟩
def goodB (k n : Int) : Bool := decide (1 ≤ k) && decide (k ≤ 15) && (decide (0 ≤ n) && decide (n ≤ 2147483647))
theorem msgOk_mk (k n : Int) : msgOk (mk k n) = goodB k n := by
  by_cases a : 1 ≤ k <;> by_cases b : k ≤ 15 <;> by_cases c : 0 ≤ n <;> by_cases d : n ≤ 2147483647 <;> simp [msgOk, mk, numsM, numOk, goodB, a, b, c, d]

theorem eight (k : Int) : k = 1 ∨ k = 3 ∨ k = 5 ∨ k = 9 ∨ k = 11 ∨ k = 13 ∨ k = 14 ∨ k = 15 ∨ ((k == 1) = false ∧ (k == 3) = false ∧ (k == 5) = false ∧ (k == 9) = false ∧ (k == 11) = false ∧ (k == 13) = false ∧ (k == 14) = false ∧ (k == 15) = false) := by
  simp only [beq_eq_false_iff_ne]
  omega

/-- How many kinds below i are told the server. -/
def cu : Nat → Nat
  | 0 => 0
  | i + 1 => cu i + (if upB i then 1 else 0)
theorem cu_le : ∀ i, cu i ≤ i
  | 0 => Nat.le_refl _
  | i + 1 => by have := cu_le i; unfold cu; split <;> omega

set_option maxHeartbeats 8000000 in
set_option maxRecDepth 100000 in
theorem msgKinds_calls (k n : Int) (w : World) : Calls Tryd.prog 6 #[.int .i64 k, .int .i64 n] w fun r w' => r = .returned (.bool true) ∧ Below w.heap.size w w' := by
  have HPUT := Lib.hid (fun W => msgPut_calls (mk k n) none 0 W (Locks.nil _ _) (Nat.zero_le _) (show (0 : Int) ≤ 0 ∧ (0 : Int) < 18446744073709551616 by decide))
  have HVAL := Lib.hid (fun W => msgValid_calls (mk k n) none 0 W (Locks.nil _ _) (Nat.zero_le _))
  rw [msgOk_mk] at HPUT HVAL
  generalize encM (mk k n) = E0 at HPUT
  simp only [msgV, mk, List.length_nil] at HPUT HVAL
  have HUP := Lib.hid (fun i W => up_calls i W)
  have HAL := Lib.hid (fun W => alive20_calls W)
  go_enter Tryd.func6, Tryd.ntmps6
  go_wp2_with fail
  go_loopw [5, 6] (fun s5 s6 wr => ∃ i : Nat, 1 ≤ i ∧ i ≤ 16 ∧ s6 = .int .i64 i ∧ s5 = .int .i64 (cu i) ∧ Hid (wr = w)) (fun _ s6 _ => 16 - (intOf s6).toNat)
  case atStart => exact ⟨1, by omega, by omega, rfl, rfl, rfl⟩
  case round =>
    obtain ⟨i, hi1, hi2, rfl, rfl, HW⟩ := hrel
    have hw := HW.out
    subst hw
    clear HW
    have hcl := cu_le i
    by_cases hlt : i ≤ 15
    · have hi : (i : Int) ≤ 15 := by omega
      have hU := HUP.out (i : Int)
      have hcs : Hid (cu (i + 1) = cu i + (if upB i then 1 else 0)) := rfl
      cases hb : upB (i : Int) with
      | true =>
        rw [hb] at hU hcs
        have HU := Lib.hid hU
        clear hU hb
        go_wp2_with fail
        refine (HU.out _).mono ?_
        rintro r w1 ⟨rfl, rfl⟩
        go_wp2
        go_roundw
        case rel => exact ⟨i + 1, by omega, by omega, by go_num, by rw [hcs.out]; rfl, by first | exact True.intro | rfl⟩
        case measure => simp [intOf]; omega
      | false =>
        rw [hb] at hU hcs
        have HU := Lib.hid hU
        clear hU hb
        go_wp2_with fail
        refine (HU.out _).mono ?_
        rintro r w1 ⟨rfl, rfl⟩
        go_wp2
        go_roundw
        case rel => exact ⟨i + 1, by omega, by omega, by go_num, by rw [hcs.out]; rfl, by first | exact True.intro | rfl⟩
        case measure => simp [intOf]; omega
    · have hi : i = 16 := by omega
      subst hi
      have hc8 : cu 16 = 8 := by decide
      rw [hc8]
      clear hc8 hcl hlt
      go_wp2_with fail
      have HG := Lib.hid (show goodB k n = (decide (1 ≤ k) && decide (k ≤ 15) && (decide (0 ≤ n) && decide (n ≤ 2147483647))) from rfl)
      have BK := Lib.hid (al (Below.refl _ wr) (.cells #[.int .i64 k, .int .i64 n, .int .i64 0, .int .i64 0, .int .i64 0, .int .u64 0, .int .i64 0, .slice none 0 0] 53))
      have HB := Lib.hid (heap_alloc_new wr (.cells #[.int .i64 k, .int .i64 n, .int .i64 0, .int .i64 0, .int .i64 0, .int .u64 0, .int .i64 0, .slice none 0 0] 53))
      have hu := HUP.out k
      have HU9 : Hid (upB k = (k == 1 || k == 3 || k == 5 || k == 9 || k == 11 || k == 13 || k == 14 || k == 15)) := rfl
      generalize upB k = ub at hu HU9
      have HUK := Lib.hid hu
      clear hu HUP
      generalize goodB k n = gd at HPUT HVAL HG
      cases gd with
      | true =>
        simp only [if_true] at HPUT
        have hg2 := HG.out.symm
        simp only [Bool.and_eq_true, decide_eq_true_eq] at hg2
        obtain ⟨⟨hk1, hk2⟩, hn1, hn2⟩ := hg2
        clear HG
        refine (HPUT.out _).mono ?_
        rintro r w1 ⟨rfl, b1⟩
        have o1 : Hid (w1.heap[wr.heap.size]? = some (.cells #[.int .i64 k, .int .i64 n, .int .i64 0, .int .i64 0, .int .i64 0, .int .u64 0, .int .i64 0, .slice none 0 0] 53 (0, 0))) := (b1.block wr.heap.size (by simp)).trans HB.out
        have B1 := Lib.hid (BK.out.trans (b1.mono (by simp)))
        clear b1
        go_wp2_with fail
        refine (HAL.out _).mono ?_
        rintro r w2 ⟨rfl, b2⟩
        have o2 : w2.heap[wr.heap.size]? = some (.cells #[.int .i64 k, .int .i64 n, .int .i64 0, .int .i64 0, .int .i64 0, .int .u64 0, .int .i64 0, .slice none 0 0] 53 (0, 0)) := (b2.block wr.heap.size (lt_of_heap o1.out)).trans o1.out
        have B2 := Lib.hid (B1.out.trans (b2.mono B1.out.size))
        have c0 : w2.cell? ⟨wr.heap.size, 0, none⟩ = some (.int .i64 k) := by rw [Lib.cell_of_heap o2]; rfl
        have c1 : w2.cell? ⟨wr.heap.size, 1, none⟩ = some (.int .i64 n) := by rw [Lib.cell_of_heap o2]; rfl
        have c2 : w2.cell? ⟨wr.heap.size, 2, none⟩ = some (.int .i64 0) := by rw [Lib.cell_of_heap o2]; rfl
        have c3 : w2.cell? ⟨wr.heap.size, 3, none⟩ = some (.int .i64 0) := by rw [Lib.cell_of_heap o2]; rfl
        have c4 : w2.cell? ⟨wr.heap.size, 4, none⟩ = some (.int .i64 0) := by rw [Lib.cell_of_heap o2]; rfl
        have c5 : w2.cell? ⟨wr.heap.size, 5, none⟩ = some (.int .u64 0) := by rw [Lib.cell_of_heap o2]; rfl
        have c6 : w2.cell? ⟨wr.heap.size, 6, none⟩ = some (.int .i64 0) := by rw [Lib.cell_of_heap o2]; rfl
        have c7 : w2.cell? ⟨wr.heap.size, 7, none⟩ = some (.slice none 0 0) := by rw [Lib.cell_of_heap o2]; rfl
        clear b2 o2
        go_wp2_with fail
        refine (HUK.out _).mono ?_
        rintro r w3 ⟨rfl, rfl⟩
        rcases eight k with rfl | rfl | rfl | rfl | rfl | rfl | rfl | rfl | ⟨g1, g3, g5, g9, g11, g13, g14, g15⟩
        · have hub : ub = true := HU9.out
          subst hub
          go_wp2_with fail
          refine (HVAL.out _).mono ?_
          rintro r w4 ⟨rfl, b4⟩
          go_wp2
          go_ret
          exact ⟨rfl, B2.out.trans (b4.mono B2.out.size)⟩
        · have hub : ub = true := HU9.out
          subst hub
          go_wp2_with fail
          refine (HVAL.out _).mono ?_
          rintro r w4 ⟨rfl, b4⟩
          go_wp2
          go_ret
          exact ⟨rfl, B2.out.trans (b4.mono B2.out.size)⟩
        · have hub : ub = true := HU9.out
          subst hub
          go_wp2_with fail
          refine (HVAL.out _).mono ?_
          rintro r w4 ⟨rfl, b4⟩
          go_wp2
          go_ret
          exact ⟨rfl, B2.out.trans (b4.mono B2.out.size)⟩
        · have hub : ub = true := HU9.out
          subst hub
          go_wp2_with fail
          refine (HVAL.out _).mono ?_
          rintro r w4 ⟨rfl, b4⟩
          go_wp2
          go_ret
          exact ⟨rfl, B2.out.trans (b4.mono B2.out.size)⟩
        · have hub : ub = true := HU9.out
          subst hub
          go_wp2_with fail
          refine (HVAL.out _).mono ?_
          rintro r w4 ⟨rfl, b4⟩
          go_wp2
          go_ret
          exact ⟨rfl, B2.out.trans (b4.mono B2.out.size)⟩
        · have hub : ub = true := HU9.out
          subst hub
          go_wp2_with fail
          refine (HVAL.out _).mono ?_
          rintro r w4 ⟨rfl, b4⟩
          go_wp2
          go_ret
          exact ⟨rfl, B2.out.trans (b4.mono B2.out.size)⟩
        · have hub : ub = true := HU9.out
          subst hub
          go_wp2_with fail
          refine (HVAL.out _).mono ?_
          rintro r w4 ⟨rfl, b4⟩
          go_wp2
          go_ret
          exact ⟨rfl, B2.out.trans (b4.mono B2.out.size)⟩
        · have hub : ub = true := HU9.out
          subst hub
          go_wp2_with fail
          refine (HVAL.out _).mono ?_
          rintro r w4 ⟨rfl, b4⟩
          go_wp2
          go_ret
          exact ⟨rfl, B2.out.trans (b4.mono B2.out.size)⟩
        · have hub : ub = false := by rw [HU9.out, g1, g3, g5, g9, g11, g13, g14, g15]; rfl
          subst hub
          go_wp2_with fail
          refine (HVAL.out _).mono ?_
          rintro r w4 ⟨rfl, b4⟩
          go_wp2
          go_ret
          exact ⟨rfl, B2.out.trans (b4.mono B2.out.size)⟩
      | false =>
        simp only [Bool.false_eq_true, if_false] at HPUT
        have hcase : k < 1 ∨ (1 ≤ k ∧ 15 < k) ∨ (1 ≤ k ∧ k ≤ 15 ∧ n < 0) ∨ (1 ≤ k ∧ k ≤ 15 ∧ 0 ≤ n ∧ 2147483647 < n) := by
          have h := HG.out
          by_cases a : 1 ≤ k
          · by_cases b : k ≤ 15
            · by_cases c : 0 ≤ n
              · by_cases d : n ≤ 2147483647
                · simp [a, b, c, d] at h
                · omega
              · omega
            · omega
          · omega
        clear HG
        rcases hcase with hk1 | ⟨hk1, hk2⟩ | ⟨hk1, hk2, hn1⟩ | ⟨hk1, hk2, hn1, hn2⟩
        · have hk0 : ¬ 1 ≤ k := by omega
          refine (HPUT.out _).mono ?_
          rintro r w1 ⟨rfl, b1⟩
          have o1 : Hid (w1.heap[wr.heap.size]? = some (.cells #[.int .i64 k, .int .i64 n, .int .i64 0, .int .i64 0, .int .i64 0, .int .u64 0, .int .i64 0, .slice none 0 0] 53 (0, 0))) := (b1.block wr.heap.size (by simp)).trans HB.out
          have B1 := Lib.hid (BK.out.trans (b1.mono (by simp)))
          clear b1
          go_wp2_with fail
          refine (HAL.out _).mono ?_
          rintro r w2 ⟨rfl, b2⟩
          have o2 : w2.heap[wr.heap.size]? = some (.cells #[.int .i64 k, .int .i64 n, .int .i64 0, .int .i64 0, .int .i64 0, .int .u64 0, .int .i64 0, .slice none 0 0] 53 (0, 0)) := (b2.block wr.heap.size (lt_of_heap o1.out)).trans o1.out
          have B2 := Lib.hid (B1.out.trans (b2.mono B1.out.size))
          have c0 : w2.cell? ⟨wr.heap.size, 0, none⟩ = some (.int .i64 k) := by rw [Lib.cell_of_heap o2]; rfl
          have c1 : w2.cell? ⟨wr.heap.size, 1, none⟩ = some (.int .i64 n) := by rw [Lib.cell_of_heap o2]; rfl
          have c2 : w2.cell? ⟨wr.heap.size, 2, none⟩ = some (.int .i64 0) := by rw [Lib.cell_of_heap o2]; rfl
          have c3 : w2.cell? ⟨wr.heap.size, 3, none⟩ = some (.int .i64 0) := by rw [Lib.cell_of_heap o2]; rfl
          have c4 : w2.cell? ⟨wr.heap.size, 4, none⟩ = some (.int .i64 0) := by rw [Lib.cell_of_heap o2]; rfl
          have c5 : w2.cell? ⟨wr.heap.size, 5, none⟩ = some (.int .u64 0) := by rw [Lib.cell_of_heap o2]; rfl
          have c6 : w2.cell? ⟨wr.heap.size, 6, none⟩ = some (.int .i64 0) := by rw [Lib.cell_of_heap o2]; rfl
          have c7 : w2.cell? ⟨wr.heap.size, 7, none⟩ = some (.slice none 0 0) := by rw [Lib.cell_of_heap o2]; rfl
          clear b2 o2
          go_wp2_with fail
          refine (HUK.out _).mono ?_
          rintro r w3 ⟨rfl, rfl⟩
          have g1 : (k == 1) = false := beq_eq_false_iff_ne.2 (by omega)
          have g3 : (k == 3) = false := beq_eq_false_iff_ne.2 (by omega)
          have g5 : (k == 5) = false := beq_eq_false_iff_ne.2 (by omega)
          have g9 : (k == 9) = false := beq_eq_false_iff_ne.2 (by omega)
          have g11 : (k == 11) = false := beq_eq_false_iff_ne.2 (by omega)
          have g13 : (k == 13) = false := beq_eq_false_iff_ne.2 (by omega)
          have g14 : (k == 14) = false := beq_eq_false_iff_ne.2 (by omega)
          have g15 : (k == 15) = false := beq_eq_false_iff_ne.2 (by omega)
          have hub : ub = false := by rw [HU9.out, g1, g3, g5, g9, g11, g13, g14, g15]; rfl
          subst hub
          go_wp2_with fail
          refine (HVAL.out _).mono ?_
          rintro r w4 ⟨rfl, b4⟩
          go_wp2
          go_ret
          exact ⟨rfl, B2.out.trans (b4.mono B2.out.size)⟩
        · have hk0 : ¬ k ≤ 15 := by omega
          refine (HPUT.out _).mono ?_
          rintro r w1 ⟨rfl, b1⟩
          have o1 : Hid (w1.heap[wr.heap.size]? = some (.cells #[.int .i64 k, .int .i64 n, .int .i64 0, .int .i64 0, .int .i64 0, .int .u64 0, .int .i64 0, .slice none 0 0] 53 (0, 0))) := (b1.block wr.heap.size (by simp)).trans HB.out
          have B1 := Lib.hid (BK.out.trans (b1.mono (by simp)))
          clear b1
          go_wp2_with fail
          refine (HAL.out _).mono ?_
          rintro r w2 ⟨rfl, b2⟩
          have o2 : w2.heap[wr.heap.size]? = some (.cells #[.int .i64 k, .int .i64 n, .int .i64 0, .int .i64 0, .int .i64 0, .int .u64 0, .int .i64 0, .slice none 0 0] 53 (0, 0)) := (b2.block wr.heap.size (lt_of_heap o1.out)).trans o1.out
          have B2 := Lib.hid (B1.out.trans (b2.mono B1.out.size))
          have c0 : w2.cell? ⟨wr.heap.size, 0, none⟩ = some (.int .i64 k) := by rw [Lib.cell_of_heap o2]; rfl
          have c1 : w2.cell? ⟨wr.heap.size, 1, none⟩ = some (.int .i64 n) := by rw [Lib.cell_of_heap o2]; rfl
          have c2 : w2.cell? ⟨wr.heap.size, 2, none⟩ = some (.int .i64 0) := by rw [Lib.cell_of_heap o2]; rfl
          have c3 : w2.cell? ⟨wr.heap.size, 3, none⟩ = some (.int .i64 0) := by rw [Lib.cell_of_heap o2]; rfl
          have c4 : w2.cell? ⟨wr.heap.size, 4, none⟩ = some (.int .i64 0) := by rw [Lib.cell_of_heap o2]; rfl
          have c5 : w2.cell? ⟨wr.heap.size, 5, none⟩ = some (.int .u64 0) := by rw [Lib.cell_of_heap o2]; rfl
          have c6 : w2.cell? ⟨wr.heap.size, 6, none⟩ = some (.int .i64 0) := by rw [Lib.cell_of_heap o2]; rfl
          have c7 : w2.cell? ⟨wr.heap.size, 7, none⟩ = some (.slice none 0 0) := by rw [Lib.cell_of_heap o2]; rfl
          clear b2 o2
          go_wp2_with fail
          refine (HUK.out _).mono ?_
          rintro r w3 ⟨rfl, rfl⟩
          have g1 : (k == 1) = false := beq_eq_false_iff_ne.2 (by omega)
          have g3 : (k == 3) = false := beq_eq_false_iff_ne.2 (by omega)
          have g5 : (k == 5) = false := beq_eq_false_iff_ne.2 (by omega)
          have g9 : (k == 9) = false := beq_eq_false_iff_ne.2 (by omega)
          have g11 : (k == 11) = false := beq_eq_false_iff_ne.2 (by omega)
          have g13 : (k == 13) = false := beq_eq_false_iff_ne.2 (by omega)
          have g14 : (k == 14) = false := beq_eq_false_iff_ne.2 (by omega)
          have g15 : (k == 15) = false := beq_eq_false_iff_ne.2 (by omega)
          have hub : ub = false := by rw [HU9.out, g1, g3, g5, g9, g11, g13, g14, g15]; rfl
          subst hub
          go_wp2_with fail
          refine (HVAL.out _).mono ?_
          rintro r w4 ⟨rfl, b4⟩
          go_wp2
          go_ret
          exact ⟨rfl, B2.out.trans (b4.mono B2.out.size)⟩
        · have hk0 : ¬ 0 ≤ n := by omega
          refine (HPUT.out _).mono ?_
          rintro r w1 ⟨rfl, b1⟩
          have o1 : Hid (w1.heap[wr.heap.size]? = some (.cells #[.int .i64 k, .int .i64 n, .int .i64 0, .int .i64 0, .int .i64 0, .int .u64 0, .int .i64 0, .slice none 0 0] 53 (0, 0))) := (b1.block wr.heap.size (by simp)).trans HB.out
          have B1 := Lib.hid (BK.out.trans (b1.mono (by simp)))
          clear b1
          go_wp2_with fail
          refine (HAL.out _).mono ?_
          rintro r w2 ⟨rfl, b2⟩
          have o2 : w2.heap[wr.heap.size]? = some (.cells #[.int .i64 k, .int .i64 n, .int .i64 0, .int .i64 0, .int .i64 0, .int .u64 0, .int .i64 0, .slice none 0 0] 53 (0, 0)) := (b2.block wr.heap.size (lt_of_heap o1.out)).trans o1.out
          have B2 := Lib.hid (B1.out.trans (b2.mono B1.out.size))
          have c0 : w2.cell? ⟨wr.heap.size, 0, none⟩ = some (.int .i64 k) := by rw [Lib.cell_of_heap o2]; rfl
          have c1 : w2.cell? ⟨wr.heap.size, 1, none⟩ = some (.int .i64 n) := by rw [Lib.cell_of_heap o2]; rfl
          have c2 : w2.cell? ⟨wr.heap.size, 2, none⟩ = some (.int .i64 0) := by rw [Lib.cell_of_heap o2]; rfl
          have c3 : w2.cell? ⟨wr.heap.size, 3, none⟩ = some (.int .i64 0) := by rw [Lib.cell_of_heap o2]; rfl
          have c4 : w2.cell? ⟨wr.heap.size, 4, none⟩ = some (.int .i64 0) := by rw [Lib.cell_of_heap o2]; rfl
          have c5 : w2.cell? ⟨wr.heap.size, 5, none⟩ = some (.int .u64 0) := by rw [Lib.cell_of_heap o2]; rfl
          have c6 : w2.cell? ⟨wr.heap.size, 6, none⟩ = some (.int .i64 0) := by rw [Lib.cell_of_heap o2]; rfl
          have c7 : w2.cell? ⟨wr.heap.size, 7, none⟩ = some (.slice none 0 0) := by rw [Lib.cell_of_heap o2]; rfl
          clear b2 o2
          go_wp2_with fail
          refine (HUK.out _).mono ?_
          rintro r w3 ⟨rfl, rfl⟩
          rcases eight k with rfl | rfl | rfl | rfl | rfl | rfl | rfl | rfl | ⟨g1, g3, g5, g9, g11, g13, g14, g15⟩
          · have hub : ub = true := HU9.out
            subst hub
            go_wp2_with fail
            refine (HVAL.out _).mono ?_
            rintro r w4 ⟨rfl, b4⟩
            go_wp2
            go_ret
            exact ⟨rfl, B2.out.trans (b4.mono B2.out.size)⟩
          · have hub : ub = true := HU9.out
            subst hub
            go_wp2_with fail
            refine (HVAL.out _).mono ?_
            rintro r w4 ⟨rfl, b4⟩
            go_wp2
            go_ret
            exact ⟨rfl, B2.out.trans (b4.mono B2.out.size)⟩
          · have hub : ub = true := HU9.out
            subst hub
            go_wp2_with fail
            refine (HVAL.out _).mono ?_
            rintro r w4 ⟨rfl, b4⟩
            go_wp2
            go_ret
            exact ⟨rfl, B2.out.trans (b4.mono B2.out.size)⟩
          · have hub : ub = true := HU9.out
            subst hub
            go_wp2_with fail
            refine (HVAL.out _).mono ?_
            rintro r w4 ⟨rfl, b4⟩
            go_wp2
            go_ret
            exact ⟨rfl, B2.out.trans (b4.mono B2.out.size)⟩
          · have hub : ub = true := HU9.out
            subst hub
            go_wp2_with fail
            refine (HVAL.out _).mono ?_
            rintro r w4 ⟨rfl, b4⟩
            go_wp2
            go_ret
            exact ⟨rfl, B2.out.trans (b4.mono B2.out.size)⟩
          · have hub : ub = true := HU9.out
            subst hub
            go_wp2_with fail
            refine (HVAL.out _).mono ?_
            rintro r w4 ⟨rfl, b4⟩
            go_wp2
            go_ret
            exact ⟨rfl, B2.out.trans (b4.mono B2.out.size)⟩
          · have hub : ub = true := HU9.out
            subst hub
            go_wp2_with fail
            refine (HVAL.out _).mono ?_
            rintro r w4 ⟨rfl, b4⟩
            go_wp2
            go_ret
            exact ⟨rfl, B2.out.trans (b4.mono B2.out.size)⟩
          · have hub : ub = true := HU9.out
            subst hub
            go_wp2_with fail
            refine (HVAL.out _).mono ?_
            rintro r w4 ⟨rfl, b4⟩
            go_wp2
            go_ret
            exact ⟨rfl, B2.out.trans (b4.mono B2.out.size)⟩
          · have hub : ub = false := by rw [HU9.out, g1, g3, g5, g9, g11, g13, g14, g15]; rfl
            subst hub
            go_wp2_with fail
            refine (HVAL.out _).mono ?_
            rintro r w4 ⟨rfl, b4⟩
            go_wp2
            go_ret
            exact ⟨rfl, B2.out.trans (b4.mono B2.out.size)⟩
        · have hk0 : ¬ n ≤ 2147483647 := by omega
          refine (HPUT.out _).mono ?_
          rintro r w1 ⟨rfl, b1⟩
          have o1 : Hid (w1.heap[wr.heap.size]? = some (.cells #[.int .i64 k, .int .i64 n, .int .i64 0, .int .i64 0, .int .i64 0, .int .u64 0, .int .i64 0, .slice none 0 0] 53 (0, 0))) := (b1.block wr.heap.size (by simp)).trans HB.out
          have B1 := Lib.hid (BK.out.trans (b1.mono (by simp)))
          clear b1
          go_wp2_with fail
          refine (HAL.out _).mono ?_
          rintro r w2 ⟨rfl, b2⟩
          have o2 : w2.heap[wr.heap.size]? = some (.cells #[.int .i64 k, .int .i64 n, .int .i64 0, .int .i64 0, .int .i64 0, .int .u64 0, .int .i64 0, .slice none 0 0] 53 (0, 0)) := (b2.block wr.heap.size (lt_of_heap o1.out)).trans o1.out
          have B2 := Lib.hid (B1.out.trans (b2.mono B1.out.size))
          have c0 : w2.cell? ⟨wr.heap.size, 0, none⟩ = some (.int .i64 k) := by rw [Lib.cell_of_heap o2]; rfl
          have c1 : w2.cell? ⟨wr.heap.size, 1, none⟩ = some (.int .i64 n) := by rw [Lib.cell_of_heap o2]; rfl
          have c2 : w2.cell? ⟨wr.heap.size, 2, none⟩ = some (.int .i64 0) := by rw [Lib.cell_of_heap o2]; rfl
          have c3 : w2.cell? ⟨wr.heap.size, 3, none⟩ = some (.int .i64 0) := by rw [Lib.cell_of_heap o2]; rfl
          have c4 : w2.cell? ⟨wr.heap.size, 4, none⟩ = some (.int .i64 0) := by rw [Lib.cell_of_heap o2]; rfl
          have c5 : w2.cell? ⟨wr.heap.size, 5, none⟩ = some (.int .u64 0) := by rw [Lib.cell_of_heap o2]; rfl
          have c6 : w2.cell? ⟨wr.heap.size, 6, none⟩ = some (.int .i64 0) := by rw [Lib.cell_of_heap o2]; rfl
          have c7 : w2.cell? ⟨wr.heap.size, 7, none⟩ = some (.slice none 0 0) := by rw [Lib.cell_of_heap o2]; rfl
          clear b2 o2
          go_wp2_with fail
          refine (HUK.out _).mono ?_
          rintro r w3 ⟨rfl, rfl⟩
          rcases eight k with rfl | rfl | rfl | rfl | rfl | rfl | rfl | rfl | ⟨g1, g3, g5, g9, g11, g13, g14, g15⟩
          · have hub : ub = true := HU9.out
            subst hub
            go_wp2_with fail
            refine (HVAL.out _).mono ?_
            rintro r w4 ⟨rfl, b4⟩
            go_wp2
            go_ret
            exact ⟨by have hdn := decide_eq_false (Int.not_le.2 hn2); show Ending.returned (.bool (!decide (n ≤ 2147483647))) = _; rw [hdn]; rfl, B2.out.trans (b4.mono B2.out.size)⟩
          · have hub : ub = true := HU9.out
            subst hub
            go_wp2_with fail
            refine (HVAL.out _).mono ?_
            rintro r w4 ⟨rfl, b4⟩
            go_wp2
            go_ret
            exact ⟨by have hdn := decide_eq_false (Int.not_le.2 hn2); show Ending.returned (.bool (!decide (n ≤ 2147483647))) = _; rw [hdn]; rfl, B2.out.trans (b4.mono B2.out.size)⟩
          · have hub : ub = true := HU9.out
            subst hub
            go_wp2_with fail
            refine (HVAL.out _).mono ?_
            rintro r w4 ⟨rfl, b4⟩
            go_wp2
            go_ret
            exact ⟨by have hdn := decide_eq_false (Int.not_le.2 hn2); show Ending.returned (.bool (!decide (n ≤ 2147483647))) = _; rw [hdn]; rfl, B2.out.trans (b4.mono B2.out.size)⟩
          · have hub : ub = true := HU9.out
            subst hub
            go_wp2_with fail
            refine (HVAL.out _).mono ?_
            rintro r w4 ⟨rfl, b4⟩
            go_wp2
            go_ret
            exact ⟨by have hdn := decide_eq_false (Int.not_le.2 hn2); show Ending.returned (.bool (!decide (n ≤ 2147483647))) = _; rw [hdn]; rfl, B2.out.trans (b4.mono B2.out.size)⟩
          · have hub : ub = true := HU9.out
            subst hub
            go_wp2_with fail
            refine (HVAL.out _).mono ?_
            rintro r w4 ⟨rfl, b4⟩
            go_wp2
            go_ret
            exact ⟨by have hdn := decide_eq_false (Int.not_le.2 hn2); show Ending.returned (.bool (!decide (n ≤ 2147483647))) = _; rw [hdn]; rfl, B2.out.trans (b4.mono B2.out.size)⟩
          · have hub : ub = true := HU9.out
            subst hub
            go_wp2_with fail
            refine (HVAL.out _).mono ?_
            rintro r w4 ⟨rfl, b4⟩
            go_wp2
            go_ret
            exact ⟨by have hdn := decide_eq_false (Int.not_le.2 hn2); show Ending.returned (.bool (!decide (n ≤ 2147483647))) = _; rw [hdn]; rfl, B2.out.trans (b4.mono B2.out.size)⟩
          · have hub : ub = true := HU9.out
            subst hub
            go_wp2_with fail
            refine (HVAL.out _).mono ?_
            rintro r w4 ⟨rfl, b4⟩
            go_wp2
            go_ret
            exact ⟨by have hdn := decide_eq_false (Int.not_le.2 hn2); show Ending.returned (.bool (!decide (n ≤ 2147483647))) = _; rw [hdn]; rfl, B2.out.trans (b4.mono B2.out.size)⟩
          · have hub : ub = true := HU9.out
            subst hub
            go_wp2_with fail
            refine (HVAL.out _).mono ?_
            rintro r w4 ⟨rfl, b4⟩
            go_wp2
            go_ret
            exact ⟨by have hdn := decide_eq_false (Int.not_le.2 hn2); show Ending.returned (.bool (!decide (n ≤ 2147483647))) = _; rw [hdn]; rfl, B2.out.trans (b4.mono B2.out.size)⟩
          · have hub : ub = false := by rw [HU9.out, g1, g3, g5, g9, g11, g13, g14, g15]; rfl
            subst hub
            go_wp2_with fail
            refine (HVAL.out _).mono ?_
            rintro r w4 ⟨rfl, b4⟩
            go_wp2
            go_ret
            exact ⟨by have hdn := decide_eq_false (Int.not_le.2 hn2); show Ending.returned (.bool (!decide (n ≤ 2147483647))) = _; rw [hdn]; rfl, B2.out.trans (b4.mono B2.out.size)⟩

end Go.Proofs.YtpbmclaglkcmoaaDoor
