import Derived.Test.YtpbmclaglkcmoaaDoorMsgSame2
import Derived.Test.YtpbmclaglkcmoaaDoorRegAct
namespace Go.Proofs.YtpbmclaglkcmoaaDoor
open Go.RowKit
set_option linter.unusedVariables false
set_option linter.unusedSimpArgs false

set_option maxHeartbeats 8000000 in
set_option maxRecDepth 100000 in
theorem msgBack_calls (m : MsgR) (A : Option Addr) (c : Nat) (cut : Int) (w : World) (hI : Locks w A m.locks) (hc : m.locks.length ≤ c) (hm : c ≤ 9223372036854775807) (he : 0 ≤ m.epoch ∧ m.epoch < 18446744073709551616) :
    Calls Tryd.prog 5 #[msgV m A c, .int .i64 cut] w fun r w' => r = .returned (.bool true) ∧ Below w.heap.size w w' := by
  have HI := Lib.hid hI
  clear hI
  have HAL := Lib.hid (fun W => alive20_calls W)
  have hb0 : (w.alloc (.cells #[.int .i64 m.kind, .int .i64 m.id, .int .i64 m.node, .int .i64 m.gen, .int .i64 m.stamp, .int .u64 m.epoch, .int .i64 m.err, .slice A m.locks.length c] 53)).heap[w.heap.size]? = some (.cells #[.int .i64 m.kind, .int .i64 m.id, .int .i64 m.node, .int .i64 m.gen, .int .i64 m.stamp, .int .u64 m.epoch, .int .i64 m.err, .slice A m.locks.length c] 53 (0, 0)) := heap_alloc_new w _
  have hB0 : Below w.heap.size w (w.alloc (.cells #[.int .i64 m.kind, .int .i64 m.id, .int .i64 m.node, .int .i64 m.gen, .int .i64 m.stamp, .int .u64 m.epoch, .int .i64 m.err, .slice A m.locks.length c] 53)) := al (Below.refl _ w) _
  have H0 := Lib.hid hb0
  have B0 := Lib.hid hB0
  have I0 := Lib.hid (HI.out.below hB0)
  by_cases h230 : 230 < m.locks.length
  · have hl : (230 : Int) < (m.locks.length : Int) := by omega
    clear hb0 hB0
    simp only [msgV]
    go_enter Tryd.func5, Tryd.ntmps5
    go_wp2_with fail
    refine (HAL.out _).mono ?_
    rintro r w1 ⟨rfl, b1⟩
    go_wp2
    go_ret
    exact ⟨rfl, B0.out.trans (b1.mono B0.out.size)⟩
  have hl : ¬ (230 : Int) < (m.locks.length : Int) := by omega
  have HM := Lib.hid (show m.locks.length ≤ 9223372036854775806 by omega)
  have HPUT := Lib.hid (fun W (hW : Locks W A m.locks) => msgPut_calls m A c W hW HM.out he)
  have HVAL := Lib.hid (fun W (hW : Locks W A m.locks) => msgValid_calls m A c W hW HM.out)
  have HC := Lib.hid hc
  clear hc hm
  clear hb0 hB0
  cases hok : msgOk m with
  | false =>
    rw [hok] at HPUT HVAL
    simp only [Bool.false_eq_true, if_false] at HPUT
    clear hok
    simp only [msgV] at HPUT HVAL ⊢
    go_enter Tryd.func5, Tryd.ntmps5
    go_wp2_with fail
    refine (HPUT.out _ I0.out).mono ?_
    rintro r w1 ⟨rfl, b1⟩
    have o1 : Hid (w1.heap[w.heap.size]? = some (.cells #[.int .i64 m.kind, .int .i64 m.id, .int .i64 m.node, .int .i64 m.gen, .int .i64 m.stamp, .int .u64 m.epoch, .int .i64 m.err, .slice A m.locks.length c] 53 (0, 0))) := (b1.block w.heap.size (by simp)).trans H0.out
    have B1 := Lib.hid (B0.out.trans (b1.mono B0.out.size))
    have I1 := Lib.hid (I0.out.below b1)
    clear b1
    go_wp2_with fail
    refine (HAL.out _).mono ?_
    rintro r w2 ⟨rfl, b2⟩
    have o2 : w2.heap[w.heap.size]? = some (.cells #[.int .i64 m.kind, .int .i64 m.id, .int .i64 m.node, .int .i64 m.gen, .int .i64 m.stamp, .int .u64 m.epoch, .int .i64 m.err, .slice A m.locks.length c] 53 (0, 0)) := (b2.block w.heap.size (lt_of_heap o1.out)).trans o1.out
    have B2 := Lib.hid (B1.out.trans (b2.mono B1.out.size))
    have I2 := Lib.hid (I1.out.below b2)
    have c0 : w2.cell? ⟨w.heap.size, 0, none⟩ = some (.int .i64 m.kind) := by rw [Lib.cell_of_heap o2]; rfl
    have c1 : w2.cell? ⟨w.heap.size, 1, none⟩ = some (.int .i64 m.id) := by rw [Lib.cell_of_heap o2]; rfl
    have c2 : w2.cell? ⟨w.heap.size, 2, none⟩ = some (.int .i64 m.node) := by rw [Lib.cell_of_heap o2]; rfl
    have c3 : w2.cell? ⟨w.heap.size, 3, none⟩ = some (.int .i64 m.gen) := by rw [Lib.cell_of_heap o2]; rfl
    have c4 : w2.cell? ⟨w.heap.size, 4, none⟩ = some (.int .i64 m.stamp) := by rw [Lib.cell_of_heap o2]; rfl
    have c5 : w2.cell? ⟨w.heap.size, 5, none⟩ = some (.int .u64 m.epoch) := by rw [Lib.cell_of_heap o2]; rfl
    have c6 : w2.cell? ⟨w.heap.size, 6, none⟩ = some (.int .i64 m.err) := by rw [Lib.cell_of_heap o2]; rfl
    have c7 : w2.cell? ⟨w.heap.size, 7, none⟩ = some (.slice A m.locks.length c) := by rw [Lib.cell_of_heap o2]; rfl
    clear b2 o2
    go_wp2_with fail
    refine (HVAL.out _ I2.out).mono ?_
    rintro r w3 ⟨rfl, b3⟩
    go_wp2
    go_ret
    exact ⟨rfl, B2.out.trans (b3.mono B2.out.size)⟩
  | true =>
    have HL : Hid (m.locks.length ≤ 230) := by show _ ≤ _; omega
    have HLEN := Lib.hid (encM_len m)
    have HG := Lib.hid (getD_enc m hok he)
    have HCUT := Lib.hid (fun k hk => getD_cut m hok k hk)
    have HPL := Lib.hid (fun W => plain_calls m A c W)
    have HSA := Lib.hid (fun A2 c2 W (g1 : Locks W A2 m.locks) (g2 : Locks W A m.locks) (hc2 : m.locks.length ≤ c2) => sameM_calls m A2 A c2 c W g1 g2 hc2 HC.out HM.out)
    rw [hok] at HPUT
    simp only [if_true] at HPUT
    clear hok he
    generalize encM m = E at HPUT HLEN HG HCUT
    have hE : E.length ≤ 5000 := by have := HLEN.out; have := HL.out; omega
    have HGET := Lib.hid (fun W => msgGet_calls E W (by omega))
    rw [HG.out] at HGET
    have HGEC := Lib.hid (fun (k : Nat) W => msgGet_calls (E.take k) W (by rw [List.length_take]; omega))
    have hsz : (bstr E).size = E.length := bstr_size E
    have HSZ := Lib.hid hsz
    have HE5 := Lib.hid hE
    clear hsz hE HG
    simp only [msgV] at HPUT HVAL HPL HSA HGET HGEC ⊢
    go_enter Tryd.func5, Tryd.ntmps5
    go_wp2_with fail
    refine (HPUT.out _ I0.out).mono ?_
    rintro r w1 ⟨rfl, b1⟩
    have o1 : Hid (w1.heap[w.heap.size]? = some (.cells #[.int .i64 m.kind, .int .i64 m.id, .int .i64 m.node, .int .i64 m.gen, .int .i64 m.stamp, .int .u64 m.epoch, .int .i64 m.err, .slice A m.locks.length c] 53 (0, 0))) := (b1.block w.heap.size (by simp)).trans H0.out
    have B1 := Lib.hid (B0.out.trans (b1.mono B0.out.size))
    have I1 := Lib.hid (I0.out.below b1)
    clear b1
    go_wp2_with fail
    refine (HGET.out _).mono ?_
    rintro r w2 ⟨mm, e, A2, c2, hme, rfl, hL2, hc2, b2⟩
    obtain ⟨hm1, hm2⟩ := Prod.mk.inj hme
    have hm3 := hm1.symm
    subst hm3
    subst hm2
    have o2 : Hid (w2.heap[w.heap.size]? = some (.cells #[.int .i64 m.kind, .int .i64 m.id, .int .i64 m.node, .int .i64 m.gen, .int .i64 m.stamp, .int .u64 m.epoch, .int .i64 m.err, .slice A m.locks.length c] 53 (0, 0))) := (b2.block w.heap.size (lt_of_heap o1.out)).trans o1.out
    have B2 := Lib.hid (B1.out.trans (b2.mono B1.out.size))
    have I2 := Lib.hid (I1.out.below b2)
    have L2 := Lib.hid hL2
    have C2 := Lib.hid hc2
    clear hme hL2 hc2 b2
    go_wp2_with fail
    have hx2 : Hid ((w2.alloc (.cells #[.int .i64 m.kind, .int .i64 m.id, .int .i64 m.node, .int .i64 m.gen, .int .i64 m.stamp, .int .u64 m.epoch, .int .i64 m.err, .slice A2 m.locks.length c2] 53)).heap[w2.heap.size]? = some (.cells #[.int .i64 m.kind, .int .i64 m.id, .int .i64 m.node, .int .i64 m.gen, .int .i64 m.stamp, .int .u64 m.epoch, .int .i64 m.err, .slice A2 m.locks.length c2] 53 (0, 0))) := heap_alloc_new w2 _
    have hm2 : Hid ((w2.alloc (.cells #[.int .i64 m.kind, .int .i64 m.id, .int .i64 m.node, .int .i64 m.gen, .int .i64 m.stamp, .int .u64 m.epoch, .int .i64 m.err, .slice A2 m.locks.length c2] 53)).heap[w.heap.size]? = some (.cells #[.int .i64 m.kind, .int .i64 m.id, .int .i64 m.node, .int .i64 m.gen, .int .i64 m.stamp, .int .u64 m.epoch, .int .i64 m.err, .slice A m.locks.length c] 53 (0, 0))) := (Lib.alloc_old w2 _ _ (lt_of_heap o2.out)).trans o2.out
    have L3 := Lib.hid (L2.out.below (al (Below.refl _ w2) (.cells #[.int .i64 m.kind, .int .i64 m.id, .int .i64 m.node, .int .i64 m.gen, .int .i64 m.stamp, .int .u64 m.epoch, .int .i64 m.err, .slice A2 m.locks.length c2] 53)))
    have I3 := Lib.hid (I2.out.below (al (Below.refl _ w2) (.cells #[.int .i64 m.kind, .int .i64 m.id, .int .i64 m.node, .int .i64 m.gen, .int .i64 m.stamp, .int .u64 m.epoch, .int .i64 m.err, .slice A2 m.locks.length c2] 53)))
    have B3 := Lib.hid (al B2.out (.cells #[.int .i64 m.kind, .int .i64 m.id, .int .i64 m.node, .int .i64 m.gen, .int .i64 m.stamp, .int .u64 m.epoch, .int .i64 m.err, .slice A2 m.locks.length c2] 53))
    generalize (w2.alloc (.cells #[.int .i64 m.kind, .int .i64 m.id, .int .i64 m.node, .int .i64 m.gen, .int .i64 m.stamp, .int .u64 m.epoch, .int .i64 m.err, .slice A2 m.locks.length c2] 53)) = W0 at hx2 hm2 L3 I3 B3 ⊢
    refine wp_region_inv (by kernel_rfl) (fun w' => Below W0.heap.size W0 w') (fun w1 w2 => Below w1.heap.size w1 w2) (fun n v w' => ((#[.int .i64 0, .bool false, .bool false, .agg #[.int .i64 m.kind, .int .i64 m.id, .int .i64 m.node, .int .i64 m.gen, .int .i64 m.stamp, .int .u64 m.epoch, .int .i64 m.err, .slice A2 m.locks.length c2], .agg #[.int .i64 m.kind, .int .i64 m.id, .int .i64 m.node, .int .i64 m.gen, .int .i64 m.stamp, .int .u64 m.epoch, .int .i64 m.err, .slice A m.locks.length c], .agg #[.int .i64 m.kind, .int .i64 m.id, .int .i64 m.node, .int .i64 m.gen, .int .i64 m.stamp, .int .u64 m.epoch, .int .i64 m.err, .slice A m.locks.length c], .bool true, .bool false, .bool false] : Array Value).getD n undef) = v) (by kernel_rfl) (by kernel_rfl) (by kernel_rfl) (fun n v w1 w2 h _ hb => h) ((Below.refl _ W0).drew) ?_ ?_
    · refine ⟨?_, ?_, ?_, ?_, ?_, ?_, ?_, ?_, ?_, trivial⟩
      · intro a w1 hdef hsz hoth hJ hpre K hK
        have t8 := par_get hoth hsz 8 (by kernel_rfl) _ rfl
        rw [if_pos (wanted_none rfl)]
        clear hpre hoth hdef hsz
        go_simp
        exact hK _ _ hJ (Below.refl _ _) rfl
      · intro a w1 hdef hsz hoth hJ hpre K hK
        obtain ⟨v0, t0, f0⟩ := pre_get hpre 0 (by kernel_rfl) 42 rfl (by rw [hsz]; exact of_decide_eq_true (by kernel_rfl))
        obtain rfl : v0 = (.int .i64 0) := f0.symm
        rw [if_pos (wanted_none rfl)]
        clear hpre hoth hdef hsz
        go_simp
        exact hK _ _ hJ (Below.refl _ _) rfl
      · intro a w1 hdef hsz hoth hJ hpre K hK
        obtain ⟨v1, t1, f1⟩ := pre_get hpre 1 (by kernel_rfl) 43 rfl (by rw [hsz]; exact of_decide_eq_true (by kernel_rfl))
        obtain rfl : v1 = (.bool false) := f1.symm
        rw [if_pos (wanted_none rfl)]
        clear hpre hoth hdef hsz
        go_simp
        exact hK _ _ hJ (Below.refl _ _) rfl
      · intro a w1 hdef hsz hoth hJ hpre K hK
        obtain ⟨v2, t2, f2⟩ := pre_get hpre 2 (by kernel_rfl) 44 rfl (by rw [hsz]; exact of_decide_eq_true (by kernel_rfl))
        obtain rfl : v2 = (.bool false) := f2.symm
        have t7 := par_get hoth hsz 7 (by kernel_rfl) _ rfl
        have ob := (hJ.block _ (lt_of_heap hx2.out)).trans hx2.out
        have hltb := lt_of_heap ob
        have z0 : w1.cell? ⟨w2.heap.size, 0, none⟩ = some (.int .i64 m.kind) := by rw [Lib.cell_of_heap ob]; rfl
        have z1 : w1.cell? ⟨w2.heap.size, 1, none⟩ = some (.int .i64 m.id) := by rw [Lib.cell_of_heap ob]; rfl
        have z2 : w1.cell? ⟨w2.heap.size, 2, none⟩ = some (.int .i64 m.node) := by rw [Lib.cell_of_heap ob]; rfl
        have z3 : w1.cell? ⟨w2.heap.size, 3, none⟩ = some (.int .i64 m.gen) := by rw [Lib.cell_of_heap ob]; rfl
        have z4 : w1.cell? ⟨w2.heap.size, 4, none⟩ = some (.int .i64 m.stamp) := by rw [Lib.cell_of_heap ob]; rfl
        have z5 : w1.cell? ⟨w2.heap.size, 5, none⟩ = some (.int .u64 m.epoch) := by rw [Lib.cell_of_heap ob]; rfl
        have z6 : w1.cell? ⟨w2.heap.size, 6, none⟩ = some (.int .i64 m.err) := by rw [Lib.cell_of_heap ob]; rfl
        have z7 : w1.cell? ⟨w2.heap.size, 7, none⟩ = some (.slice A2 m.locks.length c2) := by rw [Lib.cell_of_heap ob]; rfl
        rw [if_pos (wanted_get 2 false rfl 44 rfl t2)]
        clear hpre hoth hdef hsz
        go_simp
        try simp only [z0, z1, z2, z3, z4, z5, z6, z7]
        exact hK _ _ hJ (Below.refl _ _) rfl
      · intro a w1 hdef hsz hoth hJ hpre K hK
        obtain ⟨v2, t2, f2⟩ := pre_get hpre 2 (by kernel_rfl) 44 rfl (by rw [hsz]; exact of_decide_eq_true (by kernel_rfl))
        obtain rfl : v2 = (.bool false) := f2.symm
        have t7 := par_get hoth hsz 2 (by kernel_rfl) _ rfl
        have ob := (hJ.block _ (lt_of_heap hm2.out)).trans hm2.out
        have hltb := lt_of_heap ob
        have z0 : w1.cell? ⟨w.heap.size, 0, none⟩ = some (.int .i64 m.kind) := by rw [Lib.cell_of_heap ob]; rfl
        have z1 : w1.cell? ⟨w.heap.size, 1, none⟩ = some (.int .i64 m.id) := by rw [Lib.cell_of_heap ob]; rfl
        have z2 : w1.cell? ⟨w.heap.size, 2, none⟩ = some (.int .i64 m.node) := by rw [Lib.cell_of_heap ob]; rfl
        have z3 : w1.cell? ⟨w.heap.size, 3, none⟩ = some (.int .i64 m.gen) := by rw [Lib.cell_of_heap ob]; rfl
        have z4 : w1.cell? ⟨w.heap.size, 4, none⟩ = some (.int .i64 m.stamp) := by rw [Lib.cell_of_heap ob]; rfl
        have z5 : w1.cell? ⟨w.heap.size, 5, none⟩ = some (.int .u64 m.epoch) := by rw [Lib.cell_of_heap ob]; rfl
        have z6 : w1.cell? ⟨w.heap.size, 6, none⟩ = some (.int .i64 m.err) := by rw [Lib.cell_of_heap ob]; rfl
        have z7 : w1.cell? ⟨w.heap.size, 7, none⟩ = some (.slice A m.locks.length c) := by rw [Lib.cell_of_heap ob]; rfl
        rw [if_pos (wanted_get 2 false rfl 44 rfl t2)]
        clear hpre hoth hdef hsz
        go_simp
        try simp only [z0, z1, z2, z3, z4, z5, z6, z7]
        exact hK _ _ hJ (Below.refl _ _) rfl
      · intro a w1 hdef hsz hoth hJ hpre K hK
        obtain ⟨v2, t2, f2⟩ := pre_get hpre 2 (by kernel_rfl) 44 rfl (by rw [hsz]; exact of_decide_eq_true (by kernel_rfl))
        obtain rfl : v2 = (.bool false) := f2.symm
        obtain ⟨v4, t4, f4⟩ := pre_get hpre 4 (by kernel_rfl) 46 rfl (by rw [hsz]; exact of_decide_eq_true (by kernel_rfl))
        obtain rfl : v4 = (.agg #[.int .i64 m.kind, .int .i64 m.id, .int .i64 m.node, .int .i64 m.gen, .int .i64 m.stamp, .int .u64 m.epoch, .int .i64 m.err, .slice A m.locks.length c]) := f4.symm
        rw [if_pos (wanted_get 2 false rfl 44 rfl t2)]
        clear hpre hoth hdef hsz
        go_simp
        refine (HPL.out _).mono ?_
        rintro r w4 ⟨rfl, b4⟩
        exact hK _ _ (hJ.trans (b4.mono hJ.size)) b4 rfl
      · intro a w1 hdef hsz hoth hJ hpre K hK
        obtain ⟨v2, t2, f2⟩ := pre_get hpre 2 (by kernel_rfl) 44 rfl (by rw [hsz]; exact of_decide_eq_true (by kernel_rfl))
        obtain rfl : v2 = (.bool false) := f2.symm
        obtain ⟨v3, t3, f3⟩ := pre_get hpre 3 (by kernel_rfl) 45 rfl (by rw [hsz]; exact of_decide_eq_true (by kernel_rfl))
        obtain rfl : v3 = (.agg #[.int .i64 m.kind, .int .i64 m.id, .int .i64 m.node, .int .i64 m.gen, .int .i64 m.stamp, .int .u64 m.epoch, .int .i64 m.err, .slice A2 m.locks.length c2]) := f3.symm
        obtain ⟨v5, t5, f5⟩ := pre_get hpre 5 (by kernel_rfl) 47 rfl (by rw [hsz]; exact of_decide_eq_true (by kernel_rfl))
        obtain rfl : v5 = (.agg #[.int .i64 m.kind, .int .i64 m.id, .int .i64 m.node, .int .i64 m.gen, .int .i64 m.stamp, .int .u64 m.epoch, .int .i64 m.err, .slice A m.locks.length c]) := f5.symm
        rw [if_pos (wanted_get 2 false rfl 44 rfl t2)]
        clear hpre hoth hdef hsz
        go_simp
        refine (HSA.out _ _ _ (L3.out.below hJ) (I3.out.below hJ) C2.out).mono ?_
        rintro r w4 ⟨rfl, b4⟩
        exact hK _ _ (hJ.trans (b4.mono hJ.size)) b4 rfl
      · intro a w1 hdef hsz hoth hJ hpre K hK
        obtain ⟨v2, t2, f2⟩ := pre_get hpre 2 (by kernel_rfl) 44 rfl (by rw [hsz]; exact of_decide_eq_true (by kernel_rfl))
        obtain rfl : v2 = (.bool false) := f2.symm
        obtain ⟨v6, t6, f6⟩ := pre_get hpre 6 (by kernel_rfl) 48 rfl (by rw [hsz]; exact of_decide_eq_true (by kernel_rfl))
        obtain rfl : v6 = (.bool true) := f6.symm
        rw [if_pos (wanted_get 2 false rfl 44 rfl t2)]
        clear hpre hoth hdef hsz
        go_simp
        exact hK _ _ hJ (Below.refl _ _) rfl
      · intro a w1 hdef hsz hoth hJ hpre K hK
        obtain ⟨v2, t2, f2⟩ := pre_get hpre 2 (by kernel_rfl) 44 rfl (by rw [hsz]; exact of_decide_eq_true (by kernel_rfl))
        obtain rfl : v2 = (.bool false) := f2.symm
        obtain ⟨v7, t7, f7⟩ := pre_get hpre 7 (by kernel_rfl) 49 rfl (by rw [hsz]; exact of_decide_eq_true (by kernel_rfl))
        obtain rfl : v7 = (.bool false) := f7.symm
        rw [if_pos (wanted_none rfl)]
        clear hpre hoth hdef hsz
        go_simp
        exact hK _ _ hJ (Below.refl _ _) rfl
    · intro a' w' hI
      have hJ := hI.hJ
      have ha := hI.act [.int .i64 0, .bool false, .bool false, .agg #[.int .i64 m.kind, .int .i64 m.id, .int .i64 m.node, .int .i64 m.gen, .int .i64 m.stamp, .int .u64 m.epoch, .int .i64 m.err, .slice A2 m.locks.length c2], .agg #[.int .i64 m.kind, .int .i64 m.id, .int .i64 m.node, .int .i64 m.gen, .int .i64 m.stamp, .int .u64 m.epoch, .int .i64 m.err, .slice A m.locks.length c], .agg #[.int .i64 m.kind, .int .i64 m.id, .int .i64 m.node, .int .i64 m.gen, .int .i64 m.stamp, .int .u64 m.epoch, .int .i64 m.err, .slice A m.locks.length c], .bool true, .bool false, .bool false] rfl (by kernel_rfl) (by kernel_rfl) (fun j v u h hv => by rw [← h]; simpa [Array.getD_eq_getD_getElem?] using congrArg (fun o : Option Value => o.getD undef) hv)
      rw [ha]
      clear ha hI
      have B4 := Lib.hid (B3.out.trans (hJ.mono B3.out.size))
      clear hJ
      simp only [putAll, Act.put, List.setIfInBounds_toArray, List.set_cons_zero, List.set_cons_succ]
      by_cases hc0 : cut < 0
      · go_wp2_with fail
        refine (HAL.out _).mono ?_
        rintro r w5 ⟨rfl, b5⟩
        go_wp2
        go_ret
        exact ⟨rfl, B4.out.trans (b5.mono B4.out.size)⟩
      by_cases hc1 : ((bstr E).size : Int) ≤ cut
      · go_wp2_with fail
        refine (HAL.out _).mono ?_
        rintro r w5 ⟨rfl, b5⟩
        go_wp2
        go_ret
        exact ⟨rfl, B4.out.trans (b5.mono B4.out.size)⟩
      · obtain ⟨k, rfl⟩ : ∃ k : Nat, cut = (k : Int) := ⟨cut.toNat, by omega⟩
        have hkE : k < E.length := by have := HSZ.out; omega
        have hex : (bstr E).extract 0 k = bstr (E.take k) := by
          apply bstr_eq
          rw [ByteArray.data_extract, Array.toList_extract, List.extract_eq_take_drop, bstr_toList]
          simp
        have HEX := Lib.hid hex
        have hg := HCUT.out k hkE
        have HGK := Lib.hid hg
        clear hex hg
        go_wp2_with fail
        rw [HEX.out]
        refine (HGEC.out k _).mono ?_
        rintro r w5 ⟨m5, e5, A5, c5, hme5, rfl, _, _, b5⟩
        have he5 : (e5 != 0) = true := by
          have := HGK.out
          rw [← hme5] at this
          exact bne_iff_ne.2 this
        have B5 := Lib.hid (B4.out.trans (b5.mono B4.out.size))
        clear hme5 b5
        go_wp2_with fail
        refine (HAL.out _).mono ?_
        rintro r w6 ⟨rfl, b6⟩
        have B6 := Lib.hid ((al B5.out _).trans (b6.mono (by have := B5.out.size; simp; omega)))
        clear b6
        go_wp2
        go_ret
        exact ⟨rfl, B6.out⟩

end Go.Proofs.YtpbmclaglkcmoaaDoor
