import Derived.Test.YtpbmclaglkcmoaaRecAlive
import Derived.Test.YtpbmclaglkcmoaaSumChanged
namespace Go.Proofs.Ytpbmclaglkcmoaa
open Go.RowKit
set_option linter.unusedVariables false
set_option linter.unusedSimpArgs false

set_option maxHeartbeats 8000000 in
set_option maxRecDepth 100000 in
theorem recHeads_calls (e l a at_ by_ : Int) (w : World) (he : (Lit.int .u64 e).wf = true) (hl : (Lit.int .u64 l).wf = true) (ha : (Lit.int .i64 a).wf = true) (hat : (Lit.int .i64 at_).wf = true) (hby : (Lit.int .i64 by_).wf = true) :
    Calls Try.prog 13 #[.agg #[.int .u64 e, .int .u64 l, .int .i64 a], .int .i64 at_, .int .i64 by_] w fun r w' => r = .returned (.bool true) ∧ Below w.heap.size w w' := by
  have he0 := (Go.bounds_u64 he).1
  have he1 := (Go.bounds_u64 he).2
  have hl0 := (Go.bounds_u64 hl).1
  have hl1 := (Go.bounds_u64 hl).2
  have ha0 := Go.bounds_i64 ha
  have hat0 := Go.bounds_i64 hat
  have hby0 := Go.bounds_i64 hby
  clear he hl ha hat hby
  by_cases hbad : e = 0 ∨ l = 0 ∨ a < 0 ∨ 256 < a
  · have HP := Lib.hid (fun W => putHead_bad e l a W hbad he0 hl0)
    have HBAD := Lib.hid hbad
    clear hbad
    go_enter Try.func13, Try.ntmps13
    go_wp2_with fail
    refine (HP.out _).mono ?_
    rintro r w1 ⟨rfl, hb1⟩
    have g1 := (hb1.block w.heap.size (by simp)).trans (heap_alloc_new w _)
    have HB1 := Lib.hid ((al (Below.refl _ w) _).trans (hb1.mono (by simp)))
    clear hb1
    go_wp2_with fail
    refine (recAlive_calls _).mono ?_
    rintro r w2 ⟨rfl, hb2⟩
    have g2 := (hb2.block w.heap.size (lt_of_heap g1)).trans g1
    have HB2 := Lib.hid (bl HB1.out hb2)
    have c0 : w2.cell? ⟨w.heap.size, 0, none⟩ = some (.int .u64 e) := by rw [Lib.cell_of_heap g2]; rfl
    have c1 : w2.cell? ⟨w.heap.size, 1, none⟩ = some (.int .u64 l) := by rw [Lib.cell_of_heap g2]; rfl
    have c2 : w2.cell? ⟨w.heap.size, 2, none⟩ = some (.int .i64 a) := by rw [Lib.cell_of_heap g2]; rfl
    clear hb2 g1 g2
    by_cases k0 : e = 0
    · have b0 : (e == 0) = true := beq_iff_eq.2 k0
      clear k0
      go_wp2
      go_ret
      exact ⟨rfl, HB2.out⟩
    have b0 : (e == 0) = false := beq_eq_false_iff_ne.2 k0
    by_cases k1 : l = 0
    · have b1 : (l == 0) = true := beq_iff_eq.2 k1
      clear k0 k1
      go_wp2
      go_ret
      exact ⟨rfl, HB2.out⟩
    have b1 : (l == 0) = false := beq_eq_false_iff_ne.2 k1
    by_cases k2 : a < 0
    · go_wp2
      go_ret
      exact ⟨rfl, HB2.out⟩
    have k3 : 256 < a := by have := HBAD.out; omega
    go_wp2
    go_ret
    exact ⟨rfl, HB2.out⟩
  have he2 : 0 < e := by omega
  have he3 : e < 18446744073709551616 := by omega
  have hl3 : l < 18446744073709551616 := by omega
  have hl2 : 0 < l := by omega
  have ha2 : 0 ≤ a := by omega
  have ha3 : a ≤ 256 := by omega
  have HP := Lib.hid (fun W => putHead_calls e l a W he2 he3 hl2 hl3 ha2 ha3)
  have HG := Lib.hid (fun W => getHead_good e l a W he2 he3 hl2 hl3 ha2 ha3)
  have hS64 : (bstr (headS e l a)).size = 64 := headS_length e l a
  have HB64 := Lib.hid hS64
  by_cases hst : at_ < 0
  · clear hbad
    generalize bstr (headS e l a) = S at HP HG hS64
    go_enter Try.func13, Try.ntmps13
    go_wp2_with fail
    refine (HP.out _).mono ?_
    rintro r w1 ⟨rfl, hb1⟩
    have g1 := (hb1.block w.heap.size (by simp)).trans (heap_alloc_new w _)
    have HB1 := Lib.hid ((al (Below.refl _ w) _).trans (hb1.mono (by simp)))
    clear hb1
    go_wp2_with fail
    refine (HG.out _).mono ?_
    rintro r w2 ⟨rfl, hb2⟩
    have g2 := (hb2.block w.heap.size (lt_of_heap g1)).trans g1
    have HB2 := Lib.hid (bl HB1.out hb2)
    have hlt2 := lt_of_heap g2
    have c0 : w2.cell? ⟨w.heap.size, 0, none⟩ = some (.int .u64 e) := by rw [Lib.cell_of_heap g2]; rfl
    have c1 : w2.cell? ⟨w.heap.size, 1, none⟩ = some (.int .u64 l) := by rw [Lib.cell_of_heap g2]; rfl
    have c2 : w2.cell? ⟨w.heap.size, 2, none⟩ = some (.int .i64 a) := by rw [Lib.cell_of_heap g2]; rfl
    clear hb2 g1 g2
    go_wp2_with fail
    refine (recAlive_calls _).mono ?_
    rintro r w3 ⟨rfl, hb3⟩
    go_wp2
    go_ret
    exact ⟨rfl, bl (al HB2.out _) hb3⟩
  by_cases hby2 : by_ % 256 = 0
  · have hm2 : (by_ % 256 == 0) = true := beq_iff_eq.2 hby2
    clear hbad hby2
    generalize bstr (headS e l a) = S at HP HG hS64
    go_enter Try.func13, Try.ntmps13
    go_wp2_with fail
    refine (HP.out _).mono ?_
    rintro r w1 ⟨rfl, hb1⟩
    have g1 := (hb1.block w.heap.size (by simp)).trans (heap_alloc_new w _)
    have HB1 := Lib.hid ((al (Below.refl _ w) _).trans (hb1.mono (by simp)))
    clear hb1
    go_wp2_with fail
    refine (HG.out _).mono ?_
    rintro r w2 ⟨rfl, hb2⟩
    have g2 := (hb2.block w.heap.size (lt_of_heap g1)).trans g1
    have HB2 := Lib.hid (bl HB1.out hb2)
    have hlt2 := lt_of_heap g2
    have c0 : w2.cell? ⟨w.heap.size, 0, none⟩ = some (.int .u64 e) := by rw [Lib.cell_of_heap g2]; rfl
    have c1 : w2.cell? ⟨w.heap.size, 1, none⟩ = some (.int .u64 l) := by rw [Lib.cell_of_heap g2]; rfl
    have c2 : w2.cell? ⟨w.heap.size, 2, none⟩ = some (.int .i64 a) := by rw [Lib.cell_of_heap g2]; rfl
    clear hb2 g1 g2
    go_wp2_with fail
    refine (recAlive_calls _).mono ?_
    rintro r w3 ⟨rfl, hb3⟩
    go_wp2
    go_ret
    exact ⟨rfl, bl (al HB2.out _) hb3⟩
  have hm2 : (by_ % 256 == 0) = false := beq_eq_false_iff_ne.2 hby2
  obtain ⟨la, hla⟩ : ∃ la, la = headS e l a := ⟨_, rfl⟩
  have hlal : la.length = 64 := by rw [hla]; exact headS_length e l a
  obtain ⟨ia, hia⟩ := Int.eq_ofNat_of_zero_le (show 0 ≤ at_ % 64 from Int.emod_nonneg _ (by omega))
  have hia64 : ia < 64 := by omega
  have hia2 : ia < la.length := by omega
  have hia' : at_.tmod 64 = ia := by rw [Int.tmod_eq_emod_of_nonneg (by omega)]; exact hia
  have HSUM : Hid (∀ W, Calls Try.prog 47 #[.string (bstr (la.set ia (chg la[ia] by_)))] W fun r w' => r = .returned (.tuple #[.agg #[.int .u64 0, .int .u64 0, .int .i64 0], .int .i64 6]) ∧ Below W.heap.size W w') := by
    intro W
    refine getHead_sum _ W (by rw [bstr_size, List.length_set, hlal]) ?_
    rw [bstr_toList]
    have e1 : la = headB e l a ++ seal4 (headB e l a) := by rw [hla]; exact headS_eq e l a
    subst e1
    exact readB_set _ ia hia2 _ (chg_ne _ _ hby2)
  have HC := Lib.hid (chg_val la[ia] by_)
  rw [← hla] at HP HG hS64
  have HLAL := Lib.hid hlal
  clear hla hbad hby2 HB64 hlal
  go_enter Try.func13, Try.ntmps13
  go_wp2_with fail
  refine (HP.out _).mono ?_
  rintro r w1 ⟨rfl, hb1⟩
  have g1 := (hb1.block w.heap.size (by simp)).trans (heap_alloc_new w _)
  have HB1 := Lib.hid ((al (Below.refl _ w) _).trans (hb1.mono (by simp)))
  clear hb1
  go_wp2_with fail
  refine (HG.out _).mono ?_
  rintro r w2 ⟨rfl, hb2⟩
  have g2 := (hb2.block w.heap.size (lt_of_heap g1)).trans g1
  have HB2 := Lib.hid (bl HB1.out hb2)
  have hlt2 := lt_of_heap g2
  have c0 : w2.cell? ⟨w.heap.size, 0, none⟩ = some (.int .u64 e) := by rw [Lib.cell_of_heap g2]; rfl
  have c1 : w2.cell? ⟨w.heap.size, 1, none⟩ = some (.int .u64 l) := by rw [Lib.cell_of_heap g2]; rfl
  have c2 : w2.cell? ⟨w.heap.size, 2, none⟩ = some (.int .i64 a) := by rw [Lib.cell_of_heap g2]; rfl
  clear hb2 g1 g2
  obtain ⟨W1, cap1, hc1, ba1, bl1, sz1⟩ := conv_here (w2.alloc (.cells #[.int .u64 e, .int .u64 l, .int .i64 a] 74)) la
  rw [HLAL.out] at hc1
  have BA1 := Lib.hid ba1
  have BB1 := Lib.hid (bl (al HB2.out _) bl1)
  have hX : w.heap.size ≤ (w2.alloc (.cells #[.int .u64 e, .int .u64 l, .int .i64 a] 74)).heap.size := (al HB2.out _).size
  obtain ⟨X, hXX⟩ : ∃ X, X = (w2.alloc (.cells #[.int .u64 e, .int .u64 l, .int .i64 a] 74)).heap.size := ⟨_, rfl⟩
  rw [← hXX] at hc1 BA1 hX
  obtain ⟨cb, fb⟩ := BA1.out.2 ia hia2
  have y1 : BArr X (la.set ia (chg la[ia] by_)) (W1.setCell ⟨X, ia, none⟩ (.int .u8 (Go.bits .xor .u8 (la[ia].toNat : Int) (by_ % 256)))) := by
    rw [HC.out]
    exact BA1.out.set ia hia2 _
  have z1 := y1.back (P := Try.prog) 58 9 5 cap1 Try.underlying58 Try.underlying5 Try.underlying9
  rw [List.length_set, HLAL.out] at z1
  change _ = Result.ok (Value.string (bstr _)) _ at z1
  clear y1 ba1 bl1 sz1 hXX
  go_wp2_with fail
  refine (HSUM.out _).mono ?_
  rintro r w3 ⟨rfl, hb3⟩
  clear z1
  go_wp2_with fail
  refine (recAlive_calls _).mono ?_
  rintro r w4 ⟨rfl, hb4⟩
  go_wp2
  go_ret
  exact ⟨rfl, bl (al (bl (BB1.out.setCell (p := ⟨X, ia, none⟩) hX _) hb3) _) hb4⟩

end Go.Proofs.Ytpbmclaglkcmoaa
