import Derived.Test.YtpbmclaglkcmoaaDoorFrGet
import Derived.Test.YtpbmclaglkcmoaaDoorSessAlive
import Derived.Test.YtpbmclaglkcmoaaDoorBytes
import Derived.Deep.DeepCutAuto
import Derived.OpenShut
namespace Go.Proofs.YtpbmclaglkcmoaaDoor
open Go.RowKit
set_option linter.unusedVariables false
set_option linter.unusedSimpArgs false

theorem conv_hereF (w : World) (l : List UInt8) : ∃ W cap, (convert 9 24 (.string (bstr l))).run Tryd.prog w = .ok (.slice (some ⟨w.heap.size, 0, none⟩) l.length cap) W ∧ BArr w.heap.size l W ∧ Below w.heap.size w W ∧ W.heap.size = w.heap.size + 1 :=
  conv_bytes w 9 24 5 (bstr l) Tryd.underlying9 Tryd.underlying24 Tryd.underlying5

/-- Get of something that is no frame: some frame, and an error. -/
theorem getF_some (X : ByteArray) (w : World) (hs : X.size ≤ 140737488355328) (P : Int → Prop) (hP : P (getF X).2) :
    Calls Tryd.prog 58 #[.string X] w fun r w' => ∃ (b0 b1 b2 b3 b4 b5 : Int) (bd : ByteArray) (bh : Bool) (h : Int), P h ∧ r = .returned (.tuple #[.agg #[.int .i64 b0, .int .i64 b1, .int .i64 b2, .int .i64 b3, .int .i64 b4, .int .i64 b5, .string bd, .bool bh], .int .i64 h]) ∧ Below w.heap.size w w' := by
  refine (getF_calls X w hs).mono ?_
  rintro r w' ⟨e, hb⟩
  exact ⟨_, _, _, _, _, _, _, _, _, hP, e, hb⟩

set_option maxHeartbeats 4000000 in
set_option maxRecDepth 100000 in
theorem frameBack_calls (f : Fr) (at_ by_ : Int) (w : World)
    (wf : (Lit.int .i64 f.fr).wf = true ∧ (Lit.int .i64 f.to).wf = true ∧ (Lit.int .i64 f.mine).wf = true ∧ (Lit.int .i64 f.yours).wf = true ∧ (Lit.int .i64 f.seq).wf = true ∧ (Lit.int .i64 f.ack).wf = true) (wd : f.data.size ≤ maxLen) (ha : (Lit.int .i64 at_).wf = true) (hb : (Lit.int .i64 by_).wf = true) :
    Calls Tryd.prog 14 #[.agg #[.int .i64 f.fr, .int .i64 f.to, .int .i64 f.mine, .int .i64 f.yours, .int .i64 f.seq, .int .i64 f.ack, .string f.data, .bool f.has], .int .i64 at_, .int .i64 by_] w fun r w' => r = .returned (.bool true) ∧ Below w.heap.size w w' := by
  have hi : intsF f := by
    obtain ⟨_, _, h2, h3, h4, h5⟩ := wf
    have := Go.bounds_i64 h2
    have := Go.bounds_i64 h3
    have := Go.bounds_i64 h4
    have := Go.bounds_i64 h5
    refine ⟨?_, ?_, ?_, ?_⟩ <;> omega
  have hat := Go.bounds_i64 ha
  have hby := Go.bounds_i64 hb
  clear wf ha hb
  unfold maxLen at wd
  by_cases g1 : 300 < f.data.size
  · obtain ⟨a0, a1, a2, a3, a4, a5, d, has⟩ := f
    simp only at g1 wd ⊢
    have g1i : (300 : Int) < (d.size : Int) := by omega
    clear hi
    go_enter Tryd.func14, Tryd.ntmps14
    go_wp2_with fail
    refine (alive15_calls _).mono ?_
    rintro e w1 ⟨rfl, hb1⟩
    go_wp2
    go_ret
    exact ⟨rfl, (al (Below.refl _ w) _).trans (hb1.mono (by simp))⟩
  have hpa := fun W => putF_calls f W hi
  by_cases hw : wrongF f = 0
  · have hp : putF f = (bstr (seal4 (encF f) ++ encF f), 0) := if_pos hw
    have hget0 : getF (bstr (seal4 (encF f) ++ encF f)) = (f, 0) := by
      have := get_putF f (by rw [hp]) hi
      rw [hp] at this
      exact this
    have hcut := get_cut f hw
    have hset := get_set f
    have hlen : (seal4 (encF f) ++ encF f).length = 43 + f.data.size := by rw [List.length_append, seal4_length, enc_len]; omega
    rw [hp] at hpa
    generalize seal4 (encF f) ++ encF f = S at *
    have HG0 := Lib.hid (fun W => getF_calls (bstr S) W (by show S.length ≤ _; omega))
    rw [hget0] at HG0
    have HPA := Lib.hid hpa
    have HCUT := Lib.hid hcut
    have HSET := Lib.hid hset
    clear hpa hcut hset hget0 hp hw hi
    obtain ⟨a0, a1, a2, a3, a4, a5, d, has⟩ := f
    simp only [frA] at g1 wd hlen HPA HG0 ⊢
    have g1i : ¬ (300 : Int) < (d.size : Int) := by omega
    have hS4 : 4 ≤ S.length := by omega
    have hS5 : S.length ≤ 400 := by omega
    have hS6 : ¬ (S.length : Int) < 4 := by omega
    clear hlen
    go_enter Tryd.func14, Tryd.ntmps14
    go_wp2_with fail
    refine (HPA.out _).mono ?_
    rintro e w1 ⟨rfl, hb1⟩
    have HB1 : Hid (Below w.heap.size w w1) := (al (Below.refl _ w) _).trans (hb1.mono (by simp))
    have hfc : FC w.heap.size ⟨a0, a1, a2, a3, a4, a5, d, has⟩ w1 := (hb1.block w.heap.size (by simp)).trans (heap_alloc_new w _)
    have HFC := Lib.hid hfc
    clear hb1 hfc
    go_wp2_with fail
    refine (HG0.out _).mono ?_
    rintro e w2 ⟨rfl, hb2⟩
    have hfc2 : FC w.heap.size ⟨a0, a1, a2, a3, a4, a5, d, has⟩ w2 := (hb2.block _ (lt_of_heap HFC.out)).trans HFC.out
    have HB2 := Lib.hid (bl HB1.out hb2)
    obtain ⟨c0, c1, c2, c3, c4, c5, c6, c7⟩ := FC.c hfc2
    simp only at c0 c1 c2 c3 c4 c5 c6 c7
    have hlt2 := lt_of_heap hfc2
    have HFC2 := Lib.hid hfc2
    clear hb2 hfc2 HFC HB1
    have hB4 : 4 ≤ (bstr S).size := hS4
    have hB5 : (bstr S).size ≤ 400 := hS5
    have hw64 : wrap64 (((bstr S).size : Int) - 1) = ((bstr S).size : Int) - 1 := by unfold wrap64; omega
    go_wp2_with fail
    clear c0 c1 c2 c3 c4 c5 c6 c7 hlt2
    refine (getF_some _ _ ?hs (fun h => h ≠ 0) ?hcut).mono ?_
    case hs => simp; omega
    case hcut =>
      refine HCUT.out _ ?_
      rw [ext_take, List.dropLast_eq_take]
      congr 1
    rintro e w3 ⟨b0, b1, b2, b3, b4, b5, bd, bh, h, hh, rfl, hb3⟩
    have hh' : (h != 0) = true := bne_iff_ne.2 hh
    have HB3 := Lib.hid (bl (al HB2.out _) hb3)
    clear hb3 HFC2 HG0 HPA HCUT
    by_cases g2 : at_ < 0
    · go_wp2_with fail
      refine (alive15_calls _).mono ?_
      rintro e w4 ⟨rfl, hb4⟩
      go_wp2
      go_ret
      exact ⟨rfl, bl (al HB3.out _) hb4⟩
    by_cases g3 : by_ % 256 = 0
    · have g3' : (by_ % 256 == 0) = true := beq_iff_eq.2 g3
      clear g3
      go_wp2_with fail
      refine (alive15_calls _).mono ?_
      rintro e w4 ⟨rfl, hb4⟩
      go_wp2
      go_ret
      exact ⟨rfl, bl (al HB3.out _) hb4⟩
    have g3' : (by_ % 256 == 0) = false := beq_eq_false_iff_ne.2 g3
    have G3 := Lib.hid g3
    clear g3
    obtain ⟨ia, hia⟩ := Int.eq_ofNat_of_zero_le (show 0 ≤ at_ % (S.length : Int) from Int.emod_nonneg _ (by omega))
    have hia2 : ia < S.length := by have := Int.emod_lt_of_pos at_ (show 0 < (S.length : Int) by omega); omega
    have hg2 : 0 ≤ at_ := by omega
    have HCA := Lib.hid (chg_val S[ia] by_)
    obtain ⟨W5, cap, hc5, ba5, bl5, sz5⟩ := conv_hereF (w3.alloc (.cells #[.int .i64 b0, .int .i64 b1, .int .i64 b2, .int .i64 b3, .int .i64 b4, .int .i64 b5, .string bd, .bool bh] 79)) S
    have BA5 := Lib.hid ba5
    have BB5 := Lib.hid (bl (al HB3.out _) bl5)
    have hX : w.heap.size ≤ (w3.alloc (.cells #[.int .i64 b0, .int .i64 b1, .int .i64 b2, .int .i64 b3, .int .i64 b4, .int .i64 b5, .string bd, .bool bh] 79)).heap.size := (al HB3.out _).size
    obtain ⟨X, hXX⟩ : ∃ X, X = (w3.alloc (.cells #[.int .i64 b0, .int .i64 b1, .int .i64 b2, .int .i64 b3, .int .i64 b4, .int .i64 b5, .string bd, .bool bh] 79)).heap.size := ⟨_, rfl⟩
    rw [← hXX] at hc5 BA5 hX
    obtain ⟨cb, fb⟩ := BA5.out.2 ia hia2
    have y1 : BArr X (S.set ia (chg S[ia] by_)) (W5.setCell ⟨X, ia, none⟩ (.int .u8 (Go.bits .xor .u8 (S[ia].toNat : Int) (by_ % 256)))) := by
      rw [HCA.out]
      exact BA5.out.set ia hia2 _
    have z1 := y1.back (P := Tryd.prog) 24 9 5 cap Tryd.underlying24 Tryd.underlying5 Tryd.underlying9
    rw [List.length_set] at z1
    change _ = Result.ok (Value.string (bstr _)) _ at z1
    have hlx : (bstr (S.set ia (chg S[ia] by_))).size ≤ 140737488355328 := by
      show (S.set ia (chg S[ia] by_)).length ≤ _
      rw [List.length_set]
      omega
    have HSIX := Lib.hid (HSET.out (bstr (S.set ia (chg S[ia] by_))) ia hia2 (chg S[ia] by_) (chg_ne _ _ G3.out) rfl)
    have HLX := Lib.hid hlx
    clear y1 ba5 bl5 sz5 hXX HSET hlx hB4 hB5 hw64 hh
    go_wp2_with fail
    refine (getF_some _ _ HLX.out (fun h => h = 6) HSIX.out).mono ?_
    rintro e w6 ⟨d0, d1, d2, d3, d4, d5, dd, dh, k, rfl, rfl, hb6⟩
    clear z1
    have HB6 := Lib.hid (bl (BB5.out.setCell (p := ⟨X, ia, none⟩) hX _) hb6)
    clear hb6
    go_wp2_with fail
    refine (alive15_calls _).mono ?_
    rintro e w7 ⟨rfl, hb7⟩
    go_wp2
    go_ret
    exact ⟨rfl, bl (al HB6.out _) hb7⟩
  · have hp : putF f = (⟨#[]⟩, wrongF f) := if_neg hw
    rw [hp] at hpa
    generalize wrongF f = E at hw hpa
    have hE : (E != 0) = true := bne_iff_ne.2 hw
    have HPA := Lib.hid hpa
    clear hpa hp hi
    obtain ⟨a0, a1, a2, a3, a4, a5, d, has⟩ := f
    simp only [frA] at g1 wd HPA ⊢
    have g1i : ¬ (300 : Int) < (d.size : Int) := by omega
    go_enter Tryd.func14, Tryd.ntmps14
    go_wp2_with fail
    refine (HPA.out _).mono ?_
    rintro e w1 ⟨rfl, hb1⟩
    have HB1 : Hid (Below w.heap.size w w1) := (al (Below.refl _ w) _).trans (hb1.mono (by simp))
    clear hb1
    go_wp2_with fail
    refine (alive15_calls _).mono ?_
    rintro e w2 ⟨rfl, hb2⟩
    go_wp2
    go_ret
    exact ⟨rfl, bl HB1.out hb2⟩

end Go.Proofs.YtpbmclaglkcmoaaDoor
