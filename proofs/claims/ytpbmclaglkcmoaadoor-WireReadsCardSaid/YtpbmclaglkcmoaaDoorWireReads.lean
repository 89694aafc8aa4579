import Derived.Test.YtpbmclaglkcmoaaDoorRefR
import Derived.BigQuiet
namespace Go.Proofs.YtpbmclaglkcmoaaDoor
open Go.RowKit
set_option linter.unusedVariables false
set_option linter.unusedSimpArgs false

theorem rerr_q (b : Nat) (l : List UInt8) (err : Int) (w : World) (n : Nat) (h : Rd b l err w) : Calls Tryd.prog 20 #[.pointer (some ⟨b, 0, none⟩)] (w.drewN n) fun e w' => e = .returned (.int .i64 err) ∧ ∃ m, w' = w.drewN m :=
  Calls.quiet_of_same ((rerr_calls b l err (w.drewN n) h).mono fun _ _ h => ⟨h.1, h.2.symm⟩)
theorem rend_q (b : Nat) (l : List UInt8) (err : Int) (w : World) (n : Nat) (h : Rd b l err w) (hl : l.length ≤ 9223372036854775807) : Calls Tryd.prog 21 #[.pointer (some ⟨b, 0, none⟩)] (w.drewN n) fun e w' => e = .returned (.int .i64 (endR l err)) ∧ ∃ m, w' = w.drewN m :=
  Calls.quiet_of (rend_calls b l err (w.drewN n) h hl)
theorem xrend_q (b : Nat) (l : List UInt8) (err : Int) (w : World) (n : Nat) (h : Rx b l err w) (hl : l.length ≤ 9223372036854775806) : Calls Tryd.prog 53 #[.pointer (some ⟨b, 0, none⟩)] (w.drewN n) fun e w' => e = .returned (.int .i64 (endR l err)) ∧ ∃ m, w' = w.drewN m :=
  Calls.quiet_of_same ((xrend_calls b l err (w.drewN n) h hl).mono fun _ _ h => ⟨h.1, h.2.symm⟩)

/-- The two readers, side by side. -/
def RTwo (B br bx : Nat) (l : List UInt8) (e : Int) (w : World) : Prop :=
  B ≤ br ∧ B ≤ bx ∧ br ≠ bx ∧ l.length ≤ 6000 ∧ Rd br l e w ∧ Rx bx l e w

theorem rtwo_step {B br bx : Nat} {l l' : List UInt8} {e e' : Int} {w w1 w2 : World} (h : RTwo B br bx l e w) (hl : l'.length ≤ l.length) (hr : Rd br l' e' w1) (k1 : KeptB br w w1) (hx : Rx bx l' e' w2) (k2 : KeptB bx w1 w2) (hB : Below B w w) : RTwo B br bx l' e' w2 ∧ Below B w w2 := by
  obtain ⟨h1, h2, h3, h4, h5, h6⟩ := h
  have hlt : B ≤ w.heap.size := by have := h5.lt; omega
  refine ⟨⟨h1, h2, h3, by omega, hr.keep k2 h3, hx⟩, (k1.below hlt (fun k hk e => by omega)).trans (k2.below (by have := k1.size; omega) (fun k hk e => by omega))⟩

theorem RTwo.x1 {B br bx : Nat} {l : List UInt8} {e : Int} {w w1 : World} (h : RTwo B br bx l e w) (k1 : KeptB br w w1) : Rx bx l e w1 := by
  obtain ⟨h1, h2, h3, h4, h5, h6⟩ := h
  exact (k1.block bx h6.lt (fun e => h3 e.symm)).trans h6

theorem take_left (l : List UInt8) (err : Int) (n : Nat) : (takeR l err n).2.1.length ≤ l.length := by
  unfold takeR
  split
  · exact Nat.le_refl _
  · split
    · exact Nat.le_refl _
    · simp
theorem rnum_left (l : List UInt8) (err n : Int) : (rnumR l err n).2.1.length ≤ l.length := by
  unfold rnumR
  split
  · exact Nat.le_refl _
  · exact take_left _ _ _
theorem count_left (l : List UInt8) (err n : Int) : (countR l err n).2.1.length ≤ l.length := by
  unfold countR
  split
  · exact rnum_left _ _ _
  · exact rnum_left _ _ _
theorem rtext_left (l : List UInt8) (err n : Int) : (rtextR l err n).2.1.length ≤ l.length := by
  unfold rtextR
  split
  · exact Nat.le_refl _
  · exact Nat.le_trans (take_left _ _ _) (count_left _ _ _)
theorem flag_left (l : List UInt8) (err : Int) : (flagR l err).2.1.length ≤ l.length := rnum_left _ _ _
theorem skip_left (l : List UInt8) (err n : Int) : (skipR l err n).1.length ≤ l.length := by
  unfold skipR
  split
  · exact Nat.le_refl _
  · exact take_left _ _ _

set_option maxHeartbeats 8000000 in
set_option maxRecDepth 100000 in
theorem wireReads_calls (bb : ByteArray) (zero : Bool) (A : Option Addr) (c : Nat) (l : List OpR) (w : World) (hbb : bb.size ≤ 140737488351232) (hc : l.length ≤ c) (hm : c ≤ maxLen) (hI : Ops w A l) (hw : ∀ x ∈ l, (Lit.int .i64 x.k).wf = true ∧ (Lit.int .i64 x.n).wf = true ∧ (Lit.int .u64 x.v).wf = true ∧ x.s.size ≤ maxLen) :
    Calls Tryd.prog 8 #[.string bb, .bool zero, .slice A l.length c] w fun r w' => r = .returned (.bool true) ∧ Below w.heap.size w w' := by
  have hmx : c ≤ 9223372036854775807 := by simpa only [maxLen] using hm
  have HL := Lib.hid (fun W (h : Ops W A l) => light_calls A c l W h hc (by omega) (fun x hx => by have := (hw x hx).2.2.2; simpa only [maxLen] using this))
  have HI := Lib.hid hI
  have HW := Lib.hid hw
  clear hI hw hm
  by_cases hbig : 6000 < (bb.size : Int)
  · go_enter Tryd.func8, Tryd.ntmps8
    go_wp2_with fail
    refine (wireAlive_calls _).mono ?_
    rintro r w1 ⟨rfl, b1⟩
    go_wp2
    go_ret
    exact ⟨rfl, b1⟩
  · go_enter Tryd.func8, Tryd.ntmps8
    go_wp2_with fail
    refine (HL.out _ HI.out).mono ?_
    rintro r w1 ⟨lb, hlp, rfl, rfl⟩
    cases lb with
    | false =>
      clear hlp
      go_wp2_with fail
      refine (wireAlive_calls _).mono ?_
      rintro r w1 ⟨rfl, b1⟩
      go_wp2
      go_ret
      exact ⟨rfl, b1⟩
    | true =>
      obtain ⟨hl60, _⟩ := hlp rfl
      clear hlp
      go_wp2_with fail
      refine (newReader_calls bb _ (by omega)).mono ?_
      rintro r w2 ⟨br, rfl, hbr, h2, b2⟩
      have hrl : br < w2.heap.size := h2.lt
      have hwl : w.heap.size ≤ w2.heap.size := b2.size
      have H2 := Lib.hid h2
      have B2 := Lib.hid b2
      clear h2 b2
      cases zero with
      | false =>
        have HT : Hid (RTwo w.heap.size br w2.heap.size bb.data.toList 0 (w2.alloc (.cells #[.string bb, .int .i64 0] 69))) :=
          ⟨hbr, hwl, by omega, by rw [toList_length]; omega, H2.out.below (al (Below.refl _ w2) _), heap_alloc_new w2 _⟩
        have HB : Hid (Below w.heap.size w (w2.alloc (.cells #[.string bb, .int .i64 0] 69))) := al B2.out _
        clear H2 B2 hbr hrl hwl
        generalize bb.data.toList = L0 at HT
        go_wp2_with fail
        go_loopw [9] (fun s9 wr => ∃ (k : Nat) (L : List UInt8) (e : Int), k ≤ l.length ∧ s9 = .int .i64 k ∧ Hid (RTwo w.heap.size br w2.heap.size L e wr) ∧ Hid (Below w.heap.size w wr)) (fun s9 _ => l.length - (intOf s9).toNat)
        case atStart => exact ⟨0, L0, 0, Nat.zero_le _, rfl, HT.out, HB.out⟩
        case round =>
          clear HT HB
          obtain ⟨k, L, e, hk, rfl, HT, HB⟩ := hrel
          by_cases hlt : k < l.length
          · obtain ⟨b, o, rfl, c0, c1, c2, c3⟩ := (HI.out.below HB.out) k hlt
            obtain ⟨hwk, hwn, _, _⟩ := HW.out l[k] (List.getElem_mem hlt)
            generalize hop : l[k] = op at c0 c1 c2 c3 hwk hwn
            obtain ⟨kd, n, v, sb⟩ := op
            clear hop c2 c3
            simp only at c0 c1 hwk hwn
            have hn0 := Go.bounds_i64 hwn
            have hn1 := hn0.2
            have hll : L.length ≤ 6000 := HT.out.2.2.2.1
            have HBR := Lib.hid HT.out.1
            have HBX := Lib.hid HT.out.2.1
            clear hwk hwn hn0
            by_cases h1 : kd = 1
            · subst h1
              go_wp2_with fail
              refine (rnum_calls br L e n _ HT.out.2.2.2.2.1).mono ?_
              rintro r w4 ⟨rfl, h4, k4⟩
              have H4 := Lib.hid h4
              have K4 := Lib.hid k4
              clear h4 k4
              go_wp2_with fail
              refine (xrnum_calls w2.heap.size L e n _ (HT.out.x1 K4.out)).mono ?_
              rintro r w5 ⟨rfl, h5, k5⟩
              obtain ⟨t5, b5⟩ := rtwo_step HT.out (rnum_left L e n) H4.out K4.out h5 k5 (Below.refl _ _)
              have H5 := Lib.hid t5
              have B5 := Lib.hid (HB.out.trans b5)
              clear h5 k5 t5 b5 H4 K4 c0 c1
              generalize (rnumR L e n).2.1 = L' at H5 
              generalize (rnumR L e n).2.2 = e' at H5 
              have hr5 := H5.out.2.2.2.2.1
              have hx5 := H5.out.2.2.2.2.2
              have hl5 : L'.length ≤ 6000 := H5.out.2.2.2.1
              have HR5 := Lib.hid hr5
              have HX5 := Lib.hid hx5
              have e5 := Rx.err hx5
              clear hr5 hx5
              go_wp2_with fail
              go_quiet ((first | (go_at_call 20; exact rerr_q _ L' e' w5 _ HR5.out) | (go_at_call 21; exact rend_q _ L' e' w5 _ HR5.out (by omega)) | (go_at_call 53; exact xrend_q _ L' e' w5 _ HX5.out (by omega))))
              clear e5
              go_wp2
              go_roundw
              case rel => exact ⟨k + 1, L', e', by omega, by go_num, ⟨H5.out.1, H5.out.2.1, H5.out.2.2.1, hl5, HR5.out, HX5.out⟩, B5.out.trans (dr _ _ _ B5.out.size)⟩
              case measure => simp [intOf]; omega
            have k1 : (kd == 1) = false := beq_eq_false_iff_ne.2 h1
            by_cases h2 : kd = 2
            · subst h2
              clear h1 k1
              go_wp2_with fail
              refine (rint_calls br L e _ HT.out.2.2.2.2.1).mono ?_
              rintro r w4 ⟨rfl, h4, k4⟩
              have H4 := Lib.hid h4
              have K4 := Lib.hid k4
              clear h4 k4
              go_wp2_with fail
              refine (xrnum_calls w2.heap.size L e 8 _ (HT.out.x1 K4.out)).mono ?_
              rintro r w5 ⟨rfl, h5, k5⟩
              obtain ⟨t5, b5⟩ := rtwo_step HT.out (rnum_left L e 8) H4.out K4.out h5 k5 (Below.refl _ _)
              have H5 := Lib.hid t5
              have B5 := Lib.hid (HB.out.trans b5)
              clear h5 k5 t5 b5 H4 K4 c0 c1
              generalize (rnumR L e 8).2.1 = L' at H5 
              generalize (rnumR L e 8).2.2 = e' at H5 
              have hr5 := H5.out.2.2.2.2.1
              have hx5 := H5.out.2.2.2.2.2
              have hl5 : L'.length ≤ 6000 := H5.out.2.2.2.1
              have HR5 := Lib.hid hr5
              have HX5 := Lib.hid hx5
              have e5 := Rx.err hx5
              clear hr5 hx5
              go_wp2_with fail
              go_quiet ((first | (go_at_call 20; exact rerr_q _ L' e' w5 _ HR5.out) | (go_at_call 21; exact rend_q _ L' e' w5 _ HR5.out (by omega)) | (go_at_call 53; exact xrend_q _ L' e' w5 _ HX5.out (by omega))))
              clear e5
              go_wp2
              go_roundw
              case rel => exact ⟨k + 1, L', e', by omega, by go_num, ⟨H5.out.1, H5.out.2.1, H5.out.2.2.1, hl5, HR5.out, HX5.out⟩, B5.out.trans (dr _ _ _ B5.out.size)⟩
              case measure => simp [intOf]; omega
            have k2 : (kd == 2) = false := beq_eq_false_iff_ne.2 h2
            by_cases h3 : kd = 3
            · subst h3
              clear h1 k1 h2 k2
              go_wp2_with fail
              refine (rtext_calls br L e n _ HT.out.2.2.2.2.1).mono ?_
              rintro r w4 ⟨rfl, h4, k4⟩
              have H4 := Lib.hid h4
              have K4 := Lib.hid k4
              clear h4 k4
              go_wp2_with fail
              refine (xrtext_calls w2.heap.size L e n _ (HT.out.x1 K4.out)).mono ?_
              rintro r w5 ⟨rfl, h5, k5⟩
              obtain ⟨t5, b5⟩ := rtwo_step HT.out (rtext_left L e n) H4.out K4.out h5 k5 (Below.refl _ _)
              have H5 := Lib.hid t5
              have B5 := Lib.hid (HB.out.trans b5)
              clear h5 k5 t5 b5 H4 K4 c0 c1
              generalize (rtextR L e n).2.1 = L' at H5 
              generalize (rtextR L e n).2.2 = e' at H5 
              have hr5 := H5.out.2.2.2.2.1
              have hx5 := H5.out.2.2.2.2.2
              have hl5 : L'.length ≤ 6000 := H5.out.2.2.2.1
              have HR5 := Lib.hid hr5
              have HX5 := Lib.hid hx5
              have e5 := Rx.err hx5
              clear hr5 hx5
              go_wp2_with fail
              go_quiet ((first | (go_at_call 20; exact rerr_q _ L' e' w5 _ HR5.out) | (go_at_call 21; exact rend_q _ L' e' w5 _ HR5.out (by omega)) | (go_at_call 53; exact xrend_q _ L' e' w5 _ HX5.out (by omega))))
              clear e5
              go_wp2
              go_roundw
              case rel => exact ⟨k + 1, L', e', by omega, by go_num, ⟨H5.out.1, H5.out.2.1, H5.out.2.2.1, hl5, HR5.out, HX5.out⟩, B5.out.trans (dr _ _ _ B5.out.size)⟩
              case measure => simp [intOf]; omega
            have k3 : (kd == 3) = false := beq_eq_false_iff_ne.2 h3
            by_cases h4 : kd = 4
            · subst h4
              clear h1 k1 h2 k2 h3 k3
              go_wp2_with fail
              refine (rflag_calls br L e _ HT.out.2.2.2.2.1).mono ?_
              rintro r w4 ⟨rfl, h4, k4⟩
              have H4 := Lib.hid h4
              have K4 := Lib.hid k4
              clear h4 k4
              go_wp2_with fail
              refine (xrflag_calls w2.heap.size L e _ (HT.out.x1 K4.out)).mono ?_
              rintro r w5 ⟨rfl, h5, k5⟩
              obtain ⟨t5, b5⟩ := rtwo_step HT.out (flag_left L e) H4.out K4.out h5 k5 (Below.refl _ _)
              have H5 := Lib.hid t5
              have B5 := Lib.hid (HB.out.trans b5)
              clear h5 k5 t5 b5 H4 K4 c0 c1
              generalize (flagR L e).2.1 = L' at H5 
              generalize (flagR L e).2.2 = e' at H5 
              have hr5 := H5.out.2.2.2.2.1
              have hx5 := H5.out.2.2.2.2.2
              have hl5 : L'.length ≤ 6000 := H5.out.2.2.2.1
              have HR5 := Lib.hid hr5
              have HX5 := Lib.hid hx5
              have e5 := Rx.err hx5
              clear hr5 hx5
              go_wp2_with fail
              go_quiet ((first | (go_at_call 20; exact rerr_q _ L' e' w5 _ HR5.out) | (go_at_call 21; exact rend_q _ L' e' w5 _ HR5.out (by omega)) | (go_at_call 53; exact xrend_q _ L' e' w5 _ HX5.out (by omega))))
              clear e5
              go_wp2
              go_roundw
              case rel => exact ⟨k + 1, L', e', by omega, by go_num, ⟨H5.out.1, H5.out.2.1, H5.out.2.2.1, hl5, HR5.out, HX5.out⟩, B5.out.trans (dr _ _ _ B5.out.size)⟩
              case measure => simp [intOf]; omega
            have k4 : (kd == 4) = false := beq_eq_false_iff_ne.2 h4
            by_cases h5 : kd = 5
            · subst h5
              clear h1 k1 h2 k2 h3 k3 h4 k4
              go_wp2_with fail
              refine (rskip_calls br L e n _ HT.out.2.2.2.2.1 hn1 (by omega)).mono ?_
              rintro r w4 ⟨rfl, h4, k4⟩
              have H4 := Lib.hid h4
              have K4 := Lib.hid k4
              clear h4 k4
              go_wp2_with fail
              refine (xrskip_calls w2.heap.size L e n _ (HT.out.x1 K4.out) hn1 (by omega)).mono ?_
              rintro r w5 ⟨rfl, h5, k5⟩
              obtain ⟨t5, b5⟩ := rtwo_step HT.out (skip_left L e n) H4.out K4.out h5 k5 (Below.refl _ _)
              have H5 := Lib.hid t5
              have B5 := Lib.hid (HB.out.trans b5)
              clear h5 k5 t5 b5 H4 K4 c0 c1
              generalize (skipR L e n).1 = L' at H5 
              generalize (skipR L e n).2 = e' at H5 
              have hr5 := H5.out.2.2.2.2.1
              have hx5 := H5.out.2.2.2.2.2
              have hl5 : L'.length ≤ 6000 := H5.out.2.2.2.1
              have HR5 := Lib.hid hr5
              have HX5 := Lib.hid hx5
              have e5 := Rx.err hx5
              clear hr5 hx5
              go_wp2_with fail
              go_quiet ((first | (go_at_call 20; exact rerr_q _ L' e' w5 _ HR5.out) | (go_at_call 21; exact rend_q _ L' e' w5 _ HR5.out (by omega)) | (go_at_call 53; exact xrend_q _ L' e' w5 _ HX5.out (by omega))))
              clear e5
              go_wp2
              go_roundw
              case rel => exact ⟨k + 1, L', e', by omega, by go_num, ⟨H5.out.1, H5.out.2.1, H5.out.2.2.1, hl5, HR5.out, HX5.out⟩, B5.out.trans (dr _ _ _ B5.out.size)⟩
              case measure => simp [intOf]; omega
            have k5 : (kd == 5) = false := beq_eq_false_iff_ne.2 h5
            clear h1 h2 h3 h4 h5
            go_wp2_with fail
            refine (rcount_calls br L e n _ HT.out.2.2.2.2.1).mono ?_
            rintro r w4 ⟨rfl, h4, k4⟩
            have H4 := Lib.hid h4
            have K4 := Lib.hid k4
            clear h4 k4
            go_wp2_with fail
            refine (xrcount_calls w2.heap.size L e n _ (HT.out.x1 K4.out)).mono ?_
            rintro r w5 ⟨rfl, h5, k5⟩
            obtain ⟨t5, b5⟩ := rtwo_step HT.out (count_left L e n) H4.out K4.out h5 k5 (Below.refl _ _)
            have H5 := Lib.hid t5
            have B5 := Lib.hid (HB.out.trans b5)
            clear h5 k5 t5 b5 H4 K4 c0 c1
            generalize (countR L e n).2.1 = L' at H5 
            generalize (countR L e n).2.2 = e' at H5 
            have hr5 := H5.out.2.2.2.2.1
            have hx5 := H5.out.2.2.2.2.2
            have hl5 : L'.length ≤ 6000 := H5.out.2.2.2.1
            have HR5 := Lib.hid hr5
            have HX5 := Lib.hid hx5
            have e5 := Rx.err hx5
            clear hr5 hx5
            go_wp2_with fail
            go_quiet ((first | (go_at_call 20; exact rerr_q _ L' e' w5 _ HR5.out) | (go_at_call 21; exact rend_q _ L' e' w5 _ HR5.out (by omega)) | (go_at_call 53; exact xrend_q _ L' e' w5 _ HX5.out (by omega))))
            clear e5
            go_wp2
            go_roundw
            case rel => exact ⟨k + 1, L', e', by omega, by go_num, ⟨H5.out.1, H5.out.2.1, H5.out.2.2.1, hl5, HR5.out, HX5.out⟩, B5.out.trans (dr _ _ _ B5.out.size)⟩
            case measure => simp [intOf]; omega
          · clear HI HW
            go_wp2_with fail
            refine (wireAlive_calls _).mono ?_
            rintro r w4 ⟨rfl, b4⟩
            go_wp2
            go_ret
            exact ⟨rfl, HB.out.trans (b4.mono HB.out.size)⟩
      | true =>
        have hs3 : (w2.alloc (.cells #[.string bb, .int .i64 0] 69)).heap.size = w2.heap.size + 1 := by simp
        have HT : Hid (RTwo w.heap.size (w2.heap.size + 1) (w2.heap.size + 1 + 1) [] 0 (((w2.alloc (.cells #[.string bb, .int .i64 0] 69)).alloc (.cells #[.string { data := #[] }, .int .i64 0] 71)).alloc (.cells #[.string { data := #[] }, .int .i64 0] 69))) := by
          have e1 := heap_alloc_new (w2.alloc (.cells #[.string bb, .int .i64 0] 69)) (.cells #[.string { data := #[] }, .int .i64 0] 71)
          rw [hs3] at e1
          have e2 := heap_alloc_new ((w2.alloc (.cells #[.string bb, .int .i64 0] 69)).alloc (.cells #[.string { data := #[] }, .int .i64 0] 71)) (.cells #[.string { data := #[] }, .int .i64 0] 69)
          have hs4 : ((w2.alloc (.cells #[.string bb, .int .i64 0] 69)).alloc (.cells #[.string { data := #[] }, .int .i64 0] 71)).heap.size = w2.heap.size + 1 + 1 := by simp
          rw [hs4] at e2
          refine ⟨by omega, by omega, by omega, by simp, ?_, e2⟩
          have e1' : Rd (w2.heap.size + 1) [] 0 ((w2.alloc (.cells #[.string bb, .int .i64 0] 69)).alloc (.cells #[.string { data := #[] }, .int .i64 0] 71)) := e1
          exact e1'.below (al (Below.refl _ _) _)
        have HB : Hid (Below w.heap.size w (((w2.alloc (.cells #[.string bb, .int .i64 0] 69)).alloc (.cells #[.string { data := #[] }, .int .i64 0] 71)).alloc (.cells #[.string { data := #[] }, .int .i64 0] 69))) := al (al (al B2.out _) _) _
        clear H2 B2 hbr hrl hwl hs3
        go_wp2_with fail
        go_loopw [9] (fun s9 wr => ∃ (k : Nat) (L : List UInt8) (e : Int), k ≤ l.length ∧ s9 = .int .i64 k ∧ Hid (RTwo w.heap.size (w2.heap.size + 1) (w2.heap.size + 1 + 1) L e wr) ∧ Hid (Below w.heap.size w wr)) (fun s9 _ => l.length - (intOf s9).toNat)
        case atStart => exact ⟨0, [], 0, Nat.zero_le _, rfl, HT.out, HB.out⟩
        case round =>
          clear HT HB
          obtain ⟨k, L, e, hk, rfl, HT, HB⟩ := hrel
          by_cases hlt : k < l.length
          · obtain ⟨b, o, rfl, c0, c1, c2, c3⟩ := (HI.out.below HB.out) k hlt
            obtain ⟨hwk, hwn, _, _⟩ := HW.out l[k] (List.getElem_mem hlt)
            generalize hop : l[k] = op at c0 c1 c2 c3 hwk hwn
            obtain ⟨kd, n, v, sb⟩ := op
            clear hop c2 c3
            simp only at c0 c1 hwk hwn
            have hn0 := Go.bounds_i64 hwn
            have hn1 := hn0.2
            have hll : L.length ≤ 6000 := HT.out.2.2.2.1
            have HBR := Lib.hid HT.out.1
            have HBX := Lib.hid HT.out.2.1
            clear hwk hwn hn0
            by_cases h1 : kd = 1
            · subst h1
              go_wp2_with fail
              refine (rnum_calls (w2.heap.size + 1) L e n _ HT.out.2.2.2.2.1).mono ?_
              rintro r w4 ⟨rfl, h4, k4⟩
              have H4 := Lib.hid h4
              have K4 := Lib.hid k4
              clear h4 k4
              go_wp2_with fail
              refine (xrnum_calls (w2.heap.size + 1 + 1) L e n _ (HT.out.x1 K4.out)).mono ?_
              rintro r w5 ⟨rfl, h5, k5⟩
              obtain ⟨t5, b5⟩ := rtwo_step HT.out (rnum_left L e n) H4.out K4.out h5 k5 (Below.refl _ _)
              have H5 := Lib.hid t5
              have B5 := Lib.hid (HB.out.trans b5)
              clear h5 k5 t5 b5 H4 K4 c0 c1
              generalize (rnumR L e n).2.1 = L' at H5 
              generalize (rnumR L e n).2.2 = e' at H5 
              have hr5 := H5.out.2.2.2.2.1
              have hx5 := H5.out.2.2.2.2.2
              have hl5 : L'.length ≤ 6000 := H5.out.2.2.2.1
              have HR5 := Lib.hid hr5
              have HX5 := Lib.hid hx5
              have e5 := Rx.err hx5
              clear hr5 hx5
              go_wp2_with fail
              go_quiet ((first | (go_at_call 20; exact rerr_q _ L' e' w5 _ HR5.out) | (go_at_call 21; exact rend_q _ L' e' w5 _ HR5.out (by omega)) | (go_at_call 53; exact xrend_q _ L' e' w5 _ HX5.out (by omega))))
              clear e5
              go_wp2
              go_roundw
              case rel => exact ⟨k + 1, L', e', by omega, by go_num, ⟨H5.out.1, H5.out.2.1, H5.out.2.2.1, hl5, HR5.out, HX5.out⟩, B5.out.trans (dr _ _ _ B5.out.size)⟩
              case measure => simp [intOf]; omega
            have k1 : (kd == 1) = false := beq_eq_false_iff_ne.2 h1
            by_cases h2 : kd = 2
            · subst h2
              clear h1 k1
              go_wp2_with fail
              refine (rint_calls (w2.heap.size + 1) L e _ HT.out.2.2.2.2.1).mono ?_
              rintro r w4 ⟨rfl, h4, k4⟩
              have H4 := Lib.hid h4
              have K4 := Lib.hid k4
              clear h4 k4
              go_wp2_with fail
              refine (xrnum_calls (w2.heap.size + 1 + 1) L e 8 _ (HT.out.x1 K4.out)).mono ?_
              rintro r w5 ⟨rfl, h5, k5⟩
              obtain ⟨t5, b5⟩ := rtwo_step HT.out (rnum_left L e 8) H4.out K4.out h5 k5 (Below.refl _ _)
              have H5 := Lib.hid t5
              have B5 := Lib.hid (HB.out.trans b5)
              clear h5 k5 t5 b5 H4 K4 c0 c1
              generalize (rnumR L e 8).2.1 = L' at H5 
              generalize (rnumR L e 8).2.2 = e' at H5 
              have hr5 := H5.out.2.2.2.2.1
              have hx5 := H5.out.2.2.2.2.2
              have hl5 : L'.length ≤ 6000 := H5.out.2.2.2.1
              have HR5 := Lib.hid hr5
              have HX5 := Lib.hid hx5
              have e5 := Rx.err hx5
              clear hr5 hx5
              go_wp2_with fail
              go_quiet ((first | (go_at_call 20; exact rerr_q _ L' e' w5 _ HR5.out) | (go_at_call 21; exact rend_q _ L' e' w5 _ HR5.out (by omega)) | (go_at_call 53; exact xrend_q _ L' e' w5 _ HX5.out (by omega))))
              clear e5
              go_wp2
              go_roundw
              case rel => exact ⟨k + 1, L', e', by omega, by go_num, ⟨H5.out.1, H5.out.2.1, H5.out.2.2.1, hl5, HR5.out, HX5.out⟩, B5.out.trans (dr _ _ _ B5.out.size)⟩
              case measure => simp [intOf]; omega
            have k2 : (kd == 2) = false := beq_eq_false_iff_ne.2 h2
            by_cases h3 : kd = 3
            · subst h3
              clear h1 k1 h2 k2
              go_wp2_with fail
              refine (rtext_calls (w2.heap.size + 1) L e n _ HT.out.2.2.2.2.1).mono ?_
              rintro r w4 ⟨rfl, h4, k4⟩
              have H4 := Lib.hid h4
              have K4 := Lib.hid k4
              clear h4 k4
              go_wp2_with fail
              refine (xrtext_calls (w2.heap.size + 1 + 1) L e n _ (HT.out.x1 K4.out)).mono ?_
              rintro r w5 ⟨rfl, h5, k5⟩
              obtain ⟨t5, b5⟩ := rtwo_step HT.out (rtext_left L e n) H4.out K4.out h5 k5 (Below.refl _ _)
              have H5 := Lib.hid t5
              have B5 := Lib.hid (HB.out.trans b5)
              clear h5 k5 t5 b5 H4 K4 c0 c1
              generalize (rtextR L e n).2.1 = L' at H5 
              generalize (rtextR L e n).2.2 = e' at H5 
              have hr5 := H5.out.2.2.2.2.1
              have hx5 := H5.out.2.2.2.2.2
              have hl5 : L'.length ≤ 6000 := H5.out.2.2.2.1
              have HR5 := Lib.hid hr5
              have HX5 := Lib.hid hx5
              have e5 := Rx.err hx5
              clear hr5 hx5
              go_wp2_with fail
              go_quiet ((first | (go_at_call 20; exact rerr_q _ L' e' w5 _ HR5.out) | (go_at_call 21; exact rend_q _ L' e' w5 _ HR5.out (by omega)) | (go_at_call 53; exact xrend_q _ L' e' w5 _ HX5.out (by omega))))
              clear e5
              go_wp2
              go_roundw
              case rel => exact ⟨k + 1, L', e', by omega, by go_num, ⟨H5.out.1, H5.out.2.1, H5.out.2.2.1, hl5, HR5.out, HX5.out⟩, B5.out.trans (dr _ _ _ B5.out.size)⟩
              case measure => simp [intOf]; omega
            have k3 : (kd == 3) = false := beq_eq_false_iff_ne.2 h3
            by_cases h4 : kd = 4
            · subst h4
              clear h1 k1 h2 k2 h3 k3
              go_wp2_with fail
              refine (rflag_calls (w2.heap.size + 1) L e _ HT.out.2.2.2.2.1).mono ?_
              rintro r w4 ⟨rfl, h4, k4⟩
              have H4 := Lib.hid h4
              have K4 := Lib.hid k4
              clear h4 k4
              go_wp2_with fail
              refine (xrflag_calls (w2.heap.size + 1 + 1) L e _ (HT.out.x1 K4.out)).mono ?_
              rintro r w5 ⟨rfl, h5, k5⟩
              obtain ⟨t5, b5⟩ := rtwo_step HT.out (flag_left L e) H4.out K4.out h5 k5 (Below.refl _ _)
              have H5 := Lib.hid t5
              have B5 := Lib.hid (HB.out.trans b5)
              clear h5 k5 t5 b5 H4 K4 c0 c1
              generalize (flagR L e).2.1 = L' at H5 
              generalize (flagR L e).2.2 = e' at H5 
              have hr5 := H5.out.2.2.2.2.1
              have hx5 := H5.out.2.2.2.2.2
              have hl5 : L'.length ≤ 6000 := H5.out.2.2.2.1
              have HR5 := Lib.hid hr5
              have HX5 := Lib.hid hx5
              have e5 := Rx.err hx5
              clear hr5 hx5
              go_wp2_with fail
              go_quiet ((first | (go_at_call 20; exact rerr_q _ L' e' w5 _ HR5.out) | (go_at_call 21; exact rend_q _ L' e' w5 _ HR5.out (by omega)) | (go_at_call 53; exact xrend_q _ L' e' w5 _ HX5.out (by omega))))
              clear e5
              go_wp2
              go_roundw
              case rel => exact ⟨k + 1, L', e', by omega, by go_num, ⟨H5.out.1, H5.out.2.1, H5.out.2.2.1, hl5, HR5.out, HX5.out⟩, B5.out.trans (dr _ _ _ B5.out.size)⟩
              case measure => simp [intOf]; omega
            have k4 : (kd == 4) = false := beq_eq_false_iff_ne.2 h4
            by_cases h5 : kd = 5
            · subst h5
              clear h1 k1 h2 k2 h3 k3 h4 k4
              go_wp2_with fail
              refine (rskip_calls (w2.heap.size + 1) L e n _ HT.out.2.2.2.2.1 hn1 (by omega)).mono ?_
              rintro r w4 ⟨rfl, h4, k4⟩
              have H4 := Lib.hid h4
              have K4 := Lib.hid k4
              clear h4 k4
              go_wp2_with fail
              refine (xrskip_calls (w2.heap.size + 1 + 1) L e n _ (HT.out.x1 K4.out) hn1 (by omega)).mono ?_
              rintro r w5 ⟨rfl, h5, k5⟩
              obtain ⟨t5, b5⟩ := rtwo_step HT.out (skip_left L e n) H4.out K4.out h5 k5 (Below.refl _ _)
              have H5 := Lib.hid t5
              have B5 := Lib.hid (HB.out.trans b5)
              clear h5 k5 t5 b5 H4 K4 c0 c1
              generalize (skipR L e n).1 = L' at H5 
              generalize (skipR L e n).2 = e' at H5 
              have hr5 := H5.out.2.2.2.2.1
              have hx5 := H5.out.2.2.2.2.2
              have hl5 : L'.length ≤ 6000 := H5.out.2.2.2.1
              have HR5 := Lib.hid hr5
              have HX5 := Lib.hid hx5
              have e5 := Rx.err hx5
              clear hr5 hx5
              go_wp2_with fail
              go_quiet ((first | (go_at_call 20; exact rerr_q _ L' e' w5 _ HR5.out) | (go_at_call 21; exact rend_q _ L' e' w5 _ HR5.out (by omega)) | (go_at_call 53; exact xrend_q _ L' e' w5 _ HX5.out (by omega))))
              clear e5
              go_wp2
              go_roundw
              case rel => exact ⟨k + 1, L', e', by omega, by go_num, ⟨H5.out.1, H5.out.2.1, H5.out.2.2.1, hl5, HR5.out, HX5.out⟩, B5.out.trans (dr _ _ _ B5.out.size)⟩
              case measure => simp [intOf]; omega
            have k5 : (kd == 5) = false := beq_eq_false_iff_ne.2 h5
            clear h1 h2 h3 h4 h5
            go_wp2_with fail
            refine (rcount_calls (w2.heap.size + 1) L e n _ HT.out.2.2.2.2.1).mono ?_
            rintro r w4 ⟨rfl, h4, k4⟩
            have H4 := Lib.hid h4
            have K4 := Lib.hid k4
            clear h4 k4
            go_wp2_with fail
            refine (xrcount_calls (w2.heap.size + 1 + 1) L e n _ (HT.out.x1 K4.out)).mono ?_
            rintro r w5 ⟨rfl, h5, k5⟩
            obtain ⟨t5, b5⟩ := rtwo_step HT.out (count_left L e n) H4.out K4.out h5 k5 (Below.refl _ _)
            have H5 := Lib.hid t5
            have B5 := Lib.hid (HB.out.trans b5)
            clear h5 k5 t5 b5 H4 K4 c0 c1
            generalize (countR L e n).2.1 = L' at H5 
            generalize (countR L e n).2.2 = e' at H5 
            have hr5 := H5.out.2.2.2.2.1
            have hx5 := H5.out.2.2.2.2.2
            have hl5 : L'.length ≤ 6000 := H5.out.2.2.2.1
            have HR5 := Lib.hid hr5
            have HX5 := Lib.hid hx5
            have e5 := Rx.err hx5
            clear hr5 hx5
            go_wp2_with fail
            go_quiet ((first | (go_at_call 20; exact rerr_q _ L' e' w5 _ HR5.out) | (go_at_call 21; exact rend_q _ L' e' w5 _ HR5.out (by omega)) | (go_at_call 53; exact xrend_q _ L' e' w5 _ HX5.out (by omega))))
            clear e5
            go_wp2
            go_roundw
            case rel => exact ⟨k + 1, L', e', by omega, by go_num, ⟨H5.out.1, H5.out.2.1, H5.out.2.2.1, hl5, HR5.out, HX5.out⟩, B5.out.trans (dr _ _ _ B5.out.size)⟩
            case measure => simp [intOf]; omega
          · clear HI HW
            go_wp2_with fail
            refine (wireAlive_calls _).mono ?_
            rintro r w4 ⟨rfl, b4⟩
            go_wp2
            go_ret
            exact ⟨rfl, HB.out.trans (b4.mono HB.out.size)⟩

end Go.Proofs.YtpbmclaglkcmoaaDoor
