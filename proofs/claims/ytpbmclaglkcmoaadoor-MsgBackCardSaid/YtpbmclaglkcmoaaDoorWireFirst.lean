import Derived.Test.YtpbmclaglkcmoaaDoorWireCounts
namespace Go.Proofs.YtpbmclaglkcmoaaDoor
open Go.RowKit
set_option linter.unusedVariables false
set_option linter.unusedSimpArgs false

theorem takeR_err (l : List UInt8) (e : Int) (n : Nat) (h : e ≠ 0) : takeR l e n = ([], l, e) := by unfold takeR; rw [if_pos h]
theorem rnumR_err (l : List UInt8) (e n : Int) (h : e ≠ 0) : rnumR l e n = (0, l, e) := by
  unfold rnumR failErr
  rw [takeR_err _ _ _ h]
  split
  · simp [h]
  · rfl
theorem countR_err (l : List UInt8) (e n : Int) (h : e ≠ 0) : countR l e n = (0, l, e) := by
  unfold countR
  rw [rnumR_err _ _ _ h, if_neg (fun h' => h h'.1)]
theorem rtextR_err (l : List UInt8) (e n : Int) (h : e ≠ 0) : rtextR l e n = ([], l, e) := by
  unfold rtextR failErr
  rw [countR_err _ _ _ h, takeR_err _ _ _ h, if_neg h]
  split <;> rfl
theorem flagR_err (l : List UInt8) (e : Int) (h : e ≠ 0) : flagR l e = (false, l, e) := by
  unfold flagR
  rw [rnumR_err _ _ _ h]
  rfl
theorem endR_err (l : List UInt8) (e : Int) (h : e ≠ 0) : endR l e = e := by unfold endR; rw [if_pos h]

set_option maxHeartbeats 4000000 in
set_option maxRecDepth 100000 in
theorem wireFirst_calls (s : ByteArray) (v : Int) (b : ByteArray) (w : World) (hs : s.size ≤ 140737488351232) (hv : (Lit.int .u64 v).wf = true) (hb : b.size ≤ 140737488351232) :
    Calls Tryd.prog 9 #[.string s, .int .u64 v, .string b] w fun r w' => r = .returned (.bool true) ∧ Below w.heap.size w w' := by
  have hv0 := Go.bounds_u64 hv
  clear hv
  by_cases h1 : 300 < (s.size : Int)
  · go_enter Tryd.func9, Tryd.ntmps9
    go_wp2_with fail
    refine (wireAlive_calls _).mono ?_
    rintro e w1 ⟨rfl, b1⟩
    go_wp2
    go_ret
    exact ⟨rfl, b1⟩
  by_cases h2 : (s.size : Int) < 2
  · go_enter Tryd.func9, Tryd.ntmps9
    go_wp2_with fail
    refine (wireAlive_calls _).mono ?_
    rintro e w1 ⟨rfl, b1⟩
    go_wp2
    go_ret
    exact ⟨rfl, b1⟩
  by_cases h3 : 300 < (b.size : Int)
  · go_enter Tryd.func9, Tryd.ntmps9
    go_wp2_with fail
    refine (wireAlive_calls _).mono ?_
    rintro e w1 ⟨rfl, b1⟩
    go_wp2
    go_ret
    exact ⟨rfl, b1⟩
  have HNUM : Hid (numW ([], 0) v 8 = (leB 8 v, 0)) := by show _ = _; rw [numW_ok [] v 8 (wrong8 v)]; rfl
  have HTX : Hid (textW (leB 8 v, 0) s.data.toList 1 = (leB 8 v, 2)) := by
    show _ = _
    unfold textW
    have hw : failErr (leB 8 v, (0 : Int)).2 (wrongR 1) = 0 := rfl
    rw [if_pos hw, if_pos (by rw [toList_length]; omega)]
  have HN1 : Hid (numW (leB 8 v, 2) 1 1 = (leB 8 v, 2)) := by show _ = _; rfl
  have HPD : Hid (padW (leB 8 v, 2) (-1) = (leB 8 v, 2)) := by show _ = _; rfl
  have HFL : Hid (flagW (leB 8 v, 2) true = (leB 8 v, 2)) := by show _ = _; rfl
  have HBY : Hid (bytesW (leB 8 v, 2) = { data := #[] }) := by show _ = _; rfl
  have hll : (leB 8 v).length = 8 := leB_length 8 v
  have HLL := Lib.hid hll
  clear hll
  go_enter Tryd.func9, Tryd.ntmps9
  go_wp2_with fail
  refine (wr_at (Nat.le_of_lt (by simp)) (num_calls (fun k => w.heap.size ≤ k) w.heap.size ([], 0) v 8 _ (Wr.fresh w) (by omega) (by omega) (by decide))).mono ?_
  rw [HNUM.out]
  rintro e w1 ⟨rfl, h1, b1⟩
  have H1 := Lib.hid h1
  have B1 := Lib.hid (al (Below.refl _ w) _ |>.trans b1)
  clear h1 b1
  go_wp2_with fail
  refine (wr_at B1.out.size (text_calls (fun k => w.heap.size ≤ k) w.heap.size (leB 8 v, 0) s 1 _ H1.out (by rw [HLL.out]; decide))).mono ?_
  rw [HTX.out]
  rintro e w2 ⟨rfl, h2, b2⟩
  have H2 := Lib.hid h2
  have B2 := Lib.hid (B1.out.trans b2)
  clear h2 b2 H1
  go_wp2_with fail
  refine (wr_at B2.out.size (num_calls (fun k => w.heap.size ≤ k) w.heap.size (leB 8 v, 2) 1 1 _ H2.out (by decide) (by decide) (by rw [HLL.out]; decide))).mono ?_
  rw [HN1.out]
  rintro e w3 ⟨rfl, h3, b3⟩
  have H3 := Lib.hid h3
  have B3 := Lib.hid (B2.out.trans b3)
  clear h3 b3 H2
  go_wp2_with fail
  refine (wr_at B3.out.size (pad_calls (fun k => w.heap.size ≤ k) w.heap.size (leB 8 v, 2) (-1) _ H3.out)).mono ?_
  rw [HPD.out]
  rintro e w4 ⟨rfl, h4, b4⟩
  have H4 := Lib.hid h4
  have B4 := Lib.hid (B3.out.trans b4)
  clear h4 b4 H3
  go_wp2_with fail
  refine (wr_at B4.out.size (flag_calls (fun k => w.heap.size ≤ k) w.heap.size (leB 8 v, 2) true _ H4.out (by rw [HLL.out]; decide))).mono ?_
  rw [HFL.out]
  rintro e w5 ⟨rfl, h5, b5⟩
  have H5 := Lib.hid h5
  have B5 := Lib.hid (B4.out.trans b5)
  clear h5 b5 H4
  go_wp2_with fail
  refine (bytes_calls (fun k => w.heap.size ≤ k) w.heap.size (leB 8 v, 2) _ H5.out).mono ?_
  rw [HBY.out]
  rintro e w6 ⟨rfl, m6, rfl⟩
  have B6 := Lib.hid (B5.out.trans (dr w5 m6 w.heap.size B5.out.size))
  go_wp2_with fail
  refine (newReader_calls b _ (by omega)).mono ?_
  rintro e w7 ⟨br, rfl, hbr, h7, b7⟩
  have hge : w.heap.size ≤ br := by have := B6.out.size; omega
  have B7 := Lib.hid (B6.out.trans (b7.mono B6.out.size))
  have hLl : b.data.toList.length ≤ 300 := by rw [toList_length]; omega
  generalize b.data.toList = L at h7 hLl
  have H7 := Lib.hid h7
  clear h7 b7 hbr
  go_wp2_with fail
  refine (rnum_calls br L 0 9 _ H7.out).mono ?_
  have hn : rnumR L 0 9 = (0, L, 1) := by unfold rnumR; rw [if_pos (by decide)]; rfl
  rw [hn]
  rintro e w8 ⟨rfl, h8, k8⟩
  have H8 := Lib.hid h8
  have B8 := Lib.hid (B7.out.trans (k8.below B7.out.size (fun k hk e => by omega)))
  clear h8 k8 hn
  go_wp2_with fail
  refine (rerr_calls br L 1 _ H8.out).mono ?_
  rintro e w9 ⟨rfl, rfl⟩
  go_wp2_with fail
  refine (wireAlive_calls _).mono ?_
  rintro e w9 ⟨rfl, b9⟩
  have B9 := Lib.hid (B8.out.trans (b9.mono B8.out.size))
  have H9 := Lib.hid (H8.out.below b9)
  clear b9
  go_wp2_with fail
  refine (rnum_calls br L 1 1 _ H9.out).mono ?_
  rw [rnumR_err L 1 1 (by decide)]
  rintro e w10 ⟨rfl, h10, k10⟩
  have H10 := Lib.hid h10
  have B10 := Lib.hid (B9.out.trans (k10.below B9.out.size (fun k hk e => by omega)))
  clear h10 k10
  go_wp2_with fail
  refine (rtext_calls br L 1 300 _ H10.out).mono ?_
  rw [rtextR_err L 1 300 (by decide)]
  rintro e w11 ⟨rfl, h11, k11⟩
  have H11 := Lib.hid h11
  have B11 := Lib.hid (B10.out.trans (k11.below B10.out.size (fun k hk e => by omega)))
  clear h11 k11
  have he : bstr [] = { data := #[] } := rfl
  rw [he]
  go_wp2_with fail
  refine (rflag_calls br L 1 _ H11.out).mono ?_
  rw [flagR_err L 1 (by decide)]
  rintro e w12 ⟨rfl, h12, k12⟩
  have H12 := Lib.hid h12
  have B12 := Lib.hid (B11.out.trans (k12.below B11.out.size (fun k hk e => by omega)))
  clear h12 k12
  go_wp2_with fail
  refine (rcount_calls br L 1 9 _ H12.out).mono ?_
  rw [countR_err L 1 9 (by decide)]
  rintro e w13 ⟨rfl, h13, k13⟩
  have H13 := Lib.hid h13
  have B13 := Lib.hid (B12.out.trans (k13.below B12.out.size (fun k hk e => by omega)))
  clear h13 k13
  go_wp2_with fail
  refine (rerr_calls br L 1 _ H13.out).mono ?_
  rintro e w14 ⟨rfl, rfl⟩
  go_wp2_with fail
  refine (rend_calls br L 1 _ H13.out (by omega)).mono ?_
  rw [endR_err L 1 (by decide)]
  rintro e w14 ⟨rfl, m14, rfl⟩
  go_wp2
  go_ret
  exact ⟨rfl, B13.out.trans (dr _ _ _ B13.out.size)⟩

end Go.Proofs.YtpbmclaglkcmoaaDoor
