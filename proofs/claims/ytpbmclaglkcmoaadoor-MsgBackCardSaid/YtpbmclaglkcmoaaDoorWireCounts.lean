import Derived.Test.YtpbmclaglkcmoaaDoorWireAlive
import Derived.OpenShut
namespace Go.Proofs.YtpbmclaglkcmoaaDoor
open Go.RowKit
set_option linter.unusedVariables false
set_option linter.unusedSimpArgs false

theorem dr (w : World) (m B : Nat) (h : B ≤ w.heap.size) : Below B w (w.drewN m) := ⟨rfl, rfl, rfl, Nat.le_refl _, fun _ _ => rfl⟩

set_option maxHeartbeats 2000000 in
set_option maxRecDepth 100000 in
theorem wireCounts_calls (n most : Int) (w : World) (hn : (Lit.int .i64 n).wf = true) (hm : (Lit.int .i64 most).wf = true) :
    Calls Tryd.prog 3 #[.int .i64 n, .int .i64 most] w fun r w' => r = .returned (.bool true) ∧ Below w.heap.size w w' := by
  have hn0 := Go.bounds_i64 hn
  have hm0 := Go.bounds_i64 hm
  clear hn hm
  by_cases h1 : n < 0
  · go_enter Tryd.func3, Tryd.ntmps3
    go_wp2_with fail
    refine (wireAlive_calls _).mono ?_
    rintro e w1 ⟨rfl, b1⟩
    go_wp2
    go_ret
    exact ⟨rfl, b1⟩
  by_cases h2 : 65535 < n
  · go_enter Tryd.func3, Tryd.ntmps3
    go_wp2_with fail
    refine (wireAlive_calls _).mono ?_
    rintro e w1 ⟨rfl, b1⟩
    go_wp2
    go_ret
    exact ⟨rfl, b1⟩
  have hwn : IntKind.u64.wrap n = n := wraps_u64 n (by omega) (by omega)
  have hnum : numW ([], 0) n 2 = (leB 2 n, 0) := by rw [numW_ok [] n 2 (wrong2 n (by omega) (by omega))]; rfl
  have hby : bytesW (leB 2 n, 0) = bstr (leB 2 n) := rfl
  have hcount : countR (leB 2 n) 0 most = if most < n then (0, [], 2) else (n.toNat, [], 0) := by
    have e := rnum_le 2 n [] (by decide) (by decide) (by omega) (by omega)
    rw [List.append_nil] at e
    unfold countR
    have e' : rnumR (leB 2 n) 0 2 = (n.toNat, [], 0) := e
    rw [e']
    simp only [Int.toNat_of_nonneg (show 0 ≤ n by omega), true_and]
  have HNUM := Lib.hid hnum
  have HBY := Lib.hid hby
  have HCO := Lib.hid hcount
  have HWN := Lib.hid hwn
  have hl : (bstr (leB 2 n)).size = 2 := leB_length 2 n
  have HL := Lib.hid hl
  clear hnum hby hcount hl
  go_enter Tryd.func3, Tryd.ntmps3
  go_wp2_with fail
  refine (wr_at (Nat.le_of_lt (by simp)) (num_calls (fun k => w.heap.size ≤ k) w.heap.size ([], 0) n 2 _ (Wr.fresh w) (by omega) (by omega) (by decide))).mono ?_
  rw [HNUM.out]
  rintro e w1 ⟨rfl, h1, b1⟩
  have H1 := Lib.hid h1
  have B1 := Lib.hid (al (Below.refl _ w) _ |>.trans b1)
  clear h1 b1
  go_wp2_with fail
  refine (bytes_calls (fun k => w.heap.size ≤ k) w.heap.size (leB 2 n, 0) _ H1.out).mono ?_
  rw [HBY.out]
  rintro e w2 ⟨rfl, m2, rfl⟩
  have B2 := Lib.hid (B1.out.trans (dr w1 m2 w.heap.size B1.out.size))
  go_wp2_with fail
  refine (newReader_calls (bstr (leB 2 n)) _ (by rw [HL.out]; decide)).mono ?_
  rintro e w3 ⟨b, rfl, hb, h3, b3⟩
  rw [bstr_toList] at h3
  have H3 := Lib.hid h3
  have hge : w.heap.size ≤ b := by have := B2.out.size; omega
  have B3 := Lib.hid (B2.out.trans (b3.mono B2.out.size))
  clear h3 b3 hb
  by_cases h3 : most < n
  · have HCO2 : Hid (countR (leB 2 n) 0 most = (0, [], 2)) := by show _ = _; rw [HCO.out, if_pos h3]
    go_wp2_with fail
    refine (rcount_calls b (leB 2 n) 0 most _ H3.out).mono ?_
    rw [HCO2.out]
    rintro e w4 ⟨rfl, h4, k4⟩
    have H4 := Lib.hid h4
    have B4 := Lib.hid (B3.out.trans (k4.below B3.out.size (fun k hk e => by omega)))
    clear h4 k4
    go_wp2_with fail
    refine (wireAlive_calls _).mono ?_
    rintro e w5 ⟨rfl, b5⟩
    have B5 := Lib.hid (B4.out.trans (b5.mono B4.out.size))
    have H5 := Lib.hid (H4.out.below b5)
    clear b5
    go_wp2_with fail
    refine (rerr_calls b [] 2 _ H5.out).mono ?_
    rintro e w6 ⟨rfl, rfl⟩
    go_wp2
    go_ret
    exact ⟨rfl, B5.out⟩
  · have HCO2 : Hid (countR (leB 2 n) 0 most = (n.toNat, [], 0)) := by show _ = _; rw [HCO.out, if_neg h3]
    have hnn : ((n.toNat : Nat) : Int) = n := by omega
    have HNN := Lib.hid hnn
    clear hnn
    go_wp2_with fail
    refine (rcount_calls b (leB 2 n) 0 most _ H3.out).mono ?_
    rw [HCO2.out]
    simp only [HNN.out]
    rintro e w4 ⟨rfl, h4, k4⟩
    have H4 := Lib.hid h4
    have B4 := Lib.hid (B3.out.trans (k4.below B3.out.size (fun k hk e => by omega)))
    clear h4 k4
    go_wp2_with fail
    refine (wireAlive_calls _).mono ?_
    rintro e w5 ⟨rfl, b5⟩
    have B5 := Lib.hid (B4.out.trans (b5.mono B4.out.size))
    have H5 := Lib.hid (H4.out.below b5)
    clear b5
    go_wp2_with fail
    refine (rend_calls b [] 0 _ H5.out (by decide)).mono ?_
    rintro e w6 ⟨rfl, m6, rfl⟩
    have he : endR [] 0 = 0 := rfl
    rw [he]
    go_wp2
    go_ret
    exact ⟨rfl, B5.out.trans (dr _ _ _ B5.out.size)⟩

end Go.Proofs.YtpbmclaglkcmoaaDoor
