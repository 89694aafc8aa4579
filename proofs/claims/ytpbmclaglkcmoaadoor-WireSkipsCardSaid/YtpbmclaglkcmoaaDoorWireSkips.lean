import Derived.Test.YtpbmclaglkcmoaaDoorWireBack
namespace Go.Proofs.YtpbmclaglkcmoaaDoor
open Go.RowKit
set_option linter.unusedVariables false
set_option linter.unusedSimpArgs false

theorem skip_all (z : List UInt8) (h : allZ z = true) : skipR z 0 z.length = ([], 0) := by
  unfold skipR
  rw [if_neg (by omega), Int.toNat_natCast]
  have ht : takeR z 0 z.length = (z, [], 0) := by simp [takeR]
  rw [ht, if_pos h]

theorem skip_bad (z : List UInt8) (h : allZ z = false) : skipR z 0 z.length = ([], 4) := by
  unfold skipR
  rw [if_neg (by omega), Int.toNat_natCast]
  have ht : takeR z 0 z.length = (z, [], 0) := by simp [takeR]
  rw [ht, if_neg (by simp [h])]
  rfl

theorem allZ_set (z j : Nat) (hj : j < z) : allZ ((List.replicate z 0).set j 7) = false := by
  rw [Bool.eq_false_iff]
  intro h
  have h2 := List.all_eq_true.1 h 7 (List.mem_of_getElem? (i := j) (by simp [hj]))
  revert h2
  decide

theorem set_app2 (a b : List UInt8) (i j : Nat) (c : UInt8) (h : i = a.length + j) : (a ++ b).set i c = a ++ b.set j c := by
  subst h
  rw [List.set_append_right _ _ (by omega)]
  congr 2
  omega

set_option maxHeartbeats 4000000 in
set_option maxRecDepth 100000 in
theorem wireSkips_main (s : ByteArray) (n at_ : Int) (z : Nat) (w : World) (hs : s.size ≤ 300) (hz : n - (s.size : Int) = (z : Int)) (hn : n ≤ 600) (hat : 0 ≤ at_) (hat1 : at_ ≤ 9223372036854775807) :
    Calls Tryd.prog 11 #[.string s, .int .i64 n, .int .i64 at_] w fun r w' => r = .returned (.bool true) ∧ Below w.heap.size w w' := by
  have HTX : Hid (textW ([], 0) s.data.toList 300 = (leB 2 s.size ++ s.data.toList, 0)) := by
    show _ = _
    unfold textW
    rw [if_pos (show failErr 0 (wrongR 300) = 0 from rfl), if_neg (by rw [toList_length]; omega), toList_length]
    rfl
  have hbl : (leB 2 s.size ++ s.data.toList).length = s.size + 2 := by rw [List.length_append, leB_length, toList_length]; omega
  have HPD : Hid (padW (leB 2 s.size ++ s.data.toList, 0) (n + 2) = (leB 2 s.size ++ s.data.toList ++ List.replicate z 0, 0)) := by
    show _ = _
    unfold padW padE
    simp only [hbl]
    rw [if_neg (by omega : ¬ (60000 : Int) < n + 2), if_neg (by omega : ¬ n + 2 < ((s.size + 2 : Nat) : Int))]
    rw [if_pos (show failErr 0 0 = 0 from rfl), show (n + 2).toNat - (s.size + 2) = z by omega]
  have hby : bytesW (leB 2 s.size ++ s.data.toList ++ List.replicate z 0, 0) = bstr (leB 2 s.size ++ s.data.toList ++ List.replicate z 0) := rfl
  have HBY := Lib.hid hby
  have hbs : (bstr (leB 2 s.size ++ s.data.toList ++ List.replicate z 0)).size = s.size + 2 + z := by rw [bstr_size, List.length_append, hbl, List.length_replicate]
  have HRT := Lib.hid (rtext_le s.data.toList (List.replicate z 0) 300 (by omega) (by omega) (by rw [toList_length]; omega))
  have HRT2 := Lib.hid (fun l => rtext_le s.data.toList l 300 (by omega) (by omega) (by rw [toList_length]; omega))
  rw [toList_length] at HRT HRT2
  have HSK : Hid (skipR (List.replicate z 0) 0 z = ([], 0)) := by
    have := skip_all (List.replicate z 0) (allZ_rep z)
    rw [List.length_replicate] at this
    exact this
  have hlen : ((bstr (leB 2 s.size ++ s.data.toList ++ List.replicate z 0)).size : Int) = n + 2 := by omega
  have hne2 : (((bstr (leB 2 s.size ++ s.data.toList ++ List.replicate z 0)).size : Int) != n + 2) = false := by rw [bne, beq_iff_eq.2 hlen]; rfl
  have HNE2 := Lib.hid hne2
  have HSZ := Lib.hid hbs
  have HBL := Lib.hid hbl
  have HZ := Lib.hid hz
  have HLEN := Lib.hid hlen
  obtain ⟨bb, hbb⟩ : ∃ bb, bb = bstr (leB 2 s.size ++ s.data.toList ++ List.replicate z 0) := ⟨_, rfl⟩
  rw [← hbb] at HBY HNE2 HSZ HLEN
  have HBB := Lib.hid hbb
  have hbb3 : bb.size ≤ 1000 := by have := HSZ.out; omega
  clear hby hbs hbl hlen hne2 hbb
  go_enter Tryd.func11, Tryd.ntmps11
  go_wp2_with fail
  refine (wr_at (Nat.le_of_lt (by simp)) (text_calls (fun k => w.heap.size ≤ k) w.heap.size ([], 0) s 300 _ (Wr.fresh w) (by decide))).mono ?_
  rw [HTX.out]
  rintro e w1 ⟨rfl, h1, b1⟩
  have H1 := Lib.hid h1
  have B1 := Lib.hid (al (Below.refl _ w) _ |>.trans b1)
  clear h1 b1
  go_wp2_with fail
  refine (wr_at B1.out.size (pad_calls (fun k => w.heap.size ≤ k) w.heap.size (leB 2 s.size ++ s.data.toList, 0) (n + 2) _ H1.out)).mono ?_
  rw [HPD.out]
  rintro e w2 ⟨rfl, h2, b2⟩
  have H2 := Lib.hid h2
  have B2 := Lib.hid (B1.out.trans b2)
  clear h2 b2 H1
  go_wp2_with fail
  refine (bytes_calls (fun k => w.heap.size ≤ k) w.heap.size (leB 2 s.size ++ s.data.toList ++ List.replicate z 0, 0) _ H2.out).mono ?_
  rw [HBY.out]
  rintro e w3 ⟨rfl, m3, rfl⟩
  have B3 := Lib.hid (B2.out.trans (dr w2 m3 w.heap.size B2.out.size))
  go_wp2_with fail
  refine (newReader_calls bb _ (by omega)).mono ?_
  rintro e w4 ⟨br, rfl, hbr, h4, b4⟩
  have hge : w.heap.size ≤ br := by have := B3.out.size; omega
  have h4' : Rd br (leB 2 s.size ++ s.data.toList ++ List.replicate z 0) 0 w4 := by rw [HBB.out] at h4; exact h4
  have H4 := Lib.hid h4'
  have B4 := Lib.hid (B3.out.trans (b4.mono B3.out.size))
  clear h4 b4 hbr h4'
  have hlen2 := HLEN.out
  go_wp2_with fail
  refine (rtext_calls br _ 0 300 _ H4.out).mono ?_
  rw [HRT.out]
  rintro e w5 ⟨rfl, h5, k5⟩
  have H5 := Lib.hid h5
  have B5 := Lib.hid (B4.out.trans (k5.below B4.out.size (fun k hk e => by omega)))
  clear h5 k5 hlen2
  have he : bstr s.data.toList = s := rfl
  rw [he]
  go_wp2_with fail
  refine (rskip_calls br _ 0 z _ H5.out (by omega) (by rw [List.length_replicate]; omega)).mono ?_
  rw [HSK.out]
  rintro e w6 ⟨rfl, h6, k6⟩
  have H6 := Lib.hid h6
  have B6 := Lib.hid (B5.out.trans (k6.below B5.out.size (fun k hk e => by omega)))
  clear h6 k6
  go_wp2_with fail
  refine (rerr_calls br [] 0 _ H6.out).mono ?_
  rintro e w7 ⟨rfl, rfl⟩
  go_wp2_with fail
  refine (rend_calls br [] 0 _ H6.out (by decide)).mono ?_
  have hend : endR [] 0 = 0 := rfl
  rw [hend]
  rintro e w7 ⟨rfl, m7, rfl⟩
  have B7 := Lib.hid (B6.out.trans (dr w6 m7 w.heap.size B6.out.size))
  clear hend
  by_cases hz0 : z = 0
  · have hb1 : (n == (s.size : Int)) = true := beq_iff_eq.2 (by omega)
    go_wp2_with fail
    refine (wireAlive_calls _).mono ?_
    rintro e w8 ⟨rfl, b8⟩
    go_wp2
    go_ret
    exact ⟨rfl, B7.out.trans (b8.mono B7.out.size)⟩
  · have hb1 : (n == (s.size : Int)) = false := beq_eq_false_iff_ne.2 (by omega)
    obtain ⟨j, hj⟩ := Int.eq_ofNat_of_zero_le (show 0 ≤ at_ % (z : Int) from Int.emod_nonneg _ (by omega))
    have hj2 : j < z := by have := Int.emod_lt_of_pos at_ (show 0 < (z : Int) by omega); omega
    obtain ⟨W1, cap1, hc1, ba1, bl1, sz1⟩ := conv_bytes (P := Tryd.prog) (w6.drewN m7) 9 24 5 bb Tryd.underlying9 Tryd.underlying24 Tryd.underlying5
    have hLL : bb.data.toList = leB 2 s.size ++ s.data.toList ++ List.replicate z 0 := by rw [HBB.out]; rfl
    have hLen : bb.data.toList.length = bb.size := toList_length bb
    have hidx : s.size + 2 + j < bb.data.toList.length := by rw [hLen, HSZ.out]; omega
    have ba2 : BArr w6.heap.size bb.data.toList W1 := ba1
    obtain ⟨c0, f0⟩ := ba2.2 (s.size + 2 + j) hidx
    obtain ⟨z0, hz00⟩ : ∃ z0, W1.cell? ⟨w6.heap.size, s.size + 2 + j, none⟩ = some z0 := ⟨_, c0⟩
    have hset := ba2.set (s.size + 2 + j) hidx 7
    have h7 : Value.int .u8 (((7 : UInt8).toNat : Nat) : Int) = Value.int .u8 7 := rfl
    rw [h7] at hset
    have hback := hset.back (P := Tryd.prog) 24 9 5 cap1 Tryd.underlying24 Tryd.underlying5 Tryd.underlying9
    rw [List.length_set, hLen] at hback
    have hsl : bb.data.toList.set (s.size + 2 + j) 7 = leB 2 s.size ++ s.data.toList ++ (List.replicate z 0).set j 7 := by
      rw [hLL]
      exact set_app2 _ _ _ j 7 (by rw [HBL.out])
    rw [hsl] at hback
    obtain ⟨cc, hcc⟩ : ∃ cc, cc = bstr (leB 2 s.size ++ s.data.toList ++ (List.replicate z 0).set j 7) := ⟨_, rfl⟩
    change _ = Result.ok (Value.string (bstr _)) _ at hback
    rw [← hcc] at hback
    have HCC := Lib.hid hcc
    have hb0 : (0 : Int) ≤ (s.size : Int) + 2 + (j : Int) := by omega
    have hb2 : (s.size : Int) + 2 + (j : Int) < (bb.size : Int) := by have := HSZ.out; omega
    have B8 := Lib.hid (show Below w.heap.size w (W1.setCell ⟨w6.heap.size, s.size + 2 + j, none⟩ (.int .u8 7)) from (B7.out.trans (bl1.mono B7.out.size)).setCell (by have := B7.out.size; exact this) _)
    have hl2 : (leB 2 s.size ++ s.data.toList ++ (List.replicate z 0).set j 7).length = s.size + 2 + z := by rw [List.length_append, HBL.out, List.length_set, List.length_replicate]
    have hcs : cc.size ≤ 1000 := by rw [hcc, bstr_size, hl2]; have := HSZ.out; omega
    have hzs : allZ ((List.replicate z 0).set j 7) = false := allZ_set z j hj2
    have HSK2 : Hid (skipR ((List.replicate z 0).set j 7) 0 z = ([], 4)) := by
      have := skip_bad _ hzs
      rw [List.length_set, List.length_replicate] at this
      exact this
    have HRT3 := Lib.hid (HRT2.out ((List.replicate z 0).set j 7))
    have hlz : ((List.replicate z (0 : UInt8)).set j 7).length = z := by rw [List.length_set, List.length_replicate]
    have HLZ := Lib.hid hlz
    clear hLL hidx ba1 ba2 c0 hset h7 hsl hl2 hzs hlz bl1 sz1 hLen hcc
    go_wp2_with fail
    refine (newReader_calls cc _ (by omega)).mono ?_
    rintro e w9 ⟨x, rfl, hx, h9, b9⟩
    rw [HCC.out, bstr_toList] at h9
    have hge2 : w.heap.size ≤ x := by have := B8.out.size; omega
    have H9 := Lib.hid h9
    have B9 := Lib.hid (B8.out.trans (b9.mono B8.out.size))
    clear h9 b9 hx hback hc1 hz00 f0
    go_wp2_with fail
    refine (rtext_calls x _ 0 300 _ H9.out).mono ?_
    rw [HRT3.out]
    rintro e w10 ⟨rfl, h10, k10⟩
    have H10 := Lib.hid h10
    have B10 := Lib.hid (B9.out.trans (k10.below B9.out.size (fun k hk e => by omega)))
    clear h10 k10
    go_wp2_with fail
    refine (rskip_calls x _ 0 z _ H10.out (by omega) (by rw [HLZ.out]; omega)).mono ?_
    rw [HSK2.out]
    rintro e w11 ⟨rfl, h11, k11⟩
    have H11 := Lib.hid h11
    have B11 := Lib.hid (B10.out.trans (k11.below B10.out.size (fun k hk e => by omega)))
    clear h11 k11
    go_wp2_with fail
    refine (wireAlive_calls _).mono ?_
    rintro e w12 ⟨rfl, b12⟩
    have B12 := Lib.hid (B11.out.trans (b12.mono B11.out.size))
    have H12 := Lib.hid (H11.out.below b12)
    clear b12
    go_wp2_with fail
    refine (rerr_calls x [] 4 _ H12.out).mono ?_
    rintro e w13 ⟨rfl, rfl⟩
    go_wp2
    go_ret
    exact ⟨rfl, B12.out⟩

set_option maxHeartbeats 2000000 in
theorem wireSkips_calls (s : ByteArray) (n at_ : Int) (w : World) (hs : s.size ≤ 140737488351232) (hn : (Lit.int .i64 n).wf = true) (ha : (Lit.int .i64 at_).wf = true) :
    Calls Tryd.prog 11 #[.string s, .int .i64 n, .int .i64 at_] w fun r w' => r = .returned (.bool true) ∧ Below w.heap.size w w' := by
  have ha0 := Go.bounds_i64 ha
  have hn0 := Go.bounds_i64 hn
  clear hn ha
  by_cases hg : 300 < (s.size : Int) ∨ n < (s.size : Int) ∨ 600 < n ∨ at_ < 0
  · by_cases h1 : 300 < (s.size : Int)
    · clear hg
      go_enter Tryd.func11, Tryd.ntmps11
      go_wp2_with fail
      refine (wireAlive_calls _).mono ?_
      rintro e w1 ⟨rfl, b1⟩
      go_wp2
      go_ret
      exact ⟨rfl, b1⟩
    by_cases h2 : n < (s.size : Int)
    · clear hg
      go_enter Tryd.func11, Tryd.ntmps11
      go_wp2_with fail
      refine (wireAlive_calls _).mono ?_
      rintro e w1 ⟨rfl, b1⟩
      go_wp2
      go_ret
      exact ⟨rfl, b1⟩
    by_cases h3 : 600 < n
    · clear hg
      go_enter Tryd.func11, Tryd.ntmps11
      go_wp2_with fail
      refine (wireAlive_calls _).mono ?_
      rintro e w1 ⟨rfl, b1⟩
      go_wp2
      go_ret
      exact ⟨rfl, b1⟩
    have h4 : at_ < 0 := by omega
    clear hg
    go_enter Tryd.func11, Tryd.ntmps11
    go_wp2_with fail
    refine (wireAlive_calls _).mono ?_
    rintro e w1 ⟨rfl, b1⟩
    go_wp2
    go_ret
    exact ⟨rfl, b1⟩
  · exact wireSkips_main s n at_ (n - s.size).toNat w (by omega) (by omega) (by omega) (by omega) (by omega)

end Go.Proofs.YtpbmclaglkcmoaaDoor
