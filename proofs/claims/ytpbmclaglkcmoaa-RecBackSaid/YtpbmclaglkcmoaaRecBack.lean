import Derived.Test.YtpbmclaglkcmoaaBook
import Derived.Test.YtpbmclaglkcmoaaSumChanged
import Derived.Test.YtpbmclaglkcmoaaRowOpen
namespace Go.Proofs.Ytpbmclaglkcmoaa
open Go.RowKit
set_option linter.unusedVariables false
set_option linter.unusedSimpArgs false

theorem recOk_wf {e l : Int} {im : List Img} (he : (Lit.int .u64 e).wf = true) (hl : (Lit.int .u64 l).wf = true) (hw : ∀ x ∈ im, ImgWf x) : RecOk e l im := by
  have h1 := Go.bounds_u64 he
  have h2 := Go.bounds_u64 hl
  refine ⟨h1.1, by omega, h2.1, by omega, fun x hx => ?_⟩
  have h3 := Go.bounds_u64 (hw x hx).2.1
  exact ⟨h3.1, by omega⟩

set_option maxHeartbeats 8000000 in
set_option maxRecDepth 100000 in
theorem recBack_calls (e l : Int) (A : Option Addr) (c : Nat) (im : List Img) (more : ByteArray) (at_ by_ : Int) (w : World) (he : (Lit.int .u64 e).wf = true) (hl : (Lit.int .u64 l).wf = true) (hc : im.length ≤ c) (hm : c ≤ maxLen) (hI : Imgs w A im) (hw : ∀ x ∈ im, ImgWf x) (hmo : more.size ≤ 140737488351232) (hat : (Lit.int .i64 at_).wf = true) (hby : (Lit.int .i64 by_).wf = true) :
    Calls Try.prog 11 #[.agg #[.int .u64 e, .int .u64 l, .slice A im.length c], .string more, .int .i64 at_, .int .i64 by_] w fun r w' => r = .returned (.bool true) ∧ Below w.heap.size w w' := by
  have hok := recOk_wf he hl hw
  obtain ⟨E, rfl⟩ := Int.eq_ofNat_of_zero_le hok.1
  obtain ⟨L, rfl⟩ := Int.eq_ofNat_of_zero_le hok.2.2.1
  have hmx : c ≤ 9223372036854775807 := by simpa only [maxLen] using hm
  have hat0 := Go.bounds_i64 hat
  have hby0 := Go.bounds_i64 hby
  have HOK := Lib.hid hok
  have HLI := Lib.hid (fun W (h : Imgs W A im) => light_calls 70 8000 A c im W h hc (by omega) (fun x hx => by have := (hw x hx).2.2; simpa only [maxLen] using this) (by omega) (by omega) (by omega))
  have HI := Lib.hid hI
  clear he hl hok hI hw hat hby hm
  go_enter Try.func11, Try.ntmps11
  go_wp2_with fail
  refine (HLI.out _ (HI.out.below (al (Below.refl _ _) _))).mono ?_
  rintro r w1 ⟨b, hlp, rfl, hb1⟩
  have HB1 := Lib.hid ((al (Below.refl _ w) _).trans (hb1.mono (by simp)))
  have g1 := (hb1.block w.heap.size (by simp)).trans (heap_alloc_new w _)
  cases b with
  | false =>
    clear hlp hb1 g1
    go_wp2_with fail
    refine (recAlive_calls _).mono ?_
    rintro r w2 ⟨rfl, hb⟩
    go_wp2
    go_ret
    exact ⟨rfl, bl HB1.out hb⟩
  | true =>
    obtain ⟨hl70, hd8⟩ := hlp rfl
    by_cases hmm : 300 < more.size
    · clear hlp hb1 g1 hl70 hd8
      have hmm' : (300 : Int) < (more.size : Int) := by omega
      go_wp2_with fail
      refine (recAlive_calls _).mono ?_
      rintro r w2 ⟨rfl, hb⟩
      go_wp2
      go_ret
      exact ⟨rfl, bl HB1.out hb⟩
    have hmm' : (more.size : Int) ≤ 300 := by omega
    by_cases ha : at_ < 0
    · clear hlp hb1 g1 hl70 hd8
      go_wp2_with fail
      refine (recAlive_calls _).mono ?_
      rintro r w2 ⟨rfl, hb⟩
      go_wp2
      go_ret
      exact ⟨rfl, bl HB1.out hb⟩
    have hl70' : im.length ≤ 70 := by omega
    have HI1 := Lib.hid ((HI.out.below (al (Below.refl _ w) (.cells #[.int .u64 E, .int .u64 L, .slice A im.length c] 64))).below hb1)
    have hlt1 := lt_of_heap g1
    have c0 : w1.cell? ⟨w.heap.size, 0, none⟩ = some (.int .u64 E) := by rw [Lib.cell_of_heap g1]; rfl
    have c1 : w1.cell? ⟨w.heap.size, 1, none⟩ = some (.int .u64 L) := by rw [Lib.cell_of_heap g1]; rfl
    have c2 : w1.cell? ⟨w.heap.size, 2, none⟩ = some (.slice A im.length c) := by rw [Lib.cell_of_heap g1]; rfl
    have G1 := Lib.hid g1
    have HP := Lib.hid (put_any E L A c im w1 HI1.out (by omega) hc HOK.out)
    clear hlp hb1 g1 hl70 hd8
    go_wp2_with fail
    refine HP.out.mono ?_
    rintro r w2 ⟨q, cc, rfl, hb2, hcc, hv, hnv⟩
    clear c0 c1 c2 HP HLI
    by_cases hV : ValidR E L im
    case neg =>
      have hq : q = { data := #[] } := hnv hV
      have hc0 : cc ≠ 0 := fun h => hV (hcc.1 h)
      have hc1 : (cc != 0) = true := bne_iff_ne.2 hc0
      subst hq
      have HB2 := Lib.hid (bl HB1.out hb2)
      clear hcc hv hnv hV hc0 hb2
      go_wp2_with fail
      refine (recAlive_calls _).mono ?_
      rintro r w3 ⟨rfl, hb⟩
      go_wp2
      go_ret
      exact ⟨rfl, bl HB2.out hb⟩
    have hc0 := hcc.2 hV
    have hq := hv hV
    subst hc0 hq
    have HV := Lib.hid hV
    clear hcc hv hnv hV
    have g2 := (hb2.block w.heap.size (lt_of_heap G1.out)).trans G1.out
    have HB2 := Lib.hid (bl HB1.out hb2)
    have HI2 := Lib.hid (HI1.out.below hb2)
    have hn60 : im.length ≤ 60 := HV.out.2.2.2.2
    have hn1 : 1 ≤ im.length := Nat.one_le_iff_ne_zero.2 HV.out.2.2.1
    have hlen := recL_length E L im
    have hsec := secN_s im.length hn1 hn60
    have hSp := sN_pos im.length hn1
    have hSl := sN_le im.length hn60
    obtain ⟨S, hS⟩ : ∃ S, S = sN im.length := ⟨_, rfl⟩
    have hcat : bstr (recL E L im) ++ more = bstr (recL E L im ++ more.data.toList) := bapp (recL E L im) more
    have HG := Lib.hid (fun W => get_put E L im more.data.toList W HV.out HOK.out (by rw [toList_length]; omega))
    rw [← hS] at hlen hsec hSp hSl HG
    have hsz : (bstr (recL E L im)).size = 64 * S := hlen
    have hcut : (bstr (recL E L im)).extract 0 (64 * S - 1) = bstr ((recL E L im).take ((recL E L im).length - 1)) := by
      rw [hlen]
      exact bstr_eq _ _ (ext_take _ _)
    have HCUT : Hid (∀ W, Calls Try.prog 42 #[.string (bstr ((recL E L im).take ((recL E L im).length - 1)))] W fun r w' => ∃ (R : GetR) (A : Option Addr) (c : Nat), R.err = 5 ∧ r = .returned (.tuple #[.agg #[.int .u64 R.e, .int .u64 R.l, .slice A R.im.length c], .int .i64 R.n, .int .i64 R.err]) ∧ Below W.heap.size W w') := by
      intro W
      refine (get_calls _ W (by rw [bstr_size, List.length_take, hlen]; omega)).mono ?_
      rintro r w' ⟨R, A', c', hR, hr, _, _, hb⟩
      refine ⟨R, A', c', ?_, hr, hb⟩
      rw [hR, bstr_toList]
      exact getL_cut E L im HV.out HOK.out
    obtain ⟨la, hla⟩ : ∃ la, la = recL E L im := ⟨_, rfl⟩
    have hlal : la.length = 64 * S := by rw [hla]; exact hlen
    obtain ⟨ia, hia⟩ := Int.eq_ofNat_of_zero_le (show 0 ≤ at_ % (la.length : Int) from Int.emod_nonneg _ (by omega))
    have hia2 : ia < la.length := by have := Int.emod_lt_of_pos at_ (show 0 < (la.length : Int) by omega); omega
    have HCH : Hid (∀ W, Calls Try.prog 42 #[.string (bstr (la.set ia (chg la[ia] by_)))] W fun r w' => ∃ (R : GetR) (A : Option Addr) (c : Nat), (by_ % 256 ≠ 0 → R.err = 0 → ¬ (R.e = E ∧ R.l = L ∧ R.im = im)) ∧ r = .returned (.tuple #[.agg #[.int .u64 R.e, .int .u64 R.l, .slice A R.im.length c], .int .i64 R.n, .int .i64 R.err]) ∧ R.im.length ≤ c ∧ R.im.length ≤ 9223372036854775807 ∧ Imgs w' A R.im ∧ Below W.heap.size W w') := by
      intro W
      refine (get_calls _ W (by rw [bstr_size, List.length_set, hlal]; omega)).mono ?_
      rintro r w' ⟨R, A', c', hR, hr, hc', hI', hb⟩
      refine ⟨R, A', c', ?_, hr, hc', ?_, hI', hb⟩
      · intro hb1 herr ⟨h1, h2, h3⟩
        rw [bstr_toList] at hR
        have hg := getL_ok (la.set ia (chg la[ia] by_)) (by rw [← hR]; exact herr)
        rw [← hR] at hg
        obtain ⟨_, h5, h6, _⟩ := hg
        rw [h1, h2, h3, ← hla, h6, h3, ← hS, List.take_of_length_le (by rw [List.length_set]; omega)] at h5
        have h7 := congrArg (fun l => l[ia]?) h5
        simp only [List.getElem?_set_self hia2, List.getElem?_eq_getElem hia2, Option.some.injEq] at h7
        exact chg_ne _ _ hb1 h7.symm
      · rw [hR]
        unfold getL
        split
        · exact Nat.zero_le _
        · split
          · exact Nat.zero_le _
          · split
            · exact Nat.zero_le _
            · split
              · simp only [imgsL_length]
                have := firstL_ok (bstr (la.set ia (chg la[ia] by_))).data.toList (by rename_i h _ _ _; exact Classical.not_not.1 h)
                omega
              · exact Nat.zero_le _
    have HC := Lib.hid (chg_val la[ia] by_)
    have HSEC := Lib.hid hsec
    rw [← hla] at hcat HG hsz hcut HCUT ⊢
    have HLAL := Lib.hid hlal
    have HSAME := Lib.hid (fun W (A1 : Option Addr) (c1 : Nat) (h1 : Imgs W A1 im) (h2 : Imgs W A im) (h3 : im.length ≤ c1) => same_calls A1 A c1 c im im W h1 h2 h3 hc (by omega) (by omega))
    have c0 : w2.cell? ⟨w.heap.size, 0, none⟩ = some (.int .u64 E) := by rw [Lib.cell_of_heap g2]; rfl
    have c1 : w2.cell? ⟨w.heap.size, 1, none⟩ = some (.int .u64 L) := by rw [Lib.cell_of_heap g2]; rfl
    have c2 : w2.cell? ⟨w.heap.size, 2, none⟩ = some (.slice A im.length c) := by rw [Lib.cell_of_heap g2]; rfl
    have G2 := Lib.hid g2
    clear hb2 g2 hla hsec hlen hlal c0 c1 c2 G1 HI1 hS
    generalize bstr (la ++ more.data.toList) = s2 at hcat HG
    generalize bstr (la.take (la.length - 1)) = s3 at hcut HCUT
    go_wp2_with fail
    refine (HG.out _).mono ?_
    rintro r w3 ⟨A1, k1, rfl, hk1, hI1, hb3⟩
    have gr3 := (hb3.block w.heap.size (lt_of_heap G2.out)).trans G2.out
    have d0 : w3.cell? ⟨w.heap.size, 0, none⟩ = some (.int .u64 E) := by rw [Lib.cell_of_heap gr3]; rfl
    have d1 : w3.cell? ⟨w.heap.size, 1, none⟩ = some (.int .u64 L) := by rw [Lib.cell_of_heap gr3]; rfl
    have d2 : w3.cell? ⟨w.heap.size, 2, none⟩ = some (.slice A im.length c) := by rw [Lib.cell_of_heap gr3]; rfl
    clear gr3
    have gx := heap_alloc_new w3 (.cells #[.int .u64 E, .int .u64 L, .slice A1 im.length k1] 64)
    have g3 := (Below.heap_alloc w3 (.cells #[.int .u64 E, .int .u64 L, .slice A1 im.length k1] 64) _ (Nat.lt_of_lt_of_le (lt_of_heap G2.out) hb3.size)).trans ((hb3.block w.heap.size (lt_of_heap G2.out)).trans G2.out)
    have HB3 := Lib.hid (al (bl HB2.out hb3) (.cells #[.int .u64 E, .int .u64 L, .slice A1 im.length k1] 64))
    have HI3 := Lib.hid ((HI2.out.below hb3).below (al (Below.refl _ _) (.cells #[.int .u64 E, .int .u64 L, .slice A1 im.length k1] 64)))
    have HJ3 := Lib.hid (hI1.below (al (Below.refl _ _) (.cells #[.int .u64 E, .int .u64 L, .slice A1 im.length k1] 64)))
    have hwX : w.heap.size < w3.heap.size := Nat.lt_of_lt_of_le (lt_of_heap G2.out) hb3.size
    go_wp2_with fail
    obtain ⟨X, hX⟩ : ∃ X, X = w3.heap.size := ⟨_, rfl⟩
    rw [← hX] at gx hwX ⊢
    generalize w3.alloc (.cells #[.int .u64 E, .int .u64 L, .slice A1 im.length k1] 64) = W4 at gx g3 HB3 HI3 HJ3 ⊢
    clear d0 d1 d2 hX hb3 hI1
    refine (sectors_calls _ _ (by omega) (by omega)).mono ?_
    rintro r w4 ⟨rfl, rfl⟩
    rw [HSEC.out]
    have hXlt := lt_of_heap gx
    have hwlt := lt_of_heap g3
    have x0 : W4.cell? ⟨X, 0, none⟩ = some (.int .u64 E) := by rw [Lib.cell_of_heap gx]; rfl
    have x1 : W4.cell? ⟨X, 1, none⟩ = some (.int .u64 L) := by rw [Lib.cell_of_heap gx]; rfl
    have x2 : W4.cell? ⟨X, 2, none⟩ = some (.slice A1 im.length k1) := by rw [Lib.cell_of_heap gx]; rfl
    have d0 : W4.cell? ⟨w.heap.size, 0, none⟩ = some (.int .u64 E) := by rw [Lib.cell_of_heap g3]; rfl
    have d1 : W4.cell? ⟨w.heap.size, 1, none⟩ = some (.int .u64 L) := by rw [Lib.cell_of_heap g3]; rfl
    have d2 : W4.cell? ⟨w.heap.size, 2, none⟩ = some (.slice A im.length c) := by rw [Lib.cell_of_heap g3]; rfl
    have G3 := Lib.hid g3
    clear gx g3
    go_wp2_with fail
    refine (HSAME.out _ A1 k1 HJ3.out HI3.out hk1).mono ?_
    rintro r w5 ⟨b, hb, rfl, hb5⟩
    have hbt : b = true := hb.2 rfl
    subst hbt
    have HB5 := Lib.hid (bl HB3.out hb5)
    have HI5 := Lib.hid (HI3.out.below hb5)
    have G5 := Lib.hid ((hb5.block w.heap.size (lt_of_heap G3.out)).trans G3.out)
    clear hb hb5 x0 x1 x2 d0 d1 d2 G3 HI3 HJ3 HB3
    go_wp2_with fail
    refine (HCUT.out _).mono ?_
    rintro r w6 ⟨R5, A5, k5, he5, rfl, hb6⟩
    rw [he5]
    clear HCUT hcut
    obtain ⟨W7, cap1, hc1, ba1, bl1, sz1⟩ := conv_here (w6.alloc (.cells #[.int .u64 R5.e, .int .u64 R5.l, .slice A5 R5.im.length k5] 64)) la
    have hb6' := al hb6 (.cells #[.int .u64 R5.e, .int .u64 R5.l, .slice A5 R5.im.length k5] 64)
    have HB7 := Lib.hid (bl (bl HB5.out hb6') bl1)
    have HI7 := Lib.hid ((HI5.out.below hb6').below bl1)
    have BA1 := Lib.hid ba1
    have hYw : w.heap.size < (w6.alloc (.cells #[.int .u64 R5.e, .int .u64 R5.l, .slice A5 R5.im.length k5] 64)).heap.size := Nat.lt_of_lt_of_le (lt_of_heap G5.out) hb6'.size
    have G7 := Lib.hid ((bl1.block w.heap.size hYw).trans ((hb6'.block w.heap.size (lt_of_heap G5.out)).trans G5.out))
    obtain ⟨Y, hY⟩ : ∃ Y, Y = (w6.alloc (.cells #[.int .u64 R5.e, .int .u64 R5.l, .slice A5 R5.im.length k5] 64)).heap.size := ⟨_, rfl⟩
    rw [← hY] at hc1 BA1 hYw
    obtain ⟨cb, fb⟩ := BA1.out.2 ia hia2
    have y1 : BArr Y (la.set ia (chg la[ia] by_)) (W7.setCell ⟨Y, ia, none⟩ (.int .u8 (Go.bits .xor .u8 (la[ia].toNat : Int) (by_ % 256)))) := by
      rw [HC.out]
      exact BA1.out.set ia hia2 _
    have z1 := y1.back (P := Try.prog) 58 9 5 cap1 Try.underlying58 Try.underlying5 Try.underlying9
    rw [List.length_set] at z1
    change _ = Result.ok (Value.string (bstr _)) _ at z1
    clear y1 ba1 bl1 sz1 hY hb6 hb6' he5 HB5 HI5 G5
    go_wp2_with fail
    refine (HCH.out _).mono ?_
    rintro r w8 ⟨R8, A8, k8, hR8, rfl, hk8, hm8, hI8, hb8⟩
    clear z1 HCH cb fb
    have HB8 := Lib.hid (bl (HB7.out.setCell (p := ⟨Y, ia, none⟩) (Nat.le_of_lt hYw) (.int .u8 (Go.bits .xor .u8 (la[ia].toNat : Int) (by_ % 256)))) hb8)
    have hs7 : W7.heap.size ≤ w8.heap.size := by have := hb8.size; simpa [World.setCell] using this
    have HI8 := Lib.hid ((HI7.out.set ⟨Y, ia, none⟩ (.int .u8 (Go.bits .xor .u8 (la[ia].toNat : Int) (by_ % 256))) (fun ad h => by
      intro hY2
      cases im with
      | nil => simp at hn1
      | cons x xs =>
        obtain ⟨bb, oo, hA, hcell, _⟩ := HI.out 0 (by simp)
        have hlt := World.block_lt_of_cell? _ _ hcell
        rw [hA] at h
        cases h
        simp only at hY2 hlt
        omega)).below hb8)
    have G8 := Lib.hid ((hb8.block w.heap.size (by have := lt_of_heap G7.out; simpa [World.setCell] using this)).trans ((Below.heap_setCell W7 ⟨Y, ia, none⟩ _ w.heap.size (by show w.heap.size ≠ Y; omega)).trans G7.out))
    have hw8 := lt_of_heap G8.out
    have gz := heap_alloc_new w8 (.cells #[.int .u64 R8.e, .int .u64 R8.l, .slice A8 R8.im.length k8] 64)
    have hall : Below w8.heap.size w8 (w8.alloc (.cells #[.int .u64 R8.e, .int .u64 R8.l, .slice A8 R8.im.length k8] 64)) := al (Below.refl _ _) _
    have HB9 := Lib.hid (bl HB8.out hall)
    have HI9 := Lib.hid (HI8.out.below hall)
    have HJ9 := Lib.hid (hI8.below hall)
    have G9 := Lib.hid ((hall.block w.heap.size hw8).trans G8.out)
    go_wp2_with fail
    obtain ⟨Z, hZ⟩ : ∃ Z, Z = w8.heap.size := ⟨_, rfl⟩
    rw [← hZ] at gz hw8 ⊢
    generalize w8.alloc (.cells #[.int .u64 R8.e, .int .u64 R8.l, .slice A8 R8.im.length k8] 64) = W9 at gz HB9 HI9 HJ9 G9 ⊢
    clear hb8 hI8 hall hZ HB8 HI8 G8 HI7 G7 HB7 BA1 hs7
    refine (recAlive_calls _).mono ?_
    rintro r w10 ⟨rfl, hb10⟩
    have g10 := (hb10.block w.heap.size (lt_of_heap G9.out)).trans G9.out
    have gz10 := (hb10.block Z (lt_of_heap gz)).trans gz
    have HB10 := Lib.hid (bl HB9.out hb10)
    have HI10 := Lib.hid (HI9.out.below hb10)
    have HJ10 := Lib.hid (HJ9.out.below hb10)
    have x0 : w10.cell? ⟨Z, 0, none⟩ = some (.int .u64 R8.e) := by rw [Lib.cell_of_heap gz10]; rfl
    have x1 : w10.cell? ⟨Z, 1, none⟩ = some (.int .u64 R8.l) := by rw [Lib.cell_of_heap gz10]; rfl
    have x2 : w10.cell? ⟨Z, 2, none⟩ = some (.slice A8 R8.im.length k8) := by rw [Lib.cell_of_heap gz10]; rfl
    have d0 : w10.cell? ⟨w.heap.size, 0, none⟩ = some (.int .u64 E) := by rw [Lib.cell_of_heap g10]; rfl
    have d1 : w10.cell? ⟨w.heap.size, 1, none⟩ = some (.int .u64 L) := by rw [Lib.cell_of_heap g10]; rfl
    have d2 : w10.cell? ⟨w.heap.size, 2, none⟩ = some (.slice A im.length c) := by rw [Lib.cell_of_heap g10]; rfl
    have HSAME8 := Lib.hid (same_calls A8 A k8 c R8.im im w10 HJ10.out HI10.out hk8 hc (by omega) (by omega))
    clear hb10 g10 gz10 gz HB9 HI9 HJ9 G9 HI10 HJ10
    by_cases q0 : by_ % 256 = 0
    · have b0 : (by_ % 256 == 0) = true := beq_iff_eq.2 q0
      clear hR8 q0
      go_wp2
      go_ret
      exact ⟨rfl, HB10.out⟩
    have b0 : (by_ % 256 == 0) = false := beq_eq_false_iff_ne.2 q0
    by_cases q1 : R8.err = 0
    case neg =>
      have b1 : (R8.err == 0) = false := beq_eq_false_iff_ne.2 q1
      have b1' : (R8.err != 0) = true := bne_iff_ne.2 q1
      clear hR8 q0 q1
      go_wp2
      go_ret
      exact ⟨rfl, HB10.out⟩
    by_cases q2 : R8.e = E
    case neg =>
      have b2 : ((R8.e : Int) == (E : Int)) = false := beq_eq_false_iff_ne.2 (by omega)
      have b2' : ((R8.e : Int) != (E : Int)) = true := bne_iff_ne.2 (by omega)
      clear hR8 q0 q2
      go_wp2
      go_ret
      exact ⟨rfl, HB10.out⟩
    by_cases q3 : R8.l = L
    case neg =>
      have b2 : ((R8.l : Int) == (L : Int)) = false := beq_eq_false_iff_ne.2 (by omega)
      have b2' : ((R8.l : Int) != (L : Int)) = true := bne_iff_ne.2 (by omega)
      clear hR8 q0 q3
      go_wp2
      go_ret
      exact ⟨rfl, HB10.out⟩
    have HNE : Hid (R8.im ≠ im) := fun h => hR8 q0 q1 ⟨q2, q3, h⟩
    clear hR8 q0
    go_wp2_with fail
    refine HSAME8.out.mono ?_
    rintro r w11 ⟨b, hb, rfl, hb11⟩
    have hbf : b = false := by
      cases b with
      | false => rfl
      | true => exact absurd (hb.1 rfl) HNE.out
    subst hbf
    go_wp2
    go_ret
    exact ⟨rfl, bl HB10.out hb11⟩

end Go.Proofs.Ytpbmclaglkcmoaa
