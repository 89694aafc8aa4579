import Derived.Test.YtpbmclaglkcmoaaDoorRefW
namespace Go.Proofs.YtpbmclaglkcmoaaDoor
open Go.RowKit
set_option linter.unusedVariables false
set_option linter.unusedSimpArgs false

theorem Wx.slice {F : Nat → Prop} {b : Nat} {bs : List UInt8} {err : Int} {w : World} (h : Wx F b bs err w) : ∃ A c, w.cell? ⟨b, 0, none⟩ = some (.slice A bs.length c) := by
  obtain ⟨h1, v', hb, ho, hF⟩ := h
  obtain ⟨A, c, e⟩ := own_slice w ho
  exact ⟨A, c, by rw [Lib.cell_of_heap hb, ← e]; rfl⟩

set_option maxHeartbeats 2000000 in
set_option maxRecDepth 100000 in
theorem xpad_calls (F : Nat → Prop) (b : Nat) (s : List UInt8 × Int) (n : Int) (w : World) (h : Wx F b s.1 s.2 w) :
    Calls Tryd.prog 30 #[.pointer (some ⟨b, 0, none⟩), .int .i64 n] w fun r w' => r = .returned (.tuple #[]) ∧ Wx (fun k => F k ∨ w.heap.size ≤ k) b (padW s n).1 (padW s n).2 w' ∧ KeptF F w w' := by
  obtain ⟨bs, err⟩ := s
  simp only at h
  by_cases he : err = 0
  · subst he
    have hz : (failErr 0 0 != 0) = false := rfl
    by_cases h1 : 60000 < n
    · have HN : Hid (padW (bs, 0) n = (bs, 1)) := by show _ = _; unfold padW padE; rw [if_pos h1]; rfl
      have HH := Lib.hid h
      clear h
      go_enter Tryd.func30, Tryd.ntmps30
      go_wp2_with fail
      refine (xfail_calls F b bs 0 0 _ HH.out).mono ?_
      rintro e w1 ⟨rfl, h1, k1⟩
      have H1 := Lib.hid h1
      have K1 := Lib.hid k1
      clear h1 k1
      rw [hz]
      go_wp2_with fail
      refine (xfail_calls F b bs 0 1 _ H1.out).mono ?_
      rintro e w2 ⟨rfl, h2, k2⟩
      go_wp2
      refine bodyPost_ret (results_none rfl _ _ _) rfl ?_
      rw [HN.out]
      exact ⟨rfl, h2.mono (fun k hk => .inl hk), K1.out.trans (k2.mono (fun k _ hk => .inl hk))⟩
    by_cases h2 : n < (bs.length : Int)
    · have HN : Hid (padW (bs, 0) n = (bs, 2)) := by
        show _ = _
        unfold padW padE
        simp only
        rw [if_neg h1, if_pos h2]
        rfl
      have HH := Lib.hid h
      clear h
      go_enter Tryd.func30, Tryd.ntmps30
      go_wp2_with fail
      refine (xfail_calls F b bs 0 0 _ HH.out).mono ?_
      rintro e w1 ⟨rfl, h1, k1⟩
      obtain ⟨A, c, c0⟩ := Wx.slice h1
      have H1 := Lib.hid h1
      have K1 := Lib.hid k1
      clear h1 k1
      rw [hz]
      go_wp2_with fail
      refine (xfail_calls F b bs 0 2 _ H1.out).mono ?_
      rintro e w2 ⟨rfl, h2, k2⟩
      go_wp2
      refine bodyPost_ret (results_none rfl _ _ _) rfl ?_
      rw [HN.out]
      exact ⟨rfl, h2.mono (fun k hk => .inl hk), K1.out.trans (k2.mono (fun k _ hk => .inl hk))⟩
    · obtain ⟨k, hk⟩ : ∃ k : Nat, n - (bs.length : Int) = (k : Int) := ⟨(n - bs.length).toNat, by omega⟩
      have HN : Hid (padW (bs, 0) n = (bs ++ List.replicate k 0, 0)) := by
        show _ = _
        unfold padW padE
        simp only
        rw [if_neg h1, if_neg h2, if_pos (show failErr 0 0 = 0 from rfl), show n.toNat - bs.length = k by omega]
      have HK := Lib.hid hk
      have HH := Lib.hid h
      clear h hk
      go_enter Tryd.func30, Tryd.ntmps30
      go_wp2_with fail
      refine (xfail_calls F b bs 0 0 _ HH.out).mono ?_
      rintro e w1 ⟨rfl, h1, k1⟩
      have H1 := Lib.hid h1
      have K1 := Lib.hid k1
      clear h1 k1
      rw [hz]
      obtain ⟨h3, cur, hb, ho, hFo⟩ := H1.out
      obtain ⟨A1, c1, rfl⟩ := own_slice w1 ho
      have c0 : w1.cell? ⟨b, 0, none⟩ = some (.slice A1 bs.length c1) := by rw [Lib.cell_of_heap hb]; rfl
      have f0 : w1.frozen? ⟨b, 0, none⟩ = false := Lib.frozen_of_heap hb 0
      have hk' : n - (bs.length : Int) = (k : Int) := HK.out
      obtain ⟨i0, hi, hz0, hz1, hz2⟩ := info_parts Tryd.info5w
      have HB := Lib.hid hb
      have HO : Hid (w1.drew.ownsRow 0 5 1 (.slice A1 bs.length c1) bs.length (Lib.byteCells bs)) := ho
      have HFO := Lib.hid hFo
      have HFO' := Lib.hid h3
      have hbb : bs.length + k ≤ 140737488355328 := by omega
      have d0 : w1.drew.cell? ⟨b, 0, none⟩ = some (.slice A1 bs.length c1) := c0
      have e0 : w1.drew.frozen? ⟨b, 0, none⟩ = false := f0
      clear hb ho hFo h3
      go_wp2_with fail
      have hwk : IntKind.i64.wrap (k : Int) = (k : Int) := by rw [IntKind.wrap_i64]; omega
      have HWK := Lib.hid hwk
      clear hwk
      go_region_law (refine step_append_own_zeros2 _ (by rfl) _ _ 24 3 9 (by rfl) 5 i0 Tryd.underlying24 Tryd.underlying3 Tryd.underlying9 hi hz0 hz1 hz2 _ bs.length (Lib.byteCells bs) (by rfl) HO.out k (IntKind.i64.wrap (k : Int)) (by rfl) HWK.out hbb ?_; intro v' w2 hown' hgrow hwh; obtain ⟨A2, c2, rfl⟩ := own_slice w2 hown'; have hb2 := Wx.grown_head HB.out HO.out hgrow; have d2 := Wx.head_cell hb2; have e2 := Wx.head_free hb2; clear d0 e0 c0 f0)
      all_goals
        have HB2 := Lib.hid hb2
        have HG := Lib.hid hgrow
        have HO2 := Lib.hid hown'
        have HWH := Lib.hid hwh
        clear hb2 hgrow hown' hwh hi hz0 hz1 hz2
        go_wp2
        go_end0
        rw [HN.out]
        refine ⟨rfl, ?_, ?_⟩
        · refine Wx.put (.inl HFO'.out) HB2.out ?_ ?_
          · have e := HO2.out
            rw [← zeroCells_bytes, ← Lib.byteCells_append] at e
            simp only [List.length_append, List.length_replicate] at e ⊢
            exact e
          · intro j ej
            rcases HWH.out j ej with hj | hj
            · exact .inl (HFO.out j hj)
            · exact .inr (by have := K1.out.size; have h2 : w1.heap.size ≤ j := hj; omega)
        · refine KeptF.setCell (K1.out.drew.grown HG.out (fun j ej => .inl (HFO.out j ej))) (.inl HFO'.out) _
  · have HN : Hid (padW (bs, err) n = (bs, err)) := padW_err bs err n he
    have hz : (failErr err 0 != 0) = true := by unfold failErr; rw [if_neg he]; exact bne_iff_ne.2 he
    have hfe : failErr err 0 = err := by unfold failErr; rw [if_neg he]
    have HZ := Lib.hid hz
    have HFE := Lib.hid hfe
    have HH := Lib.hid h
    clear h hz hfe he
    go_enter Tryd.func30, Tryd.ntmps30
    go_wp2_with fail
    refine (xfail_calls F b bs err 0 _ HH.out).mono ?_
    rintro e w1 ⟨rfl, h1, k1⟩
    have H1 := Lib.hid h1
    have K1 := Lib.hid k1
    clear h1 k1
    rw [HZ.out]
    go_wp2
    refine bodyPost_ret (results_none rfl _ _ _) rfl ?_
    rw [HN.out]
    have h1 := H1.out
    rw [HFE.out] at h1
    exact ⟨rfl, h1.mono (fun k hk => .inl hk), K1.out⟩

end Go.Proofs.YtpbmclaglkcmoaaDoor
