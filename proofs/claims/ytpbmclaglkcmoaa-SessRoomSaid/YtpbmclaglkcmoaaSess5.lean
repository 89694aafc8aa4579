import Derived.Test.YtpbmclaglkcmoaaSess4
import Derived.Test.YtpbmclaglkcmoaaSessQ
namespace Go.Proofs.Ytpbmclaglkcmoaa
open Go.RowKit
set_option linter.unusedVariables false
set_option linter.unusedSimpArgs false

theorem set_same (l : List Wt) (g : Wt → Wt) (k : Nat) (hlt : k < l.length) (h : g l[k] = l[k]) : (l.take k).map g ++ l.drop k = (l.take (k + 1)).map g ++ l.drop (k + 1) := by
  rw [← outs_snoc g l k hlt, h]
  apply List.ext_getElem?
  intro j
  rw [List.getElem?_set]
  split
  · rename_i e
    subst e
    rw [List.getElem?_append_right (by simp; omega)]
    simp only [List.length_map, List.length_take, List.length_append, List.length_drop]
    rw [show k - min k l.length = 0 by omega, List.getElem?_drop, Nat.add_zero, List.getElem?_eq_getElem hlt, if_pos (by omega)]
  · rfl

set_option maxRecDepth 100000 in
set_option maxHeartbeats 1000000 in
theorem sessTick_calls (F : Nat → Prop) (S : Nat) (s : Se) (w : World) (h : SS F S s w) {N : Int} (hN : N ≤ 1000000) (hk : s.Ok N) :
    Calls Try.prog 18 #[.pointer (some ⟨S, 0, none⟩)] w fun r w' => ∃ v, r = .returned v ∧ w'.ownsRow 0 34 8 v s.tick.outF.length (frC s.tick.outF) ∧ (∀ k, v.ownBlock = some k → w.heap.size ≤ k) ∧ SS F S s.tick.outS w' ∧ KeptF F w w' := by
  have HL := Lib.hid h.low
  have HOk := Lib.hid hk
  have hlen := hk.len
  clear h hk
  obtain ⟨R, M, hFS, hFR, hFM, hS, hR, hM, n1, n2, n3, hb, hr, hm, c0, c1, c2, c3, c4, c5, c6, c7, c8⟩ := HL.out.cells
  have HR := Lib.hid hr
  clear hb hr hm c0 c1 c2 c3 c5 c6 c7 c8
  go_enter Try.func18, Try.ntmps18
  go_wp2_with fail
  refine (none_calls _ S s _ HL.out).mono ?_
  rintro e w1 ⟨rfl, rfl⟩
  go_wp2_with fail
  refine (ringList_calls _ R s.out _ HR.out hlen).mono ?_
  rintro e w1 ⟨v, rfl, hv, hvb, hb1⟩
  have HB1 := Lib.hid hb1
  have HS1 := Lib.hid (show SS (fun k => F k ∧ k < w.heap.size) S s w1 from HL.out.keep (fun k hk hlt => ⟨hb1.block k hlt, hk⟩))
  have HC1 := Lib.hid (show CopyOf w.heap.size v s.out w1 from ⟨hv, hvb⟩)
  obtain ⟨A, c, rfl⟩ := own_slice _ hv
  clear hb1 hv hvb c4
  go_wp2_with fail
  go_loopw [13] (fun s13 wr => ∃ (k : Nat), k ≤ s.out.length ∧ s13 = .int .i64 k ∧
      Hid (CopyOf w.heap.size (.slice A s.out.length c) s.out wr) ∧
      Hid (SS (fun k => F k ∧ k < w.heap.size) S { s with out := (s.out.take k).map Wt.tick ++ s.out.drop k } wr) ∧ Hid (KeptF (fun k => F k ∧ k < w.heap.size) w wr)) (fun s13 _ => s.out.length - (intOf s13).toNat)
  case atStart => exact ⟨0, Nat.zero_le _, rfl, HC1.out, HS1.out, KeptF.ofBelow HB1.out⟩
  case round =>
    obtain ⟨k, hk, rfl, HC, HS, HK⟩ := hrel
    by_cases hlt : k < s.out.length
    · obtain ⟨g, cg, hA, hg0, hg1, d0, d1, d2, d3⟩ := HC.out.at_ k hlt
      obtain ⟨xq, xd, xt, xa, hx⟩ : ∃ a b c d, s.out[k] = ⟨a, b, c, d⟩ := ⟨_, _, _, _, rfl⟩
      rw [hx] at d0 d1 d2 d3
      have hon := outs_snoc Wt.tick s.out k hlt
      rw [hx] at hon
      obtain ⟨ha1, ha2, _⟩ := HOk.out.age _ (List.getElem_mem hlt)
      rw [hx] at ha1 ha2
      simp only at ha1 ha2
      have HON := Lib.hid hon
      have HX := Lib.hid hx
      clear hon hx
      injection hA with hA1 hA2 hA3
      subst hA1
      subst hA3
      have hk0 : (0 : Int) ≤ (k : Int) := Int.natCast_nonneg _
      have hk1 : (k : Int) < (s.out.length : Int) := by omega
      have hk2 : (s.out.length : Int) ≤ 64 := by omega
      cases xt with
      | false =>
        go_wp2
        go_roundw
        case rel =>
          refine ⟨k + 1, by omega, by go_num, HC.out.keep (fun j _ hj _ => Below.heap_alloc _ _ _ hj), ?_, HK.out.alloc _⟩
          have e1 := set_same s.out Wt.tick k hlt (by rw [HX.out]; rfl)
          show Hid (SS _ S { s with out := (s.out.take (k + 1)).map Wt.tick ++ s.out.drop (k + 1) } _)
          rw [← e1]
          exact Lib.hid (HS.out.keep (fun j hj hlt => ⟨Below.heap_alloc _ _ _ hlt, hj⟩))
        case measure => simp [intOf]; omega
      | true =>
        obtain ⟨R', M', gFS, gFR, gFM, gS, gR, gM, m1, m2, m3, gb, gr, gm, -, -, -, -, -, -, -, -, -⟩ := HS.out.cells
        have GB := Lib.hid gb
        have GR := Lib.hid gr
        have GM := Lib.hid gm
        clear gb gr gm
        go_wp2_with fail
        obtain ⟨W, hW⟩ : ∃ W, W = wr.alloc (.cells #[.int .i64 xq, .string xd, .bool (decide (xa + 1 < 4)), .int .i64 (xa + 1)] 83) := ⟨_, rfl⟩
        rw [← hW]
        have oW : ∀ j, j < wr.heap.size → W.heap[j]? = wr.heap[j]? := fun j hj => by rw [hW]; exact Below.heap_alloc _ _ _ hj
        have zW : W.heap.size = wr.heap.size + 1 := by rw [hW]; simp
        have vW : W.heap[wr.heap.size]? = some (.cells #[.int .i64 xq, .string xd, .bool (decide (xa + 1 < 4)), .int .i64 (xa + 1)] 83 (0, 0)) := by
          rw [hW]
          exact heap_alloc_new _ _
        have kW : KeptF (fun k => F k ∧ k < w.heap.size) w W := by
          rw [hW]
          exact HK.out.alloc _
        obtain ⟨⟨p0, p1, p2, p3⟩, pf0, pf1, pf2, pf3⟩ := four_of vW
        have q4 : W.cell? ⟨S, 4, none⟩ = some (.pointer (some ⟨R', 0, none⟩)) := by rw [Lib.cell_of_heap ((oW S gS).trans GB.out)]; rfl
        have grW : Rg (RF (fun k => F k ∧ k < w.heap.size) S M' w.heap.size) R' ((s.out.take k).map Wt.tick ++ s.out.drop k) W := by
          refine GR.out.keep (fun j hj hlt => ⟨oW j hlt, ⟨hj.1, hj.2.1, hj.2.2.1, hj.1.2⟩⟩)
        have hwk : w.heap.size ≤ wr.heap.size := HK.out.size
        have OW := Lib.hid oW
        have VW := Lib.hid vW
        have KW := Lib.hid kW
        have GRW := Lib.hid grW
        clear hW oW vW kW grW
        have hSV : S ≠ wr.heap.size := by omega
        generalize hVe : wr.heap.size = V1 at *
        have HVE := Lib.hid hVe
        clear hVe
        go_region_held3 (fun w' => w'.cell? ⟨S, 4, none⟩ = some (.pointer (some ⟨R', 0, none⟩)) ∧ w'.cell? ⟨V1, 0, none⟩ = some (.int .i64 xq) ∧ w'.cell? ⟨V1, 1, none⟩ = some (.string xd) ∧ w'.cell? ⟨V1, 2, none⟩ = some (.bool (decide (xa + 1 < 4))) ∧ w'.cell? ⟨V1, 3, none⟩ = some (.int .i64 (xa + 1))) (go_keep)
          ((go_at_call 54; (refine (ringSet_calls (RF (fun k => F k ∧ k < w.heap.size) S M' w.heap.size) R' k ⟨xq, xd, decide (xa + 1 < 4), xa + 1⟩ ((s.out.take k).map Wt.tick ++ s.out.drop k) _ (by exact GRW.out) (by simp; omega) (by simp; omega)).mono ?_); rintro r w7 ⟨rfl, hr7, hk7⟩;
            have hS7 := (hk7.block S (by show S < W.heap.size; omega) (fun e => e.2.1 rfl)).trans ((OW.out S (by omega)).trans GB.out);
            have hV7 := (hk7.block V1 (by show V1 < W.heap.size; omega) (fun e => by have := e.1.2; omega)).trans VW.out;
            obtain ⟨⟨p0, p1, p2, p3⟩, pf0, pf1, pf2, pf3⟩ := four_of hV7;
            have q4 : w7.cell? ⟨S, 4, none⟩ = some (.pointer (some ⟨R', 0, none⟩)) := (by rw [Lib.cell_of_heap hS7]; rfl)))
        have e7 : ∀ j, j < V1 → w.heap.size ≤ j → w7.heap[j]? = wr.heap[j]? := fun j hj hj2 => (hk7.block j (by show j < W.heap.size; omega) (fun e => by have := e.1.2; omega)).trans (OW.out j hj)
        have hcopy7 : CopyOf w.heap.size (.slice (some ⟨g, 0, none⟩) s.out.length c) s.out w7 := by
          refine HC.out.keep (fun j h1 h2 e => ?_)
          have ej : j = g := by simpa [Value.ownBlock] using e.symm
          subst ej
          exact e7 j hg1 h1
        have hss7 : SS (fun k => F k ∧ k < w.heap.size) S { s with out := (s.out.take (k + 1)).map Wt.tick ++ s.out.drop (k + 1) } w7 := by
          refine ⟨R', M', gFS, hS7, ?_, ?_⟩
          · have e1 : ((s.out.take k).map Wt.tick ++ s.out.drop k).set k ⟨xq, xd, decide (xa + 1 < 4), xa + 1⟩ = (s.out.take (k + 1)).map Wt.tick ++ s.out.drop (k + 1) := HON.out
            show Rg _ R' ((s.out.take (k + 1)).map Wt.tick ++ s.out.drop (k + 1)) w7
            rw [← e1]
            exact hr7.keep (fun j hj _ => ⟨rfl, hj.1⟩)
          · refine GM.out.keep (fun j hj hlt => ⟨?_, by rw [hj]; exact gFM⟩)
            have hM2 := gFM.2
            rw [hj, hk7.block M' (by show M' < W.heap.size; omega) (fun e => e.2.2.1 rfl)]
            show W.heap[M']? = _
            exact OW.out M' (by omega)
        have hkk7 : KeptF (fun k => F k ∧ k < w.heap.size) w w7 := KW.out.trans ((KeptF.drew (KeptF.refl _ _)).trans (hk7.mono (fun j _ hj => .inl (.inl hj.1))))
        have R3 := Lib.hid hcopy7
        have R4 := Lib.hid hss7
        have R5 := Lib.hid hkk7
        clear hcopy7 hss7 hkk7 e7 hk7 hr7 hS7 hV7
        go_wp2
        go_roundw
        case rel => exact ⟨k + 1, by omega, by go_num, R3.out, R4.out, R5.out⟩
        case measure => simp [intOf]; omega
    · have hkn : k = s.out.length := by omega
      subst hkn
      have hss := HS.out
      rw [List.take_length, List.drop_length, List.append_nil] at hss
      have HSS := Lib.hid hss
      have hok := Lib.hid HOk.out.tick
      clear hss HS
      go_wp2_with fail
      refine (sessOut_calls (fun k => F k ∧ k < w.heap.size) S s.tick _ HSS.out hN hok.out).mono ?_
      rintro e w2 ⟨v2, rfl, h1, h2, h3, h4⟩
      have H1 := Lib.hid h1
      have H2 := Lib.hid h2
      have H3 := Lib.hid h3
      have H4 := Lib.hid h4
      clear h1 h2 h3 h4
      go_wp2
      go_ret
      refine ⟨v2, rfl, H1.out, fun j e => by have := H2.out j e; have := HK.out.size; omega, H3.out.keep (fun j hj _ => ⟨rfl, hj.1⟩), (HK.out.trans (H4.out.mono (fun j _ hj => .inl hj))).mono (fun j _ hj => hj.1)⟩

end Go.Proofs.Ytpbmclaglkcmoaa
