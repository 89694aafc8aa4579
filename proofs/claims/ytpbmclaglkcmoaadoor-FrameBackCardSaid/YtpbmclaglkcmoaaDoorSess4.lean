import Derived.Test.YtpbmclaglkcmoaaDoorSess3
namespace Go.Proofs.YtpbmclaglkcmoaaDoor
open Go.RowKit
set_option linter.unusedVariables false
set_option linter.unusedSimpArgs false

theorem sends_snoc (s : Se) (l : List Wt) (k : Nat) (h : k < l.length) : s.sends (l.take (k + 1)) = s.sends (l.take k) ++ (if l[k].sent then [] else [s.frameOf l[k]]) := by
  unfold Se.sends
  rw [List.take_succ_eq_append_getElem h, List.filter_append, List.map_append]
  congr 1
  cases hx : l[k].sent <;> simp [List.filter_cons, hx]

theorem outs_snoc (g : Wt → Wt) (l : List Wt) (k : Nat) (h : k < l.length) : ((l.take k).map g ++ l.drop k).set k (g l[k]) = (l.take (k + 1)).map g ++ l.drop (k + 1) := by
  rw [List.set_append_right _ _ (by simp; omega), List.take_succ_eq_append_getElem h, List.map_append, List.append_assoc]
  congr 1
  rw [List.length_map, List.length_take, show k - min k l.length = 0 by omega, List.drop_eq_getElem_cons h]
  rfl

theorem SS.out_eq {F : Nat → Prop} {S : Nat} {s t : Se} {w : World} (h : SS F S s w) (e : s = t) : SS F S t w := e ▸ h

theorem SrcV.fr {w : World} {b : Nat} (f : Fr) (h : w.heap[b]? = some (.cells #[.int .i64 f.fr, .int .i64 f.to, .int .i64 f.mine, .int .i64 f.yours, .int .i64 f.seq, .int .i64 f.ack, .string f.data, .bool f.has] 79 (0, 0))) :
    SrcV w 8 (.slice (some ⟨b, 0, none⟩) 1 1) 1 (frC [f]) := by
  refine ⟨rfl, .inr ⟨_, 1, rfl, ?_⟩⟩
  intro j u hu
  rw [Addr.add_mid, Nat.zero_add, Lib.cell_of_heap h]
  simpa [frC] using hu

theorem sends_le (s : Se) (l : List Wt) (k : Nat) : (s.sends (l.take k)).length ≤ k := by
  unfold Se.sends
  rw [List.length_map]
  have h1 := List.length_filter_le (fun x : Wt => !x.sent) (l.take k)
  have h2 := List.length_take_le k l
  omega

/-- The copy of what waits. -/
def CopyOf (w0 : Nat) (v : Value) (l : List Wt) (w : World) : Prop := w.ownsRow 0 130 4 v l.length (wtC l) ∧ ∀ k, v.ownBlock = some k → w0 ≤ k

theorem CopyOf.at_ {w0 : Nat} {v : Value} {l : List Wt} {w : World} (h : CopyOf w0 v l w) (j : Nat) (hj : j < l.length) : ∃ g c, v = .slice (some ⟨g, 0, none⟩) l.length c ∧ w0 ≤ g ∧ g < w.heap.size ∧
    w.cell? ⟨g, j * 4, none⟩ = some (.int .i64 l[j].seq) ∧ w.cell? ⟨g, j * 4 + 1, none⟩ = some (.string l[j].data) ∧ w.cell? ⟨g, j * 4 + 2, none⟩ = some (.bool l[j].sent) ∧ w.cell? ⟨g, j * 4 + 3, none⟩ = some (.int .i64 l[j].age) := by
  obtain ⟨ho, hb⟩ := h
  have ho' := ho
  obtain ⟨_, ⟨rfl, hn0⟩ | ⟨g, cap, cur, rfl, _, hh, hnc, hcm, hcs, _⟩⟩ := ho'
  · rw [hn0] at hj
    cases hj
  · obtain ⟨g0, g1, g2, g3⟩ := wtC_get l j hj
    have hc := ho.cells (g := g) rfl
    simp only [Addr.add_mid, Nat.zero_add] at hc
    exact ⟨g, cap, rfl, hb g rfl, lt_of_heap hh, hc _ _ g0, hc _ _ g1, hc _ _ g2, hc _ _ g3⟩

theorem CopyOf.keep {w0 : Nat} {v : Value} {l : List Wt} {w w' : World} (h : CopyOf w0 v l w) (hk : ∀ k, w0 ≤ k → k < w.heap.size → v.ownBlock = some k → w'.heap[k]? = w.heap[k]?) : CopyOf w0 v l w' :=
  ⟨ownsRow_keep h.1 (fun k e => hk k (h.2 k e) (h.1.lt k e).2 e), h.2⟩

set_option maxRecDepth 100000 in
set_option maxHeartbeats 1000000 in
theorem sessOut_calls (F : Nat → Prop) (S : Nat) (s : Se) (w : World) (h : SS F S s w) {N : Int} (hN : N ≤ 1000000) (hk : s.Ok N) :
    Calls Tryd.prog 77 #[.pointer (some ⟨S, 0, none⟩)] w fun r w' => ∃ v, r = .returned v ∧ w'.ownsRow 0 79 8 v s.outF.length (frC s.outF) ∧ (∀ k, v.ownBlock = some k → w.heap.size ≤ k) ∧ SS F S s.outS w' ∧ KeptF F w w' := by
  have HL := Lib.hid h.low
  have HOk := Lib.hid hk
  have hlen := hk.len
  clear h hk
  obtain ⟨R, M, hFS, hFR, hFM, hS, hR, hM, n1, n2, n3, hb, hr, hm, c0, c1, c2, c3, c4, c5, c6, c7, c8⟩ := HL.out.cells
  have HR := Lib.hid hr
  clear hb hr hm c0 c1 c2 c3 c5 c6 c7 c8
  go_enter Tryd.func77, Tryd.ntmps77
  go_wp2_with fail
  refine (none_calls _ S s _ HL.out).mono ?_
  rintro e w1 ⟨rfl, rfl⟩
  go_wp2_with fail
  refine (ringList_calls _ R s.out _ HR.out hlen).mono ?_
  rintro e w1 ⟨v, rfl, hv, hvb, hb1⟩
  have HB1 := Lib.hid hb1
  have HS1 := Lib.hid (show SS (fun k => F k ∧ k < w.heap.size) S s w1 from HL.out.keep (fun k hk hlt => ⟨hb1.block k hlt, hk⟩))
  have HC1 := Lib.hid (show CopyOf w.heap.size v s.out w1 from ⟨hv, hvb⟩)
  obtain ⟨A, c, rfl⟩ := own_slice _ hv
  clear hb1 hv hvb c4
  go_wp2_with fail
  obtain ⟨i0, hi, hz0, hz1, hz2⟩ := info_parts Tryd.info34w
  go_loopw [3, 15] (fun s3 s15 wr => ∃ (k : Nat) (q : Value), k ≤ s.out.length ∧ s15 = .int .i64 k ∧ s3 = q ∧
      Hid (wr.ownsRow 0 79 8 q (s.sends (s.out.take k)).length (frC (s.sends (s.out.take k))) ∧ ∀ j, q.ownBlock = some j → w.heap.size ≤ j) ∧
      Hid (CopyOf w.heap.size (.slice A s.out.length c) s.out wr) ∧
      Hid (SS (fun k => F k ∧ k < w.heap.size) S { s with out := (s.out.take k).map Wt.out ++ s.out.drop k } wr) ∧ Hid (KeptF (fun k => F k ∧ k < w.heap.size) w wr)) (fun _ s15 _ => s.out.length - (intOf s15).toNat)
  case atStart => exact ⟨0, _, Nat.zero_le _, rfl, rfl, ⟨World.ownsRow_nil _ _ _ _, by simp [Value.ownBlock]⟩, HC1.out, HS1.out, KeptF.ofBelow HB1.out⟩
  case round =>
    obtain ⟨k, q, hk, rfl, rfl, HO, HC, HS, HK⟩ := hrel
    by_cases hlt : k < s.out.length
    · obtain ⟨g, cg, hA, hg0, hg1, d0, d1, d2, d3⟩ := HC.out.at_ k hlt
      obtain ⟨xq, xd, xt, xa, hx⟩ : ∃ a b c d, s.out[k] = ⟨a, b, c, d⟩ := ⟨_, _, _, _, rfl⟩
      rw [hx] at d0 d1 d2 d3
      have hsn := sends_snoc s s.out k hlt
      have hon := outs_snoc Wt.out s.out k hlt
      rw [hx] at hsn hon
      have hage := HOk.out.age _ (List.getElem_mem hlt)
      rw [hx] at hage
      have HSN := Lib.hid hsn
      have HON := Lib.hid hon
      have HX := Lib.hid hx
      clear hsn hon hx
      injection hA with hA1 hA2 hA3
      subst hA1
      subst hA3
      have hk0 : (0 : Int) ≤ (k : Int) := Int.natCast_nonneg _
      have hk1 : (k : Int) < (s.out.length : Int) := by omega
      have hk2 : (s.out.length : Int) ≤ 64 := by omega
      cases xt with
      | true =>
        go_wp2
        go_roundw
        case rel =>
          refine ⟨k + 1, _, by omega, by go_num, rfl, ?_, HC.out.keep (fun j _ hj _ => Below.heap_alloc _ _ _ hj), ?_, HK.out.alloc _⟩
          · rw [HSN.out]
            simp only [if_true, List.append_nil]
            exact ⟨HO.out.1.alloc _, HO.out.2⟩
          · have e1 : (s.out.take k).map Wt.out ++ s.out.drop k = (s.out.take (k + 1)).map Wt.out ++ s.out.drop (k + 1) := by
              rw [← HON.out]
              have : Wt.out ⟨xq, xd, true, xa⟩ = s.out[k] := by rw [HX.out]; rfl
              rw [this]
              apply List.ext_getElem?
              intro j
              rw [List.getElem?_set]
              split
              · rename_i e
                subst e
                rw [List.getElem?_append_right (by simp; omega)]
                simp only [List.length_map, List.length_take, List.length_append, List.length_drop]
                rw [show k - min k s.out.length = 0 by omega, List.getElem?_drop, Nat.add_zero, List.getElem?_eq_getElem hlt, if_pos (by omega)]
              · rfl
            show Hid (SS _ S { s with out := (s.out.take (k + 1)).map Wt.out ++ s.out.drop (k + 1) } _)
            rw [← e1]
            exact Lib.hid (HS.out.keep (fun j hj hlt => ⟨Below.heap_alloc _ _ _ hlt, hj⟩))
        case measure => simp [intOf]; omega
      | false =>
        go_wp2_with fail
        refine (frame_calls (fun k => F k ∧ k < w.heap.size) S _ _ (HS.out.keep (fun j hj hlt => ⟨Below.heap_alloc _ _ _ hlt, hj⟩))).mono ?_
        rintro e w2 ⟨rfl, hb2⟩
        have hlt2 : wr.heap.size < w2.heap.size := by have := hb2.size; simp at this; omega
        have hV1 : w2.heap[wr.heap.size]? = some (.cells #[.int .i64 xq, .string xd, .bool false, .int .i64 xa] 130 (0, 0)) := (hb2.block _ (by simp)).trans (heap_alloc_new _ _)
        have ho2 : ∀ j, j < wr.heap.size → w2.heap[j]? = wr.heap[j]? := fun j hj => (hb2.block j (by simp; omega)).trans (Below.heap_alloc _ _ _ hj)
        have hk2 : KeptF (fun k => F k ∧ k < w.heap.size) w w2 := (HK.out.alloc _).trans (KeptF.ofBelow hb2)
        obtain ⟨⟨p0, p1, p2, p3⟩, pf0, pf1, pf2, pf3⟩ := four_of hV1
        have HV1 := Lib.hid hV1
        have HO2 := Lib.hid ho2
        have HK2 := Lib.hid hk2
        clear hV1 ho2 hk2 hb2
        have hu3 : ∀ j, u3.ownBlock = some j → w.heap.size ≤ j ∧ j < wr.heap.size := fun j e => ⟨HO.out.2 j e, (HO.out.1.lt j e).2⟩
        have hgu : u3.ownBlock ≠ some g := by
          obtain ⟨_, ⟨hn, _⟩ | ⟨g', cap', cur', hv', _, hh', _⟩⟩ := HC.out.1
          · cases hn
          · have e : g' = g := by injection hv' with e1; simpa using e1.symm
            subst e
            exact own_ne HO.out.1 hh' (by decide)
        have HU3 := Lib.hid hu3
        clear hu3
        generalize hV1e : wr.heap.size = V1 at *
        have HVE := Lib.hid hV1e
        clear hV1e
        go_wp2_with fail
        go_region_held3 (fun w' => w'.cell? ⟨V1, 0, none⟩ = some (.int .i64 xq) ∧ w'.cell? ⟨V1, 1, none⟩ = some (.string xd)) (go_keep) (fail)
        go_wp2_with (at_builtin; refine wpList_append_src _ rfl (.tmp 31) (.tmp 33) 113 rfl 79 i0 (.agg #[.int .i64 0, .int .i64 0, .int .i64 0, .int .i64 0, .int .i64 0, .int .i64 0, .string ⟨#[]⟩, .bool false]) 8 72 Tryd.underlying113 hi hz0 hz1 hz2 rfl (by decide) u3 (s.sends (s.out.take k)).length (frC (s.sends (s.out.take k))) rfl ?c0 (.slice (some ⟨w2.heap.size + 1, 0, none⟩) 1 1) 1 (frC [s.frameOf ⟨xq, xd, false, xa⟩]) rfl ?c1 (frC_one _) ?c2 ?c3 ?_)
        case c0 => exact ownsRow_keep HO.out.1 (fun j e => by have := (HU3.out j e).2; show ((w2.alloc _).alloc _).heap[j]? = _; rw [Below.heap_alloc _ _ _ (by simp; omega), Below.heap_alloc _ _ _ (by omega)]; exact HO2.out j this)
        case c1 => exact SrcV.fr (s.frameOf ⟨xq, xd, false, xa⟩) (heap_new_at _ _ _ (by simp))
        case c2 => unfold maxLen; have := sends_le s s.out k; omega
        case c3 => have := sends_le s s.out k; omega
        intro v' w5 ho5 hg5 hw5
        obtain ⟨A', c', rfl⟩ := own_slice _ ho5
        have hold : ∀ j, j < w2.heap.size → u3.ownBlock ≠ some j → w5.heap[j]? = w2.heap[j]? := fun j hj hn => (hg5.block j (by simp; omega) (fun e => hn e.symm)).trans ((Below.heap_alloc (w2.alloc _) _ _ (by simp; omega)).trans (Below.heap_alloc _ _ _ hj))
        have hsz5 : w2.heap.size < w5.heap.size := by have := hg5.size; simp at this; omega
        have hVV : w5.heap[V1]? = some (.cells #[.int .i64 xq, .string xd, .bool false, .int .i64 xa] 130 (0, 0)) := (hold V1 hlt2 (fun e => by have := (HU3.out V1 e).2; omega)).trans HV1.out
        obtain ⟨⟨p0, p1, p2, p3⟩, pf0, pf1, pf2, pf3⟩ := four_of hVV
        have HOLD := Lib.hid hold
        have HVV := Lib.hid hVV
        have HO5 := Lib.hid ho5
        have HG5 := Lib.hid hg5
        have HW5 := Lib.hid hw5
        clear hold hVV ho5 hg5 hw5
        obtain ⟨R', M', gFS, gFR, gFM, gS, gR, gM, m1, m2, m3, gb, gr, gm, -, -, -, -, -, -, -, -, -⟩ := HS.out.cells
        have e5 : ∀ j, j < V1 → u3.ownBlock ≠ some j → w5.heap[j]? = wr.heap[j]? := fun j hj hn => (HOLD.out j (by omega) hn).trans (HO2.out j hj)
        have gS' : S < V1 := by have := HVE.out; omega
        have hbS5 : w5.heap[S]? = some (.cells (SC R' M' { s with out := (s.out.take k).map Wt.out ++ s.out.drop k }) 133 (0, 0)) := (e5 S gS' (fun e => by have := (HU3.out S e).1; omega)).trans gb
        have GR := Lib.hid gr
        have GM := Lib.hid gm
        have E5 := Lib.hid e5
        have HB5 := Lib.hid hbS5
        clear gb gr gm e5 hbS5
        go_wp2_with fail
        obtain ⟨W, hW⟩ : ∃ W, W = (w5.setCell ⟨V1, 2, none⟩ (.bool true)).setCell ⟨V1, 3, none⟩ (.int .i64 0) := ⟨_, rfl⟩
        rw [← hW]
        have oW : ∀ j, j ≠ V1 → W.heap[j]? = w5.heap[j]? := fun j hj => by rw [hW, heap_setCell_other _ _ _ _ hj, heap_setCell_other _ _ _ _ hj]
        have zW : W.heap.size = w5.heap.size := by rw [hW]; simp
        have vW : W.heap[V1]? = some (.cells #[.int .i64 xq, .string xd, .bool true, .int .i64 0] 130 (0, 0)) := by
          rw [hW, heap_setCell_same _ _ _ _ _ _ (heap_setCell_same _ _ _ _ _ _ HVV.out)]
          rfl
        have kW : KeptF (fun k => F k ∧ k < w.heap.size) w W := by
          rw [hW]
          have hge : w.heap.size ≤ V1 := by have := HK.out.size; have := HVE.out; omega
          refine KeptF.setCell (KeptF.setCell (KeptF.grown (KeptF.drew (KeptF.alloc (KeptF.alloc HK2.out _) _)) HG5.out ?_) (.inr hge) _) (.inr hge) _
          intro j e
          exact .inr (HU3.out j e).1
        obtain ⟨⟨p0, p1, p2, p3⟩, pf0, pf1, pf2, pf3⟩ := four_of vW
        have q4 : W.cell? ⟨S, 4, none⟩ = some (.pointer (some ⟨R', 0, none⟩)) := by rw [Lib.cell_of_heap ((oW S (by omega)).trans HB5.out)]; rfl
        have OW := Lib.hid oW
        have VW := Lib.hid vW
        have KW := Lib.hid kW
        clear hW oW vW kW
        have grW : Rg (RF (fun k => F k ∧ k < w.heap.size) S M' w.heap.size) R' ((s.out.take k).map Wt.out ++ s.out.drop k) W := by
          refine GR.out.keep (fun j hj hlt => ⟨?_, ⟨hj.1, hj.2.1, hj.2.2.1, hj.1.2⟩⟩)
          have := HVE.out
          rw [OW.out j (by omega)]
          exact E5.out j (by omega) (fun e => by have := (HU3.out j e).1; have := hj.1.2; omega)
        have GRW := Lib.hid grW
        clear grW
        go_region_held3 (fun w' => w'.cell? ⟨S, 4, none⟩ = some (.pointer (some ⟨R', 0, none⟩)) ∧ w'.cell? ⟨V1, 0, none⟩ = some (.int .i64 xq) ∧ w'.cell? ⟨V1, 1, none⟩ = some (.string xd) ∧ w'.cell? ⟨V1, 2, none⟩ = some (.bool true) ∧ w'.cell? ⟨V1, 3, none⟩ = some (.int .i64 0)) (go_keep)
          ((go_at_call 99; (refine (ringSet_calls (RF (fun k => F k ∧ k < w.heap.size) S M' w.heap.size) R' k ⟨xq, xd, true, 0⟩ ((s.out.take k).map Wt.out ++ s.out.drop k) _ (by exact GRW.out) (by simp; omega) (by simp; omega)).mono ?_); rintro r w7 ⟨rfl, hr7, hk7⟩;
            have hS7 := (hk7.block S (by show S < W.heap.size; omega) (fun e => e.2.1 rfl)).trans ((OW.out S (by omega)).trans HB5.out);
            have hV7 := (hk7.block V1 (by show V1 < W.heap.size; omega) (fun e => by have := e.1.2; have := HK.out.size; have := HVE.out; omega)).trans VW.out;
            obtain ⟨⟨p0, p1, p2, p3⟩, pf0, pf1, pf2, pf3⟩ := four_of hV7;
            have q4 : w7.cell? ⟨S, 4, none⟩ = some (.pointer (some ⟨R', 0, none⟩)) := (by rw [Lib.cell_of_heap hS7]; rfl)))
        have e7 : ∀ j, j < w5.heap.size → w.heap.size ≤ j → j ≠ V1 → w7.heap[j]? = w5.heap[j]? := fun j hj hj2 hj3 => (hk7.block j (by show j < W.heap.size; omega) (fun e => by have := e.1.2; omega)).trans (OW.out j hj3)
        have hnu : (Value.slice A' ((s.sends (List.take k s.out)).length + 1) c').ownBlock ≠ some V1 := own_ne HO5.out HVV.out (by decide)
        have hrow7 : w7.ownsRow 0 79 8 (Value.slice A' ((s.sends (List.take k s.out)).length + 1) c') (s.sends (s.out.take (k + 1))).length (frC (s.sends (s.out.take (k + 1)))) := by
          rw [HSN.out]
          have h5 := HO5.out
          simp only [List.length_append, frC_append, Bool.false_eq_true, if_false]
          refine ownsRow_keep h5 (fun j e => ?_)
          refine e7 j (h5.lt j e).2 ?_ (fun e' => hnu (e' ▸ e))
          rcases HW5.out j e with e | e
          · exact (HU3.out j e).1
          · have := HK2.out.size
            omega
        have hrow8 : ∀ j, (Value.slice A' ((s.sends (List.take k s.out)).length + 1) c').ownBlock = some j → w.heap.size ≤ j := by
          intro j e
          rcases HW5.out j e with e | e
          · exact (HU3.out j e).1
          · have := HK2.out.size
            omega
        have hcopy7 : CopyOf w.heap.size (.slice (some ⟨g, 0, none⟩) s.out.length c) s.out w7 := by
          refine HC.out.keep (fun j h1 h2 e => ?_)
          have ej : j = g := by simpa [Value.ownBlock] using e.symm
          subst ej
          rw [e7 j (by omega) h1 (by omega)]
          exact E5.out j hg1 hgu
        have hss7 : SS (fun k => F k ∧ k < w.heap.size) S { s with out := (s.out.take (k + 1)).map Wt.out ++ s.out.drop (k + 1) } w7 := by
          refine ⟨R', M', gFS, hS7, ?_, ?_⟩
          · have e1 : ((s.out.take k).map Wt.out ++ s.out.drop k).set k ⟨xq, xd, true, 0⟩ = (s.out.take (k + 1)).map Wt.out ++ s.out.drop (k + 1) := HON.out
            show Rg _ R' ((s.out.take (k + 1)).map Wt.out ++ s.out.drop (k + 1)) w7
            rw [← e1]
            exact hr7.keep (fun j hj _ => ⟨rfl, hj.1⟩)
          · refine GM.out.keep (fun j hj hlt => ⟨?_, by rw [hj]; exact gFM⟩)
            have := HVE.out
            have hM2 := gFM.2
            rw [hj, hk7.block M' (by show M' < W.heap.size; omega) (fun e => e.2.2.1 rfl)]
            show W.heap[M']? = _
            rw [OW.out M' (by omega)]
            exact E5.out M' (by omega) (fun e => by have := (HU3.out M' e).1; omega)
        have hkk7 : KeptF (fun k => F k ∧ k < w.heap.size) w w7 := KW.out.trans ((KeptF.drew (KeptF.refl _ _)).trans (hk7.mono (fun j _ hj => .inl (.inl hj.1))))
        have R1 := Lib.hid hrow7
        have R2 := Lib.hid hrow8
        have R3 := Lib.hid hcopy7
        have R4 := Lib.hid hss7
        have R5 := Lib.hid hkk7
        clear hrow7 hrow8 hcopy7 hss7 hkk7 e7 hk7 hr7 hS7 hV7
        go_wp2
        go_roundw
        case rel => exact ⟨k + 1, _, by omega, by go_num, rfl, ⟨R1.out, R2.out⟩, R3.out, R4.out, R5.out⟩
        case measure => simp [intOf]; omega
    · have hkn : k = s.out.length := by omega
      subst hkn
      have hss := HS.out
      rw [List.take_length, List.drop_length, List.append_nil] at hss
      have hrow := HO.out
      rw [List.take_length] at hrow
      obtain ⟨R', M', gFS, gFR, gFM, gS, gR, gM, m1, m2, m3, gb, gr, gm, q0, q1, q2, q3, q4, q5, q6, q7, q8⟩ := hss.cells
      have f8 := Lib.frozen_of_heap gb 8
      have GR := Lib.hid gr
      have GM := Lib.hid gm
      have GB := Lib.hid gb
      have HSS := Lib.hid hss
      have HRO := Lib.hid hrow
      clear gb gr gm hss hrow HS HO q0 q1 q2 q3 q4 q5 q6 q7
      have hql : u3 = .slice none 0 0 ∨ True := .inr trivial
      obtain ⟨A3, c3, rfl⟩ := own_slice _ HRO.out.1
      have hfin : ∀ (w7 : World) (v : Value), w7.ownsRow 0 79 8 v s.outF.length (frC s.outF) → (∀ j, v.ownBlock = some j → w.heap.size ≤ j) → w7.heap[S]? = some (.cells (SC R' M' s.outS) 133 (0, 0)) → (∀ j, F j → j < w.heap.size → j ≠ S → w7.heap[j]? = wr.heap[j]?) → KeptF (fun k => F k ∧ k < w.heap.size) w w7 →
          ∃ v', Ending.returned v = Ending.returned v' ∧ w7.ownsRow 0 79 8 v' s.outF.length (frC s.outF) ∧ (∀ j, v'.ownBlock = some j → w.heap.size ≤ j) ∧ SS F S s.outS w7 ∧ KeptF F w w7 := by
        intro w7 v a1 a2 a3 a4 a5
        refine ⟨v, rfl, a1, a2, ⟨R', M', gFS.1, a3, ?_, ?_⟩, a5.mono (fun k _ hk => hk.1)⟩
        · exact GR.out.keep (fun j hj _ => ⟨a4 j hj.1.1 hj.1.2 hj.2.1, hj.1.1⟩)
        · refine GM.out.keep (fun j hj _ => ?_)
          rw [hj]
          exact ⟨a4 M' gFM.1 gFM.2 m2, gFM.1⟩
      have HFIN := Lib.hid hfin
      clear hfin hql
      cases how : s.owed with
      | false =>
        have hoF : s.outF = s.sends s.out := by unfold Se.outF; rw [if_neg (by simp [how])]
        have HOF := Lib.hid hoF
        have HOW := Lib.hid how
        rw [show ({ s with out := List.map Wt.out s.out } : Se).owed = s.owed from rfl, how] at q8
        clear hoF how
        go_wp2
        go_ret
        refine HFIN.out _ _ ?_ HRO.out.2 ?_ ?_ ?_
        · rw [HOF.out]
          exact ownsRow_keep HRO.out.1 (fun j e => heap_setCell_other _ _ _ _ (by have := HRO.out.2 j e; show j ≠ S; omega))
        · rw [heap_setCell_same _ _ _ _ _ _ GB.out]
          rfl
        · exact fun j _ _ hj => heap_setCell_other _ _ _ _ hj
        · exact HK.out.setCell (.inl ⟨gFS.1, hS⟩) _
      | true =>
        have HOW := Lib.hid how
        rw [show ({ s with out := List.map Wt.out s.out } : Se).owed = s.owed from rfl, how] at q8
        clear how
        by_cases hnil : s.sends s.out = []
        · have hoF : s.outF = [s.frame] := by unfold Se.outF; rw [if_pos ⟨HOW.out, hnil⟩]
          have hrow := HRO.out
          rw [hnil] at hrow
          have HROW := Lib.hid hrow
          clear hrow
          have HOF := Lib.hid hoF
          have hlz : ((s.sends s.out).length : Int) = 0 := by rw [hnil]; rfl
          have hlz2 : (s.sends s.out).length = 0 := by rw [hnil]; rfl
          clear hoF hnil
          generalize (s.sends s.out).length = n at *
          subst hlz2
          go_wp2_with fail
          refine (frame_calls (fun k => F k ∧ k < w.heap.size) S _ _ HSS.out).mono ?_
          rintro e w2 ⟨rfl, hb2⟩
          have HB2 := Lib.hid hb2
          clear hb2
          go_wp2_with (at_builtin; refine wpList_append_src _ rfl (.tmp 54) (.tmp 57) 113 rfl 79 i0 (.agg #[.int .i64 0, .int .i64 0, .int .i64 0, .int .i64 0, .int .i64 0, .int .i64 0, .string ⟨#[]⟩, .bool false]) 8 72 Tryd.underlying113 hi hz0 hz1 hz2 rfl (by decide) (.slice A3 0 c3) 0 (frC []) rfl ?c0 (.slice (some ⟨w2.heap.size, 0, none⟩) 1 1) 1 (frC [s.frame]) rfl ?c1 (frC_one _) ?c2 ?c3 ?_)
          case c0 => exact (ownsRow_keep HROW.out.1 (fun j e => HB2.out.block j (HROW.out.1.lt j e).2)).alloc _
          case c1 => exact SrcV.fr s.frame (heap_alloc_new _ _)
          case c2 => unfold maxLen; omega
          case c3 => omega
          intro v' w5 ho5 hg5 hw5
          obtain ⟨A', c', rfl⟩ := own_slice _ ho5
          have hz5 : w2.heap.size < w5.heap.size := by have := hg5.size; simp at this; omega
          have hz2 := HB2.out.size
          have e5 : ∀ j, j < wr.heap.size → (Value.slice A3 0 c3).ownBlock ≠ some j → w5.heap[j]? = wr.heap[j]? := fun j hj hn => (hg5.block j (by simp; omega) (fun e => hn e.symm)).trans ((Below.heap_alloc _ _ _ (by omega)).trans (HB2.out.block j hj))
          have hSn : (Value.slice A3 0 c3).ownBlock ≠ some S := fun e => by have := HROW.out.2 S e; omega
          have hS5 := (e5 S gS hSn).trans GB.out
          have q8' : w5.cell? ⟨S, 8, none⟩ = some (.bool true) := by rw [Lib.cell_of_heap hS5]; show some (Value.bool s.owed) = _; rw [HOW.out]
          have f8' := Lib.frozen_of_heap hS5 8
          have hwk : w.heap.size ≤ wr.heap.size := HK.out.size
          have HO5 := Lib.hid ho5
          have HG5 := Lib.hid hg5
          have HW5 := Lib.hid hw5
          have E5 := Lib.hid e5
          have HS5 := Lib.hid hS5
          clear ho5 hg5 hw5 e5 hS5
          go_wp2
          go_ret
          have hge : ∀ j, (Value.slice A' (0 + 1) c').ownBlock = some j → w.heap.size ≤ j := by
            intro j e
            rcases HW5.out j e with e | e
            · exact HROW.out.2 j e
            · omega
          refine HFIN.out _ _ ?_ hge ?_ ?_ ?_
          · rw [HOF.out]
            exact ownsRow_keep HO5.out (fun j e => heap_setCell_other _ _ _ _ (by have := hge j e; show j ≠ S; omega))
          · rw [heap_setCell_same _ _ _ _ _ _ HS5.out]
            rfl
          · intro j hF hlt hj
            rw [heap_setCell_other _ _ _ _ hj]
            exact E5.out j (by omega) (fun e => by have := HROW.out.2 j e; omega)
          · refine KeptF.setCell (KeptF.grown (KeptF.alloc (HK.out.trans (KeptF.ofBelow HB2.out)) _) HG5.out ?_) (.inl ⟨gFS.1, hS⟩) _
            intro j e
            exact .inr (HROW.out.2 j e)
        · have hoF : s.outF = s.sends s.out := by unfold Se.outF; rw [if_neg (fun h => hnil h.2)]
          have HOF := Lib.hid hoF
          have hne : (((s.sends s.out).length : Int) == 0) = false := by
            rw [beq_eq_false_iff_ne]
            intro e
            exact hnil (List.eq_nil_of_length_eq_zero (by omega))
          have hne2 : decide ((s.sends s.out).length = 0) = false := by
            rw [decide_eq_false_iff_not]
            intro e
            exact hnil (List.eq_nil_of_length_eq_zero e)
          clear hoF hnil
          generalize hnn : (s.sends s.out).length = n at *
          have HNN := Lib.hid hnn
          clear hnn
          go_wp2
          go_ret
          refine HFIN.out _ _ ?_ HRO.out.2 ?_ ?_ ?_
          · rw [HOF.out, HNN.out]
            exact ownsRow_keep HRO.out.1 (fun j e => heap_setCell_other _ _ _ _ (by have := HRO.out.2 j e; show j ≠ S; omega))
          · rw [heap_setCell_same _ _ _ _ _ _ GB.out]
            rfl
          · exact fun j _ _ hj => heap_setCell_other _ _ _ _ hj
          · exact HK.out.setCell (.inl ⟨gFS.1, hS⟩) _

end Go.Proofs.YtpbmclaglkcmoaaDoor
