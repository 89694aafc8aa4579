import Derived.Test.YtpbmclaglkcmoaaDoorSess4
import Derived.Test.YtpbmclaglkcmoaaDoorSessQ
namespace Go.Proofs.YtpbmclaglkcmoaaDoor
open Go.RowKit
set_option linter.unusedVariables false
set_option linter.unusedSimpArgs false

theorem number_snoc (l : List Wt) (k : Nat) (h : k < l.length) : ((number 0 l).take k ++ l.drop k).set k ⟨(k : Int) + 1, l[k].data, false, l[k].age⟩ = (number 0 l).take (k + 1) ++ l.drop (k + 1) := by
  have hl := number_length l 0
  rw [List.set_append_right _ _ (by rw [List.length_take]; omega), List.take_succ_eq_append_getElem (by omega), List.append_assoc]
  congr 1
  rw [List.length_take, show k - min k (number 0 l).length = 0 by omega, List.drop_eq_getElem_cons h]
  have h1 := number_get l 0 k h
  rw [List.getElem?_eq_getElem (by omega), Option.some.injEq] at h1
  rw [h1, List.set_cons_zero]
  simp

/-- The world behind greater's assignments. -/
def midW (w1 : World) (S : Nat) (life : Int) : World := ((((w1.setCell ⟨S, 3, none⟩ (.int .i64 life)).setCell ⟨S, 6, none⟩ (.int .i64 0)).setCell ⟨S, 7, none⟩ (.map (some w1.heap.size))).setCell ⟨S, 5, none⟩ (.int .i64 0)).alloc (.map #[] 0)

theorem midW_block (w1 : World) (S : Nat) (life : Int) : ∀ j, j < w1.heap.size → j ≠ S → (midW w1 S life).heap[j]? = w1.heap[j]? := by
  intro j hj hn
  unfold midW
  rw [Below.heap_alloc _ _ _ (by simpa using hj), heap_setCell_other _ _ _ _ hn, heap_setCell_other _ _ _ _ hn, heap_setCell_other _ _ _ _ hn, heap_setCell_other _ _ _ _ hn]

theorem midW_size (w1 : World) (S : Nat) (life : Int) : (midW w1 S life).heap.size = w1.heap.size + 1 := by
  unfold midW
  simp

theorem midW_S {w1 : World} {S R M : Nat} {s : Se} (o : List Wt) (life : Int) (hb : w1.heap[S]? = some (.cells (SC R M s) 133 (0, 0))) :
    (midW w1 S life).heap[S]? = some (.cells (SC R w1.heap.size { s with yours := life, heard := 0, ahead := noAhead, out := o, last := 0 }) 133 (0, 0)) := by
  unfold midW
  rw [Below.heap_alloc _ _ _ (by have := lt_of_heap hb; simpa using this)]
  rw [heap_setCell_same _ _ _ _ _ _ (heap_setCell_same _ _ _ _ _ _ (heap_setCell_same _ _ _ _ _ _ (heap_setCell_same _ _ _ _ _ _ hb)))]
  rfl

theorem midW_kept {F : Nat → Prop} {w w1 : World} {S : Nat} (life : Int) (h : KeptF F w w1) (hF : F S) : KeptF F w (midW w1 S life) :=
  ((((h.setCell (.inl hF) _).setCell (.inl hF) _).setCell (.inl hF) _).setCell (.inl hF) _).alloc _

/-- A session behind greater's assignments. -/
theorem midW_SS {F G : Nat → Prop} {w1 : World} {S R M : Nat} {s : Se} {o : List Wt} (life : Int) (hb : w1.heap[S]? = some (.cells (SC R M s) 133 (0, 0))) (hG : G S) (hr : Rg F R o w1) (hF : ∀ k, F k → k < w1.heap.size → k ≠ S ∧ G k) (hM : G w1.heap.size) :
    SS G S { s with yours := life, heard := 0, ahead := noAhead, out := o, last := 0 } (midW w1 S life) := by
  refine ⟨R, w1.heap.size, hG, midW_S o life hb, hr.keep (fun k hk hlt => ⟨midW_block _ _ _ k hlt (hF k hk hlt).1, (hF k hk hlt).2⟩), ?_⟩
  have := Mp.fresh ((((w1.setCell ⟨S, 3, none⟩ (.int .i64 life)).setCell ⟨S, 6, none⟩ (.int .i64 0)).setCell ⟨S, 7, none⟩ (.map (some w1.heap.size))).setCell ⟨S, 5, none⟩ (.int .i64 0)) G (by simpa using hM)
  show Mp G w1.heap.size noAhead (midW w1 S life)
  unfold midW
  simpa only [World.size_setCell] using this

theorem greater_eq (s : Se) (life : Int) (o : List Wt) (h : o = if 0 < s.yours then [] else s.out) : s.greater life = { s with yours := life, heard := 0, ahead := noAhead, out := number 0 o, last := (o.length : Int) } := by
  subst h
  rfl

set_option maxRecDepth 100000 in
set_option maxHeartbeats 300000 in
theorem greater_calls (F : Nat → Prop) (S : Nat) (s : Se) (life : Int) (w : World) (h : SS F S s w) {N : Int} (hN : N ≤ 1000000) (hk : s.Ok N) :
    Calls Tryd.prog 100 #[.pointer (some ⟨S, 0, none⟩), .int .i64 life] w fun r w' => r = .returned (.tuple #[]) ∧ SS (fun j => F j ∨ w.heap.size ≤ j) S (s.greater life) w' ∧ KeptF F w w' := by
  have hmm := @run_makeMap Tryd.prog
  have HL := Lib.hid h.low
  have HOk := Lib.hid hk
  have hlen := hk.len
  clear h hk
  obtain ⟨R, M, hFS, hFR, hFM, hS, hR, hM, n1, n2, n3, hb, hr, hm, c0, c1, c2, c3, c4, c5, c6, c7, c8⟩ := HL.out.cells
  have f3 := Lib.frozen_of_heap hb 3
  have f5 := Lib.frozen_of_heap hb 5
  have f6 := Lib.frozen_of_heap hb 6
  have f7 := Lib.frozen_of_heap hb 7
  have HB := Lib.hid hb
  have HR := Lib.hid hr
  have HM := Lib.hid hm
  clear hb hr hm
  by_cases hy : 0 < s.yours
  go_enter Tryd.func100, Tryd.ntmps100
  go_wp2_with fail
  refine (ringClear_calls _ R s.out _ HR.out hlen).mono ?_
  rintro e w1 ⟨⟨n, rfl⟩, hr1, hk1⟩
  have hS1 := (hk1.block S hS (fun e => e.2.1 rfl)).trans HB.out
  obtain ⟨⟨p0, p1, p2, p3, p4, p5, p6, p7, p8⟩, pf⟩ := nine_of hS1
  have pf3 := pf 3
  have pf5 := pf 5
  have pf6 := pf 6
  have pf7 := pf 7
  clear pf
  have hz1 : w.heap.size ≤ w1.heap.size := hk1.size
  have hSl : S < w1.heap.size := by omega
  have HR1 := Lib.hid hr1
  have HS1 := Lib.hid hS1
  have HK1 := Lib.hid hk1
  clear hr1 hS1 hk1 c0 c1 c2 c3 c4 c5 c6 c7 c8 f3 f5 f6 f7 p0 p1 p2 p8
  go_wp2_with fail
  have hol : ([] : List Wt).length ≤ 64 := Nat.zero_le _
  have ho := greater_eq s life ([] : List Wt) (by rw [if_pos hy])
  have hage : ∀ x ∈ ([] : List Wt), 0 ≤ x.age ∧ x.age ≤ 4 := by simp
  generalize ([] : List Wt) = o at *
  have hSW : SS (fun j => (F j ∨ w.heap.size ≤ j) ∧ j < (midW w1 S life).heap.size) S { s with yours := life, heard := 0, ahead := noAhead, out := o, last := 0 } (midW w1 S life) := by
    have hz := midW_size w1 S life
    refine midW_SS life HS1.out ⟨.inl hFS.1, by omega⟩ HR1.out ?_ ⟨.inr hz1, by omega⟩
    intro k hk hlt
    rcases hk with hk | hk
    · exact ⟨hk.2.1, .inl hk.1.1, by omega⟩
    · exact ⟨by omega, .inr hk, by omega⟩
  have hkW : KeptF F w (midW w1 S life) := midW_kept life (HK1.out.mono (fun j _ hj => hj.1.1)) hFS.1
  obtain ⟨W, hW⟩ : ∃ W, W = midW w1 S life := ⟨_, rfl⟩
  have hzW : w.heap.size ≤ W.heap.size := by rw [hW]; exact hkW.size
  rw [← hW] at hSW hkW
  unfold midW at hW
  rw [← hW]
  obtain ⟨R2, M2, gFS, gFR, gFM, gS, gR, gM, m1, m2, m3, gb, gr, gm, -, -, -, -, -, -, -, -, -⟩ := hSW.cells
  have hSb := midW_S o life HS1.out
  have hRR : R2 = R := by
    have e := gb
    rw [hW] at e
    have := e.symm.trans hSb
    simp [SC] at this
    exact this.1
  subst hRR
  have GR := Lib.hid gr
  have HSW := Lib.hid hSW
  have HKW := Lib.hid hkW
  have HO := Lib.hid ho
  have HA := Lib.hid hage
  clear hW hSW hkW gb gr gm hSb ho hage HR1 HS1 HK1 HL HB HR HM hz1 hSl p3 p4 p5 p6 p7 pf3 pf5 pf6 pf7 gFS gFR gFM gS gR gM m1 m2 m3 n1 n3 hFR hR
  rotate_left
  go_enter Tryd.func100, Tryd.ntmps100
  have hz1 : w.heap.size ≤ w.heap.size := Nat.le_refl _
  have hSl : S < w.heap.size := hS
  have HR1 := Lib.hid (show Rg (fun j => RF (fun k => F k ∧ k < w.heap.size) S M w.heap.size j ∨ w.heap.size ≤ j) R s.out w from HR.out.keep (fun k hk _ => ⟨rfl, .inl hk⟩))
  have HS1 := Lib.hid HB.out
  have HK1 := Lib.hid (KeptF.refl (RF (fun k => F k ∧ k < w.heap.size) S M w.heap.size) w)
  go_wp2_with fail
  have hol : s.out.length ≤ 64 := hlen
  have ho := greater_eq s life s.out (by rw [if_neg (by omega)])
  have hage : ∀ x ∈ s.out, 0 ≤ x.age ∧ x.age ≤ 4 := fun x hx => ⟨(HOk.out.age x hx).1, (HOk.out.age x hx).2.1⟩
  generalize hoe : s.out = o at *
  have HOE := Lib.hid hoe
  clear hoe
  have hSW : SS (fun j => (F j ∨ w.heap.size ≤ j) ∧ j < (midW w S life).heap.size) S { s with yours := life, heard := 0, ahead := noAhead, out := o, last := 0 } (midW w S life) := by
    have hz := midW_size w S life
    refine midW_SS life HS1.out ⟨.inl hFS.1, by omega⟩ HR1.out ?_ ⟨.inr hz1, by omega⟩
    intro k hk hlt
    rcases hk with hk | hk
    · exact ⟨hk.2.1, .inl hk.1.1, by omega⟩
    · exact ⟨by omega, .inr hk, by omega⟩
  have hkW : KeptF F w (midW w S life) := midW_kept life (HK1.out.mono (fun j _ hj => hj.1.1)) hFS.1
  obtain ⟨W, hW⟩ : ∃ W, W = midW w S life := ⟨_, rfl⟩
  have hzW : w.heap.size ≤ W.heap.size := by rw [hW]; exact hkW.size
  rw [← hW] at hSW hkW
  unfold midW at hW
  rw [← hW]
  obtain ⟨R2, M2, gFS, gFR, gFM, gS, gR, gM, m1, m2, m3, gb, gr, gm, -, -, -, -, -, -, -, -, -⟩ := hSW.cells
  have hSb := midW_S o life HS1.out
  have hRR : R2 = R := by
    have e := gb
    rw [hW] at e
    have := e.symm.trans hSb
    simp [SC] at this
    exact this.1
  subst hRR
  have GR := Lib.hid gr
  have HSW := Lib.hid hSW
  have HKW := Lib.hid hkW
  have HO := Lib.hid ho
  have HA := Lib.hid hage
  clear hW hSW hkW gb gr gm hSb ho hage HR1 HS1 HK1 HL HB HR HM hz1 hSl c0 c1 c2 c3 c4 c5 c6 c7 c8 f3 f5 f6 f7 gFS gFR gFM gS gR gM m1 m2 m3 n1 n3 hFR hR
  all_goals
    refine (ringList_calls _ R2 o _ GR.out hol).mono ?_
    rintro e w2 ⟨v, rfl, hv, hvb, hb2⟩
    have HB2 := Lib.hid hb2
    have HS2 := Lib.hid (show SS (fun j => (F j ∨ w.heap.size ≤ j) ∧ j < W.heap.size) S { s with yours := life, heard := 0, ahead := noAhead, out := o, last := 0 } w2 from HSW.out.keep (fun k hk hlt => ⟨hb2.block k hlt, hk⟩))
    have HC2 := Lib.hid (show CopyOf W.heap.size v o w2 from ⟨hv, hvb⟩)
    obtain ⟨A, c, rfl⟩ := own_slice _ hv
    clear hb2 hv hvb
    go_wp2_with fail
    go_loopw [36] (fun s36 wr => ∃ (k : Nat), k ≤ o.length ∧ s36 = .int .i64 k ∧
        Hid (CopyOf W.heap.size (.slice A o.length c) o wr) ∧
        Hid (SS (fun j => (F j ∨ w.heap.size ≤ j) ∧ j < W.heap.size) S { s with yours := life, heard := 0, ahead := noAhead, out := (number 0 o).take k ++ o.drop k, last := (k : Int) } wr) ∧ Hid (KeptF (fun j => (F j ∨ w.heap.size ≤ j) ∧ j < W.heap.size) W wr)) (fun s36 _ => o.length - (intOf s36).toNat)
    case atStart => exact ⟨0, Nat.zero_le _, rfl, HC2.out, HS2.out, KeptF.ofBelow HB2.out⟩
    case round =>
      obtain ⟨k, hk, rfl, HC, HS, HK⟩ := hrel
      by_cases hlt : k < o.length
      · obtain ⟨g, cg, hA, hg0, hg1, d0, d1, d2, d3⟩ := HC.out.at_ k hlt
        obtain ⟨xq, xd, xt, xa, hx⟩ : ∃ a b c d, o[k] = ⟨a, b, c, d⟩ := ⟨_, _, _, _, rfl⟩
        rw [hx] at d0 d1 d2 d3
        have hon := number_snoc o k hlt
        rw [hx] at hon
        obtain ⟨ha1, ha2⟩ := HA.out _ (List.getElem_mem hlt)
        rw [hx] at ha1 ha2
        simp only at ha1 ha2
        have HON := Lib.hid hon
        clear hon hx
        injection hA with hA1 hA2 hA3
        subst hA1
        subst hA3
        have hk0 : (0 : Int) ≤ (k : Int) := Int.natCast_nonneg _
        have hk1 : (k : Int) < (o.length : Int) := by omega
        have hk2 : (o.length : Int) ≤ 64 := by omega
        obtain ⟨R', M', gFS, gFR, gFM, gS, gR, gM, m1, m2, m3, gb, gr, gm, q0, q1, q2, q3, q4, q5, q6, q7, q8⟩ := HS.out.cells
        simp only at q5
        have f5 := Lib.frozen_of_heap gb 5
        have GB := Lib.hid gb
        have GR' := Lib.hid gr
        have GM := Lib.hid gm
        clear gb gr gm q0 q1 q2 q3 q6 q7 q8
        go_wp2_with fail
        obtain ⟨V, hV⟩ : ∃ V, V = (wr.setCell ⟨S, 5, none⟩ (.int .i64 ((k : Int) + 1))).alloc (.cells #[.int .i64 ((k : Int) + 1), .string xd, .bool false, .int .i64 xa] 130) := ⟨_, rfl⟩
        rw [← hV]
        have oV : ∀ j, j < wr.heap.size → j ≠ S → V.heap[j]? = wr.heap[j]? := fun j hj hn => by rw [hV, Below.heap_alloc _ _ _ (by simpa using hj), heap_setCell_other _ _ _ _ hn]
        have zV : V.heap.size = wr.heap.size + 1 := by rw [hV]; simp
        have vV : V.heap[wr.heap.size]? = some (.cells #[.int .i64 ((k : Int) + 1), .string xd, .bool false, .int .i64 xa] 130 (0, 0)) := by
          rw [hV]
          exact heap_new_at _ _ _ (by simp)
        have sV : V.heap[S]? = some (.cells (SC R' M' { s with yours := life, heard := 0, ahead := noAhead, out := (number 0 o).take k ++ o.drop k, last := (k : Int) + 1 }) 133 (0, 0)) := by
          rw [hV, Below.heap_alloc _ _ _ (by simpa using gS), heap_setCell_same _ _ _ _ _ _ GB.out]
          rfl
        have kV : KeptF (fun j => (F j ∨ w.heap.size ≤ j) ∧ j < W.heap.size) W V := by
          rw [hV]
          exact (HK.out.setCell (.inl gFS) _).alloc _
        obtain ⟨⟨p0, p1, p2, p3⟩, pf0, pf1, pf2, pf3⟩ := four_of vV
        have q4 : V.cell? ⟨S, 4, none⟩ = some (.pointer (some ⟨R', 0, none⟩)) := by rw [Lib.cell_of_heap sV]; rfl
        have grV : Rg (RF (fun j => (F j ∨ w.heap.size ≤ j) ∧ j < W.heap.size) S M' W.heap.size) R' ((number 0 o).take k ++ o.drop k) V :=
          GR'.out.keep (fun j hj hlt => ⟨oV j hlt hj.2.1, ⟨hj.1, hj.2.1, hj.2.2.1, hj.1.2⟩⟩)
        have hwk : W.heap.size ≤ wr.heap.size := HK.out.size
        have OV := Lib.hid oV
        have VV := Lib.hid vV
        have SV := Lib.hid sV
        have KV := Lib.hid kV
        have GRV := Lib.hid grV
        clear hV oV vV sV kV grV q5 f5
        have hSV : S ≠ wr.heap.size := by omega
        generalize hVe : wr.heap.size = V1 at *
        have HVE := Lib.hid hVe
        clear hVe
        go_region_held3 (fun w' => w'.cell? ⟨S, 4, none⟩ = some (.pointer (some ⟨R', 0, none⟩)) ∧ w'.cell? ⟨V1, 0, none⟩ = some (.int .i64 ((k : Int) + 1)) ∧ w'.cell? ⟨V1, 1, none⟩ = some (.string xd) ∧ w'.cell? ⟨V1, 2, none⟩ = some (.bool false) ∧ w'.cell? ⟨V1, 3, none⟩ = some (.int .i64 xa)) (go_keep)
          ((go_at_call 99; (refine (ringSet_calls (RF (fun j => (F j ∨ w.heap.size ≤ j) ∧ j < W.heap.size) S M' W.heap.size) R' k ⟨(k : Int) + 1, xd, false, xa⟩ ((number 0 o).take k ++ o.drop k) _ (by exact GRV.out) (by have := number_length o 0; simp; omega) (by have := number_length o 0; simp; omega)).mono ?_); rintro r w7 ⟨rfl, hr7, hk7⟩;
            have hS7 := (hk7.block S (by show S < V.heap.size; omega) (fun e => e.2.1 rfl)).trans SV.out;
            have hV7 := (hk7.block V1 (by show V1 < V.heap.size; omega) (fun e => by have := e.1.2; omega)).trans VV.out;
            obtain ⟨⟨p0, p1, p2, p3⟩, pf0, pf1, pf2, pf3⟩ := four_of hV7;
            have q4 : w7.cell? ⟨S, 4, none⟩ = some (.pointer (some ⟨R', 0, none⟩)) := (by rw [Lib.cell_of_heap hS7]; rfl)))
        have e7 : ∀ j, j < V1 → W.heap.size ≤ j → w7.heap[j]? = wr.heap[j]? := fun j hj hj2 => (hk7.block j (by show j < V.heap.size; omega) (fun e => by have := e.1.2; omega)).trans (OV.out j hj (by omega))
        have hcopy7 : CopyOf W.heap.size (.slice (some ⟨g, 0, none⟩) o.length c) o w7 := by
          refine HC.out.keep (fun j h1 h2 e => ?_)
          have ej : j = g := by simpa [Value.ownBlock] using e.symm
          subst ej
          exact e7 j hg1 h1
        have hss7 : SS (fun j => (F j ∨ w.heap.size ≤ j) ∧ j < W.heap.size) S { s with yours := life, heard := 0, ahead := noAhead, out := (number 0 o).take (k + 1) ++ o.drop (k + 1), last := ((k + 1 : Nat) : Int) } w7 := by
          refine ⟨R', M', gFS, hS7, ?_, ?_⟩
          · show Rg _ R' ((number 0 o).take (k + 1) ++ o.drop (k + 1)) w7
            rw [← HON.out]
            exact hr7.keep (fun j hj _ => ⟨rfl, hj.1⟩)
          · refine GM.out.keep (fun j hj hlt => ⟨?_, by rw [hj]; exact gFM⟩)
            have hM2 := gFM.2
            rw [hj, hk7.block M' (by show M' < V.heap.size; omega) (fun e => e.2.2.1 rfl)]
            show V.heap[M']? = _
            exact OV.out M' (by omega) m2
        have hkk7 : KeptF (fun j => (F j ∨ w.heap.size ≤ j) ∧ j < W.heap.size) W w7 := KV.out.trans ((KeptF.drew (KeptF.refl _ _)).trans (hk7.mono (fun j _ hj => .inl (.inl hj.1))))
        have R3 := Lib.hid hcopy7
        have R4 := Lib.hid hss7
        have R5 := Lib.hid hkk7
        clear hcopy7 hss7 hkk7 e7 hk7 hr7 hS7 hV7
        go_wp2
        go_roundw
        case rel => exact ⟨k + 1, by omega, by go_num, R3.out, R4.out, R5.out⟩
        case measure => simp [intOf]; omega
      · have hkn : k = o.length := by omega
        subst hkn
        go_wp2
        go_end0
        have e1 : (number 0 o).take o.length ++ o.drop o.length = number 0 o := by
          rw [List.drop_length, List.append_nil]
          exact List.take_of_length_le (by rw [number_length]; exact Nat.le_refl _)
        have hss := HS.out
        rw [e1] at hss
        refine ⟨rfl, ?_, (HKW.out.trans (HK.out.mono (fun j _ hj => hj.1)))⟩
        rw [HO.out]
        exact hss.keep (fun j hj _ => ⟨rfl, hj.1⟩)

end Go.Proofs.YtpbmclaglkcmoaaDoor
