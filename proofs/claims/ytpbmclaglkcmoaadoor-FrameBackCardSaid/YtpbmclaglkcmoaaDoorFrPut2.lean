import Derived.Test.YtpbmclaglkcmoaaDoorFrPut
import Derived.Test.YtpbmclaglkcmoaaDoorWire
import Derived.Test.YtpbmclaglkcmoaaDoorSum
import Derived.Deep.RegionHeld3
namespace Go.Proofs.YtpbmclaglkcmoaaDoor
open Go.RowKit
set_option linter.unusedVariables false
set_option linter.unusedSimpArgs false

/-- A frame in block o. -/
def FC (o : Nat) (f : Fr) (W : World) : Prop := W.heap[o]? = some (.cells #[.int .i64 f.fr, .int .i64 f.to, .int .i64 f.mine, .int .i64 f.yours, .int .i64 f.seq, .int .i64 f.ack, .string f.data, .bool f.has] 79 (0, 0))

/-- A writer in block B, over what lay there, and a frame below it. -/
structure PS (o B : Nat) (f : Fr) (w1 : World) (bs : List UInt8) (W : World) : Prop where
  wr : Wr (fun k => B ≤ k) B bs 0 W
  bel : Below B w1 W
  lt : o < B
  eq : B = w1.heap.size
  fc : FC o f w1

section
variable {o B : Nat} {f : Fr} {w1 W : World} {bs : List UInt8}
theorem PS.fcW (h : PS o B f w1 bs W) : FC o f W := (h.bel.block o h.lt).trans h.fc
theorem PS.size (h : PS o B f w1 bs W) : B ≤ W.heap.size := by have := h.bel.size; have := h.eq; omega
theorem PS.drew (h : PS o B f w1 bs W) : PS o B f w1 bs W.drew := ⟨h.wr, h.bel.drew, h.lt, h.eq, h.fc⟩
theorem FC.c (h : FC o f W) : W.cell? ⟨o, 0, none⟩ = some (.int .i64 f.fr) ∧ W.cell? ⟨o, 1, none⟩ = some (.int .i64 f.to) ∧ W.cell? ⟨o, 2, none⟩ = some (.int .i64 f.mine) ∧ W.cell? ⟨o, 3, none⟩ = some (.int .i64 f.yours) ∧ W.cell? ⟨o, 4, none⟩ = some (.int .i64 f.seq) ∧ W.cell? ⟨o, 5, none⟩ = some (.int .i64 f.ack) ∧ W.cell? ⟨o, 6, none⟩ = some (.string f.data) ∧ W.cell? ⟨o, 7, none⟩ = some (.bool f.has) := by
  refine ⟨?_, ?_, ?_, ?_, ?_, ?_, ?_, ?_⟩ <;> (rw [Lib.cell_of_heap h]; rfl)

theorem ps_num {v u n : Int} (h : PS o B f w1 bs W) (hu : u = v) (hw : wrongN v n = 0) (hv : 0 ≤ v) (hv2 : v < 18446744073709551616) (hl : bs.length ≤ 10000) :
    Calls Tryd.prog 16 #[.pointer (some ⟨B, 0, none⟩), .int .u64 u, .int .i64 n] W fun r w' => r = .returned (.pointer (some ⟨B, 0, none⟩)) ∧ Hid (PS o B f w1 (bs ++ leB n.toNat v) w') ∧ Hid (FC o f w') := by
  subst hu
  refine (num_good B B bs u n W h.wr hw h.size hv hv2 (by omega)).mono ?_
  rintro r w' ⟨rfl, g, b⟩
  have hp : PS o B f w1 (bs ++ leB n.toNat u) w' := ⟨g, h.bel.trans b, h.lt, h.eq, h.fc⟩
  exact ⟨rfl, hp, hp.fcW⟩
theorem ps_flag {v : Bool} (h : PS o B f w1 bs W) (hl : bs.length ≤ 10000) :
    Calls Tryd.prog 27 #[.pointer (some ⟨B, 0, none⟩), .bool v] W fun r w' => r = .returned (.pointer (some ⟨B, 0, none⟩)) ∧ Hid (PS o B f w1 (bs ++ leB 1 (if v then 1 else 0)) w') ∧ Hid (FC o f w') := by
  refine (flag_calls (fun k => B ≤ k) B (bs, 0) v W h.wr (by show bs.length + 8 ≤ _; omega)).mono ?_
  rintro r w' ⟨rfl, g, b⟩
  have hs := h.size
  have e : flagW (bs, 0) v = (bs ++ leB 1 (if v then 1 else 0), 0) := numW_ok bs _ 1 (by cases v <;> decide)
  rw [e] at g
  have hp : PS o B f w1 (bs ++ leB 1 (if v then 1 else 0)) w' := ⟨g.mono (fun k hk => by rcases hk with hk | hk <;> omega), h.bel.trans (b.below hs (fun k hk => by omega)), h.lt, h.eq, h.fc⟩
  exact ⟨rfl, hp, hp.fcW⟩
theorem ps_text {t : ByteArray} (h : PS o B f w1 bs W) (hl : bs.length ≤ 10000) (ht : t.size ≤ 3000) :
    Calls Tryd.prog 25 #[.pointer (some ⟨B, 0, none⟩), .string t, .int .i64 3000] W fun r w' => r = .returned (.pointer (some ⟨B, 0, none⟩)) ∧ Hid (PS o B f w1 (bs ++ leB 2 t.size ++ t.data.toList) w') ∧ Hid (FC o f w') := by
  refine (text_calls (fun k => B ≤ k) B (bs, 0) t 3000 W h.wr (by show bs.length ≤ _; omega)).mono ?_
  rintro r w' ⟨rfl, g, b⟩
  have hs := h.size
  have hz : t.data.toList.length = t.size := toList_length t
  have e : textW (bs, 0) t.data.toList 3000 = (bs ++ leB 2 t.size ++ t.data.toList, 0) := by
    unfold textW
    rw [if_pos (show failErr 0 (wrongR 3000) = 0 by decide), if_neg (by rw [hz]; omega), hz]
  rw [e] at g
  have hp : PS o B f w1 (bs ++ leB 2 t.size ++ t.data.toList) w' := ⟨g.mono (fun k hk => by rcases hk with hk | hk <;> omega), h.bel.trans (b.below hs (fun k hk => by omega)), h.lt, h.eq, h.fc⟩
  exact ⟨rfl, hp, hp.fcW⟩
end

set_option maxHeartbeats 4000000 in
set_option maxRecDepth 100000 in
theorem putF_calls (f : Fr) (w : World) (hi : intsF f) :
    Calls Tryd.prog 55 #[frA f] w fun r w' => r = .returned (.tuple #[.string (putF f).1, .int .i64 (putF f).2]) ∧ Below w.heap.size w w' := by
  have HW := Lib.hid (fun W => wrong_calls f W)
  by_cases h0 : wrongF f = 0
  · have hp : putF f = (bstr (seal4 (encF f) ++ encF f), 0) := if_pos h0
    have HP := Lib.hid hp
    obtain ⟨⟨⟨p0, p1, p2, p3, p4, p5⟩, b0, b1⟩, hd⟩ := wrongF_zero h0
    obtain ⟨m2, m3, m4, m5⟩ := hi
    rw [h0] at HW
    have HE : Hid (encF f = leB 2 f.fr ++ leB 2 f.to ++ leB 8 f.mine ++ leB 8 f.yours ++ leB 8 f.seq ++ leB 8 f.ack ++ leB 1 (if f.has then 1 else 0) ++ leB 2 f.data.size ++ f.data.data.toList) := by
      show encF f = _
      simp [encF, List.append_assoc]
    generalize encF f = E at HE HP
    clear hp h0
    obtain ⟨a0, a1, a2, a3, a4, a5, d, has⟩ := f
    simp only at p0 p1 p2 p3 p4 p5 b0 b1 hd m2 m3 m4 m5 HE
    unfold frA at HW ⊢
    go_enter Tryd.func55, Tryd.ntmps55
    go_wp2_with fail
    refine (HW.out _).mono ?_
    rintro r w1 ⟨rfl, hb1⟩
    have hfc : FC w.heap.size ⟨a0, a1, a2, a3, a4, a5, d, has⟩ w1 := (hb1.block w.heap.size (by simp)).trans (heap_alloc_new w _)
    have hlt : w.heap.size < w1.heap.size := lt_of_heap hfc
    have HB1 : Hid (Below w.heap.size w w1) := (al (Below.refl _ w) _).trans (hb1.mono (by simp))
    have HS0 : Hid (PS w.heap.size w1.heap.size ⟨a0, a1, a2, a3, a4, a5, d, has⟩ w1 [] (w1.alloc (.cells #[.slice none 0 0, .int .i64 0] 27)).drew) := PS.drew ⟨Wr.fresh w1, al (Below.refl _ _) _, hlt, rfl, hfc⟩
    clear hb1
    obtain ⟨c0, c1, _, _, _, _, _, _⟩ := FC.c HS0.out.fcW
    have HN0 := Lib.hid (fun W (hW : Hid (PS w.heap.size w1.heap.size ⟨a0, a1, a2, a3, a4, a5, d, has⟩ w1 [] W)) => ps_num (u := IntKind.u64.wrap a0) (n := 2) hW.out (wraps_u64 a0 (by omega) (by omega)) (wrong2 a0 (by omega) (by omega)) (by omega) (by omega) (by simp))
    have HN1 := Lib.hid (fun W (hW : Hid (PS w.heap.size w1.heap.size ⟨a0, a1, a2, a3, a4, a5, d, has⟩ w1 ([] ++ leB (2 : Int).toNat a0) W)) => ps_num (u := IntKind.u64.wrap a1) (n := 2) hW.out (wraps_u64 a1 (by omega) (by omega)) (wrong2 a1 (by omega) (by omega)) (by omega) (by omega) (by simp [leB_length]))
    go_wp2_with fail
    go_region_held3 (fun w' => w'.cell? ⟨w.heap.size, 0, none⟩ = some (.int .i64 a0) ∧ w'.cell? ⟨w.heap.size, 1, none⟩ = some (.int .i64 a1)) (first | exact ⟨by assumption, by assumption⟩ | go_keep)
      (first
        | (go_at_call_of 16 (Value.int .u64 (IntKind.u64.wrap a0)); (refine (HN0.out _ HS0).mono ?_); rintro r w2 ⟨rfl, h2, x2⟩; obtain ⟨e20, e21, _, _, _, _, _, _⟩ := FC.c x2.out)
        | (go_at_call_of 16 (Value.int .u64 (IntKind.u64.wrap a1)); (refine (HN1.out _ h2).mono ?_); rintro r w3 ⟨rfl, h3, x3⟩; obtain ⟨e30, e31, _, _, _, _, _, _⟩ := FC.c x3.out))
    go_wp2_with fail
    have HS3 : Hid (PS w.heap.size w1.heap.size ⟨a0, a1, a2, a3, a4, a5, d, has⟩ w1 ([] ++ leB (2 : Int).toNat a0 ++ leB (2 : Int).toNat a1) w3.drew) := h3.out.drew
    have HL3 : Hid ((([] : List UInt8) ++ leB (2 : Int).toNat a0 ++ leB (2 : Int).toNat a1).length = 4) := by show _ = _; simp [leB_length]
    generalize hL : (([] : List UInt8) ++ leB (2 : Int).toNat a0 ++ leB (2 : Int).toNat a1) = L at HS3 HL3
    have HLL := Lib.hid hL
    clear hL HN0 HN1 h2 h3 x2 x3 c0 c1 e20 e21 e30 e31 HS0
    obtain ⟨_, _, c2, c3, c4, c5, _, _⟩ := FC.c HS3.out.fcW
    have HN2 := Lib.hid (fun W (hW : Hid (PS w.heap.size w1.heap.size ⟨a0, a1, a2, a3, a4, a5, d, has⟩ w1 L W)) => ps_num (u := IntKind.u64.wrap a2) (n := 8) hW.out (wraps_u64 a2 (by omega) (by omega)) (wrong8 a2) (by omega) (by omega) (by have := HL3.out; simp only [List.length_append, leB_length, this]; decide))
    have HN3 := Lib.hid (fun W (hW : Hid (PS w.heap.size w1.heap.size ⟨a0, a1, a2, a3, a4, a5, d, has⟩ w1 (L ++ leB (8 : Int).toNat a2) W)) => ps_num (u := IntKind.u64.wrap a3) (n := 8) hW.out (wraps_u64 a3 (by omega) (by omega)) (wrong8 a3) (by omega) (by omega) (by have := HL3.out; simp only [List.length_append, leB_length, this]; decide))
    have HN4 := Lib.hid (fun W (hW : Hid (PS w.heap.size w1.heap.size ⟨a0, a1, a2, a3, a4, a5, d, has⟩ w1 (L ++ leB (8 : Int).toNat a2 ++ leB (8 : Int).toNat a3) W)) => ps_num (u := IntKind.u64.wrap a4) (n := 8) hW.out (wraps_u64 a4 (by omega) (by omega)) (wrong8 a4) (by omega) (by omega) (by have := HL3.out; simp only [List.length_append, leB_length, this]; decide))
    have HN5 := Lib.hid (fun W (hW : Hid (PS w.heap.size w1.heap.size ⟨a0, a1, a2, a3, a4, a5, d, has⟩ w1 (L ++ leB (8 : Int).toNat a2 ++ leB (8 : Int).toNat a3 ++ leB (8 : Int).toNat a4) W)) => ps_num (u := IntKind.u64.wrap a5) (n := 8) hW.out (wraps_u64 a5 (by omega) (by omega)) (wrong8 a5) (by omega) (by omega) (by have := HL3.out; simp only [List.length_append, leB_length, this]; decide))
    go_region_held3 (fun w' => w'.cell? ⟨w.heap.size, 2, none⟩ = some (.int .i64 a2) ∧ w'.cell? ⟨w.heap.size, 3, none⟩ = some (.int .i64 a3) ∧ w'.cell? ⟨w.heap.size, 4, none⟩ = some (.int .i64 a4) ∧ w'.cell? ⟨w.heap.size, 5, none⟩ = some (.int .i64 a5)) (first | exact ⟨by assumption, by assumption, by assumption, by assumption⟩ | go_keep)
      (first
        | (go_at_call_of 16 (Value.int .u64 (IntKind.u64.wrap a2)); (refine (HN2.out _ HS3).mono ?_); rintro r w4 ⟨rfl, h4, x4⟩; obtain ⟨_, _, e42, e43, e44, e45, _, _⟩ := FC.c x4.out)
        | (go_at_call_of 16 (Value.int .u64 (IntKind.u64.wrap a3)); (refine (HN3.out _ h4).mono ?_); rintro r w5 ⟨rfl, h5, x5⟩; obtain ⟨_, _, e52, e53, e54, e55, _, _⟩ := FC.c x5.out)
        | (go_at_call_of 16 (Value.int .u64 (IntKind.u64.wrap a4)); (refine (HN4.out _ h5).mono ?_); rintro r w6 ⟨rfl, h6, x6⟩; obtain ⟨_, _, e62, e63, e64, e65, _, _⟩ := FC.c x6.out)
        | (go_at_call_of 16 (Value.int .u64 (IntKind.u64.wrap a5)); (refine (HN5.out _ h6).mono ?_); rintro r w7 ⟨rfl, h7, x7⟩; obtain ⟨_, _, e72, e73, e74, e75, _, _⟩ := FC.c x7.out))
    go_wp2_with fail
    have HS7 : Hid (PS w.heap.size w1.heap.size ⟨a0, a1, a2, a3, a4, a5, d, has⟩ w1 (L ++ leB (8 : Int).toNat a2 ++ leB (8 : Int).toNat a3 ++ leB (8 : Int).toNat a4 ++ leB (8 : Int).toNat a5) w7.drew) := h7.out.drew
    have HL7 : Hid ((L ++ leB (8 : Int).toNat a2 ++ leB (8 : Int).toNat a3 ++ leB (8 : Int).toNat a4 ++ leB (8 : Int).toNat a5).length = 36) := by show _ = _; have := HL3.out; simp only [List.length_append, leB_length, this]; decide
    have HLM : Hid (L ++ leB (8 : Int).toNat a2 ++ leB (8 : Int).toNat a3 ++ leB (8 : Int).toNat a4 ++ leB (8 : Int).toNat a5 = leB 2 a0 ++ leB 2 a1 ++ leB 8 a2 ++ leB 8 a3 ++ leB 8 a4 ++ leB 8 a5) := by show _ = _; rw [← HLL.out]; simp
    generalize (L ++ leB (8 : Int).toNat a2 ++ leB (8 : Int).toNat a3 ++ leB (8 : Int).toNat a4 ++ leB (8 : Int).toNat a5) = M at HS7 HL7 HLM
    clear HN2 HN3 HN4 HN5 h4 h5 h6 h7 x4 x5 x6 x7 c2 c3 c4 c5 HS3 e42 e43 e44 e45 e52 e53 e54 e55 e62 e63 e64 e65 e72 e73 e74 e75 HL3 HLL
    obtain ⟨_, _, _, _, _, _, c6, c7⟩ := FC.c HS7.out.fcW
    have HQ1 := Lib.hid (ps_flag (v := has) HS7.out (by rw [HL7.out]; decide))
    have HQ2 := Lib.hid (fun W (hW : Hid (PS w.heap.size w1.heap.size ⟨a0, a1, a2, a3, a4, a5, d, has⟩ w1 (M ++ leB 1 (if has then 1 else 0)) W)) => ps_text (t := d) hW.out (by simp only [List.length_append, leB_length, HL7.out]; decide) hd)
    have HQ3 := Lib.hid (fun W (hW : Hid (PS w.heap.size w1.heap.size ⟨a0, a1, a2, a3, a4, a5, d, has⟩ w1 (M ++ leB 1 (if has then 1 else 0) ++ leB 2 d.size ++ d.data.toList) W)) => bytes_q _ _ _ (bstr E) W hW.out.wr (by rw [HE.out, HLM.out]; rfl))
    go_region_held3 (fun w' => w'.cell? ⟨w.heap.size, 6, none⟩ = some (.string d) ∧ w'.cell? ⟨w.heap.size, 7, none⟩ = some (.bool has)) (first | exact ⟨by assumption, by assumption⟩ | go_keep)
      (first
        | (go_at_call_of 27 (Value.bool has); (refine HQ1.out.mono ?_); rintro r w8 ⟨rfl, h8, x8⟩; obtain ⟨_, _, _, _, _, _, e86, e87⟩ := FC.c x8.out)
        | (go_at_call_of 25 (Value.string d); (refine (HQ2.out _ h8).mono ?_); rintro r w9 ⟨rfl, h9, x9⟩; obtain ⟨_, _, _, _, _, _, e96, e97⟩ := FC.c x9.out)
        | (go_at_call_of 17 (Value.pointer (some ⟨w1.heap.size, 0, none⟩)); (refine (HQ3.out _ h9).mono ?_); rintro r w10 ⟨rfl, m10, rfl⟩))
    have HZ : Hid ((bstr E).size ≤ 140737488355328) := by
      show E.length ≤ _
      have hz : d.data.toList.length = d.size := toList_length d
      rw [HE.out]
      simp only [List.length_append, leB_length, hz]
      omega
    have HB9 := Lib.hid (HB1.out.trans (h9.out.bel.mono (Nat.le_of_lt hlt)))
    go_wp2_with fail
    refine (seal_calls (bstr E) _ HZ.out).mono ?_
    rintro r w11 ⟨rfl, hb11⟩
    go_wp2
    go_ret2
    refine ⟨by rw [HP.out]; rfl, bl HB9.out ?_⟩
    exact (show Below w9.heap.size w9 (w9.drewN m10) from ⟨rfl, rfl, rfl, Nat.le_refl _, fun _ _ => rfl⟩).trans hb11
  · have hp : putF f = (bstr [], wrongF f) := if_neg h0
    rw [hp]
    generalize wrongF f = E at h0 HW
    clear hp hi
    unfold frA at HW ⊢
    have h1 : (E != 0) = true := bne_iff_ne.2 h0
    go_enter Tryd.func55, Tryd.ntmps55
    go_wp2_with fail
    refine (HW.out _).mono ?_
    rintro r w1 ⟨rfl, hb1⟩
    go_wp2
    go_ret2
    exact ⟨rfl, (al (Below.refl _ w) _).trans (hb1.mono (by simp))⟩

end Go.Proofs.YtpbmclaglkcmoaaDoor
