import Derived.Test.YtpbmclaglkcmoaaReader
import Derived.Test.YtpbmclaglkcmoaaSum2
import Derived.Deep.RegionHeld3
namespace Go.Proofs.Ytpbmclaglkcmoaa
open Go.RowKit
set_option linter.unusedVariables false

def headL (e l a : Int) : List UInt8 := leB 8 e ++ leB 8 l ++ leB 4 a

theorem headL_length (e l a : Int) : (headL e l a).length = 20 := by simp [headL, leB_length]

def magicL : List UInt8 := [72, 69, 65, 68]

theorem stamp64 (l : List UInt8) (h : l.length ≤ 60) : stampB l 64 = (l ++ List.replicate (60 - l.length) 0 ++ seal4 (l ++ List.replicate (60 - l.length) 0), 0) := by
  unfold stampB
  rw [if_neg (by decide), if_neg (by omega)]
  rfl

/-- A head as its sector. -/
def headS (e l a : Int) : List UInt8 := (stampB (magicL ++ headL e l a) 64).1

/-- A writer, new at the end of a world. -/
theorem Wr.fresh' (w : World) (B : Nat) (hB : B ≤ w.heap.size) : Wr (fun k => B ≤ k) w.heap.size [] 0 (w.alloc (.cells #[.slice none 0 0, .int .i64 0] 106)) :=
  (Wr.fresh w).mono (fun k hk => Nat.le_trans hB hk)

theorem bcell {W w1 : World} (hb : Below W.heap.size W w1) : (∀ b o, b < W.heap.size → w1.cell? ⟨b, o, none⟩ = W.cell? ⟨b, o, none⟩) ∧ (∀ b o, b < W.heap.size → w1.frozen? ⟨b, o, none⟩ = W.frozen? ⟨b, o, none⟩) :=
  ⟨fun b o h => hb.cell (p := ⟨b, o, none⟩) h, fun b o h => hb.frozen (p := ⟨b, o, none⟩) h⟩

theorem sc {B b : Nat} {a w : World} (h : Below B a w) (hb : B ≤ b) (o : Nat) (v : Value) : Below B a (w.setCell ⟨b, o, none⟩ v) := h.setCell (p := ⟨b, o, none⟩) hb v

theorem drN {B : Nat} {a w : World} (h : Below B a w) (m : Nat) : Below B a (w.drewN m) := ⟨h.os, h.tape, h.output, h.size, h.block⟩

/-- A struct of the call's own, and a new writer behind it. -/
theorem boxw (w : World) (cs : Array Value) (t : TypeId) :
    Wr (fun k => w.heap.size + 1 ≤ k) (w.heap.size + 1) [] 0 ((w.alloc (.cells cs t)).alloc (.cells #[.slice none 0 0, .int .i64 0] 106)) ∧
    ((w.alloc (.cells cs t)).alloc (.cells #[.slice none 0 0, .int .i64 0] 106)).heap[w.heap.size]? = some (.cells cs t (0, 0)) ∧
    Below w.heap.size w ((w.alloc (.cells cs t)).alloc (.cells #[.slice none 0 0, .int .i64 0] 106)) ∧
    ((w.alloc (.cells cs t)).alloc (.cells #[.slice none 0 0, .int .i64 0] 106)).heap.size = w.heap.size + 2 := by
  have hs1 : (w.alloc (.cells cs t)).heap.size = w.heap.size + 1 := by simp
  have h := Wr.fresh' (w.alloc (.cells cs t)) (w.heap.size + 1) (by omega)
  rw [hs1] at h
  refine ⟨h, ?_, ((Below.refl _ w).alloc (Nat.le_refl _) _).alloc (by simp) _, by simp⟩
  rw [Below.heap_alloc _ _ _ (by omega)]
  exact heap_alloc_new w _

/-- What a struct's block holds, for a walk. -/
theorem cellAt {w w' : World} {b : Nat} {cs : Array Value} {t : TypeId} (h : w.heap[b]? = some (.cells cs t (0, 0))) (hb : Below (b + 1) w w') : w'.heap[b]? = some (.cells cs t (0, 0)) :=
  (hb.block b (by omega)).trans h

set_option maxHeartbeats 4000000 in
set_option maxRecDepth 100000 in
theorem putHead_calls (e l a : Int) (w : World) (he : 0 < e) (he2 : e < 18446744073709551616) (hl : 0 < l) (hl2 : l < 18446744073709551616) (ha : 0 ≤ a) (ha2 : a ≤ 256) :
    Calls Try.prog 46 #[.agg #[.int .u64 e, .int .u64 l, .int .i64 a]] w fun r w' => r = .returned (.tuple #[.string (bstr (headS e l a)), .int .i64 0]) ∧ Below w.heap.size w w' := by
  have h1 : (e == 0) = false := beq_eq_false_iff_ne.2 (by omega)
  have h2 : (l == 0) = false := beq_eq_false_iff_ne.2 (by omega)
  have hq : (bstr (headL e l a)).size ≤ 20 := Nat.le_of_eq (headL_length e l a)
  have hqd : (leB 8 e ++ leB 8 l ++ leB 4 a).toArray = (bstr (headL e l a)).data := rfl
  have hst : Hid (∀ W, Calls Try.prog 32 #[.string ({ data := #[72, 69, 65, 68] } ++ bstr (headL e l a)), .int .i64 64] W fun r w' => r = .returned (.tuple #[.string (bstr (headS e l a)), .int .i64 0]) ∧ Below W.heap.size W w') := by
    intro W
    have h := stamp_calls ({ data := #[72, 69, 65, 68] } ++ bstr (headL e l a)) 64 W (by rw [ByteArray.size_append]; exact Nat.le_trans (Nat.add_le_add_left hq _) (by decide))
    have e1 : (({ data := #[72, 69, 65, 68] } : ByteArray) ++ bstr (headL e l a)).data.toList = magicL ++ headL e l a := by rw [bapp2]; rfl
    have e2 : (stampB (magicL ++ headL e l a) 64).2 = 0 := by rw [stamp64 _ (by rw [List.length_append, headL_length]; decide)]
    rw [e1, e2] at h
    exact h
  have HQD := Lib.hid hqd
  clear hqd
  generalize bstr (headL e l a) = q at hq HQD hst
  go_enter Try.func46, Try.ntmps46
  go_wp2_with fail
  obtain ⟨hwr, hbk, hB2, hsz⟩ := boxw w #[.int .u64 e, .int .u64 l, .int .i64 a] 74
  generalize (w.alloc (.cells #[.int .u64 e, .int .u64 l, .int .i64 a] 74)).alloc (.cells #[.slice none 0 0, .int .i64 0] 106) = W at hwr hbk hB2 hsz ⊢
  have hc0 : W.cell? ⟨w.heap.size, 0, none⟩ = some (.int .u64 e) := by rw [Lib.cell_of_heap hbk]; rfl
  have hc1 : W.cell? ⟨w.heap.size, 1, none⟩ = some (.int .u64 l) := by rw [Lib.cell_of_heap hbk]; rfl
  have hc2 : W.cell? ⟨w.heap.size, 2, none⟩ = some (.int .i64 a) := by rw [Lib.cell_of_heap hbk]; rfl
  have hsz' : w.heap.size + 1 ≤ W.heap.size := by omega
  have HWR := Lib.hid hwr
  have HB2 := Lib.hid hB2
  have HBK := Lib.hid hbk
  clear hwr hbk hB2 hsz
  have hwa : IntKind.u64.wrap a = a := wraps_u64 a ha (by omega)
  have w4 := Lib.hid (wrong4 a ha (by omega))
  go_region_held3 (fun w' => w'.cell? ⟨w.heap.size, 0, none⟩ = some (.int .u64 e) ∧ w'.cell? ⟨w.heap.size, 1, none⟩ = some (.int .u64 l) ∧ w'.cell? ⟨w.heap.size, 2, none⟩ = some (.int .i64 a)) (go_keep)
    (first
      | (go_at_call_of 70 (Value.int .u64 e); (refine (num_good (w.heap.size + 1) (w.heap.size + 1) [] e 8 W.drew HWR.out (wrong8 _) hsz' (by omega) he2 (by decide)).mono ?_); rintro r w1 ⟨rfl, g1, k1⟩;
          have d0 := (k1.cell (p := ⟨w.heap.size, 0, none⟩) (Nat.lt_succ_self _)).trans hc0; have d1 := (k1.cell (p := ⟨w.heap.size, 1, none⟩) (Nat.lt_succ_self _)).trans hc1; have d2 := (k1.cell (p := ⟨w.heap.size, 2, none⟩) (Nat.lt_succ_self _)).trans hc2)
      | (go_at_call_of 70 (Value.int .u64 l); (refine (num_good (w.heap.size + 1) (w.heap.size + 1) (leB 8 e) l 8 w1 g1 (wrong8 _) (Nat.le_trans hsz' k1.size) (by omega) hl2 (by rw [leB_length]; decide)).mono ?_); rintro r w2 ⟨rfl, g2, k2⟩;
          have d0' := (k2.cell (p := ⟨w.heap.size, 0, none⟩) (Nat.lt_succ_self _)).trans d0; have d1' := (k2.cell (p := ⟨w.heap.size, 1, none⟩) (Nat.lt_succ_self _)).trans d1; have d2' := (k2.cell (p := ⟨w.heap.size, 2, none⟩) (Nat.lt_succ_self _)).trans d2)
      | (go_at_call_of 70 (Value.int .u64 a); (refine (num_good (w.heap.size + 1) (w.heap.size + 1) (leB 8 e ++ leB 8 l) a 4 w2 g2 w4.out (Nat.le_trans hsz' (Nat.le_trans k1.size k2.size)) ha (by omega) (by rw [List.length_append, leB_length, leB_length]; decide)).mono ?_); rintro r w3 ⟨rfl, g3, k3⟩;
          have d0'' := (k3.cell (p := ⟨w.heap.size, 0, none⟩) (Nat.lt_succ_self _)).trans d0'; have d1'' := (k3.cell (p := ⟨w.heap.size, 1, none⟩) (Nat.lt_succ_self _)).trans d1'; have d2'' := (k3.cell (p := ⟨w.heap.size, 2, none⟩) (Nat.lt_succ_self _)).trans d2')
      | (go_at_call 71; (refine (bytes_q _ _ _ q w3 g3 HQD.out).mono ?_); rintro r w4 ⟨rfl, m, rfl⟩))
  go_wp2_with fail
  refine (hst.out _).mono ?_
  rintro r w5 ⟨rfl, hb5⟩
  go_wp2
  go_ret2
  refine ⟨rfl, ?_⟩
  have k4 : Below w.heap.size w w3 := ((HB2.out.drew.trans (k1.mono (Nat.le_succ _))).trans (k2.mono (Nat.le_succ _))).trans (k3.mono (Nat.le_succ _))
  exact (drN k4 m).trans (hb5.mono (k4.size))

theorem putHead_bad (e l a : Int) (w : World) (h : e = 0 ∨ l = 0 ∨ a < 0 ∨ 256 < a) (he : 0 ≤ e) (hl : 0 ≤ l) :
    Calls Try.prog 46 #[.agg #[.int .u64 e, .int .u64 l, .int .i64 a]] w fun r w' => r = .returned (.tuple #[.string { data := #[] }, .int .i64 1]) ∧ Below w.heap.size w w' := by
  by_cases h1 : e = 0
  · have g1 : (e == 0) = true := beq_iff_eq.2 h1
    clear h h1
    go_enter Try.func46, Try.ntmps46
    go_wp2
    go_ret2
    exact ⟨rfl, (Below.refl _ w).alloc (Nat.le_refl _) _⟩
  have g1 : (e == 0) = false := beq_eq_false_iff_ne.2 h1
  by_cases h2 : l = 0
  · have g2 : (l == 0) = true := beq_iff_eq.2 h2
    clear h h2
    go_enter Try.func46, Try.ntmps46
    go_wp2
    go_ret2
    exact ⟨rfl, (Below.refl _ w).alloc (Nat.le_refl _) _⟩
  have g2 : (l == 0) = false := beq_eq_false_iff_ne.2 h2
  by_cases h3 : a < 0
  · clear h
    go_enter Try.func46, Try.ntmps46
    go_wp2
    go_ret2
    exact ⟨rfl, (Below.refl _ w).alloc (Nat.le_refl _) _⟩
  have h4 : 256 < a := by omega
  clear h
  go_enter Try.func46, Try.ntmps46
  go_wp2
  go_ret2
  exact ⟨rfl, (Below.refl _ w).alloc (Nat.le_refl _) _⟩

/-- NewReader. -/
theorem newReader_calls (s : ByteArray) (w : World) (hs : s.size ≤ 281474976710656) :
    Calls Try.prog 72 #[.string s] w fun r w' => ∃ b : Nat, r = .returned (.pointer (some ⟨b, 0, none⟩)) ∧ w.heap.size ≤ b ∧ Rd b s.data.toList 0 w' ∧ Below w.heap.size w w' := by
  go_enter Try.func72, Try.ntmps72
  go_wp2_with fail
  refine (clone_calls s _ hs).mono ?_
  rintro r w1 ⟨rfl, hb1⟩
  go_wp2
  go_ret
  refine ⟨w1.heap.size, rfl, hb1.size, ?_, al hb1 _⟩
  exact heap_alloc_new w1 _

set_option maxHeartbeats 4000000 in
set_option maxRecDepth 100000 in
theorem getHead_sum (s : ByteArray) (w : World) (hs : s.size = 64) (hr : readB s.data.toList = ([], 6)) :
    Calls Try.prog 47 #[.string s] w fun r w' => r = .returned (.tuple #[.agg #[.int .u64 0, .int .u64 0, .int .i64 0], .int .i64 6]) ∧ Below w.heap.size w w' := by
  have hrd : Hid (∀ W, Calls Try.prog 30 #[.string s] W fun r w' => r = .returned (.tuple #[.string { data := #[] }, .int .i64 6]) ∧ Below W.heap.size W w') := by
    intro W
    have := read_calls s W (by omega)
    rw [hr] at this
    exact this
  clear hr
  go_enter Try.func47, Try.ntmps47
  go_wp2_with fail
  refine (hrd.out _).mono ?_
  rintro r w1 ⟨rfl, hb1⟩
  obtain ⟨hcell, hfroz⟩ := bcell hb1
  go_wp2
  refine bodyPost_ret (v := .tuple #[.agg #[.int .u64 0, .int .u64 0, .int .i64 0], .int .i64 6]) (by simp [results, Try.results47, go_sem, hcell]) rfl ⟨rfl, ?_⟩
  have hB := (al (Below.refl _ w) (.cells #[.int .u64 0, .int .u64 0, .int .i64 0] 74)).trans (hb1.mono (by simp))
  repeat (first | exact hB | refine sc ?_ (Nat.le_refl _) _ _)

/-- The sector's bytes of a head, without the sum. -/
def headB (e l a : Int) : List UInt8 := magicL ++ headL e l a ++ List.replicate 36 0

theorem headS_eq (e l a : Int) : headS e l a = headB e l a ++ seal4 (headB e l a) := by
  have h : (magicL ++ headL e l a).length = 24 := by rw [List.length_append, headL_length]; rfl
  unfold headS
  rw [stamp64 _ (by omega), h]
  rfl

theorem headB_length (e l a : Int) : (headB e l a).length = 60 := by
  unfold headB
  rw [List.length_append, List.length_append, headL_length, List.length_replicate]
  rfl

theorem headS_length (e l a : Int) : (headS e l a).length = 64 := by rw [headS_eq, List.length_append, headB_length, seal4_length]

set_option maxHeartbeats 4000000 in
set_option maxRecDepth 100000 in
theorem getHead_good (e l a : Int) (w : World) (he : 0 < e) (he2 : e < 18446744073709551616) (hl : 0 < l) (hl2 : l < 18446744073709551616) (ha : 0 ≤ a) (ha2 : a ≤ 256) :
    Calls Try.prog 47 #[.string (bstr (headS e l a))] w fun r w' => r = .returned (.tuple #[.agg #[.int .u64 e, .int .u64 l, .int .i64 a], .int .i64 0]) ∧ Below w.heap.size w w' := by
  have hS64 : (bstr (headS e l a)).size = 64 := headS_length e l a
  have hrd : Hid (∀ W, Calls Try.prog 30 #[.string (bstr (headS e l a))] W fun r w' => r = .returned (.tuple #[.string (bstr (headB e l a)), .int .i64 0]) ∧ Below W.heap.size W w') := by
    intro W
    have := read_calls (bstr (headS e l a)) W (by omega)
    rw [bstr_toList, headS_eq, readB_stamp] at this
    rw [headS_eq]
    exact this
  have hph : Hid (∀ W, Calls Try.prog 46 #[.agg #[.int .u64 e, .int .u64 l, .int .i64 a]] W fun r w' => r = .returned (.tuple #[.string (bstr (headS e l a)), .int .i64 0]) ∧ Below W.heap.size W w') := fun W => putHead_calls e l a W he he2 hl hl2 ha ha2
  have hB60 : (bstr (headB e l a)).size = 60 := headB_length e l a
  have hdr : Hid ((bstr (headB e l a)).data.toList.drop 4 = leB 8 e ++ (leB 8 l ++ (leB 4 a ++ List.replicate 36 0))) := by
    show List.drop 4 (headB e l a) = _
    simp [headB, headL, magicL]
  generalize bstr (headS e l a) = S at hS64 hrd hph
  generalize bstr (headB e l a) = B at hB60 hrd hdr
  have hwa : IntKind.i64.wrap a = a := by rw [IntKind.wrap_i64]; omega
  go_enter Try.func47, Try.ntmps47
  go_wp2_with fail
  refine (hrd.out _).mono ?_
  rintro r w1 ⟨rfl, hb1⟩
  go_wp2_with fail
  refine (newReader_calls _ _ (by simp; omega)).mono ?_
  rintro r w2 ⟨b, rfl, hbge, hR, hb2⟩
  have hR2 : Rd b (leB 8 e ++ (leB 8 l ++ (leB 4 a ++ List.replicate 36 0))) 0 w2 := by
    have e1 := ext_drop B 4
    rw [hB60] at e1
    have h := hR
    rw [show (B.extract 4 60).data.toList = _ from e1, hdr.out] at h
    exact h
  go_wp2_with fail
  refine (rnum_good b 8 e _ w2 hR2 (by decide) (by decide) (by omega) he2).mono ?_
  rintro r w3 ⟨rfl, hR3, hk3⟩
  go_wp2_with fail
  refine (rnum_good b 8 l _ w3 hR3 (by decide) (by decide) (by omega) hl2).mono ?_
  rintro r w4 ⟨rfl, hR4, hk4⟩
  go_wp2_with fail
  refine (rnum_good b 4 a _ w4 hR4 (by decide) (by decide) ha (by omega)).mono ?_
  rintro r w5 ⟨rfl, hR5, hk5⟩
  have hB5 : Below w.heap.size w w5 := by
    have h2 := (al (Below.refl _ w) (.cells #[.int .u64 0, .int .u64 0, .int .i64 0] 74)).trans ((hb1.trans (hb2.mono (by have := hb1.size; simp at this ⊢; omega))).mono (by simp))
    have hbw : w.heap.size ≤ b := by have := hb1.size; simp at this; omega
    have hs2 := h2.size
    have hs3 := hk3.size
    have hs4 := hk4.size
    exact ((h2.trans (hk3.below hs2 (fun k h e => by omega))).trans (hk4.below (by omega) (fun k h e => by omega))).trans (hk5.below (by omega) (fun k h e => by omega))
  have HB5 := Lib.hid hB5
  have g5 : w5.heap[w.heap.size]? = some (.cells #[.int .u64 0, .int .u64 0, .int .i64 0] 74 (0, 0)) := by
    have g0 := heap_alloc_new w (.cells #[.int .u64 0, .int .u64 0, .int .i64 0] 74)
    have s1 := hb1.size
    have s2 := hb2.size
    have s3 := hk3.size
    have s4 := hk4.size
    have s0 : (w.alloc (.cells #[.int .u64 0, .int .u64 0, .int .i64 0] 74)).heap.size = w.heap.size + 1 := by simp
    have g1 := (hb1.block w.heap.size (by omega)).trans g0
    have g2 := (hb2.block w.heap.size (by omega)).trans g1
    have g3 := (hk3.block w.heap.size (by omega) (by omega)).trans g2
    have g4 := (hk4.block w.heap.size (by omega) (by omega)).trans g3
    exact (hk5.block w.heap.size (by omega) (by omega)).trans g4
  have hlt5 : w.heap.size < w5.heap.size := lt_of_heap g5
  have c0 : w5.cell? ⟨w.heap.size, 0, none⟩ = some (.int .u64 0) := by rw [Lib.cell_of_heap g5]; rfl
  have c1 : w5.cell? ⟨w.heap.size, 1, none⟩ = some (.int .u64 0) := by rw [Lib.cell_of_heap g5]; rfl
  have c2 : w5.cell? ⟨w.heap.size, 2, none⟩ = some (.int .i64 0) := by rw [Lib.cell_of_heap g5]; rfl
  have f0 : w5.frozen? ⟨w.heap.size, 0, none⟩ = false := Lib.frozen_of_heap g5 0
  have f1 : w5.frozen? ⟨w.heap.size, 1, none⟩ = false := Lib.frozen_of_heap g5 1
  have f2 : w5.frozen? ⟨w.heap.size, 2, none⟩ = false := Lib.frozen_of_heap g5 2
  have G5 := Lib.hid g5
  clear hR hR2 hR3 hR4 hR5 hb1 hb2 hk3 hk4 hk5 hB5 g5
  go_wp2_with fail
  refine (hph.out _).mono ?_
  rintro r w6 ⟨rfl, hb6⟩
  obtain ⟨hcell, hfroz⟩ := bcell hb6
  have g6 : w6.heap[w.heap.size]? = some (.cells #[.int .u64 0, .int .u64 0, .int .i64 0] 74 (0, 0)) := (hb6.block _ (by simp; omega)).trans ((Below.heap_alloc _ _ _ hlt5).trans G5.out)
  have x0 : w6.cell? ⟨w.heap.size, 0, none⟩ = some (.int .u64 0) := by rw [Lib.cell_of_heap g6]; rfl
  have x1 : w6.cell? ⟨w.heap.size, 1, none⟩ = some (.int .u64 0) := by rw [Lib.cell_of_heap g6]; rfl
  have x2 : w6.cell? ⟨w.heap.size, 2, none⟩ = some (.int .i64 0) := by rw [Lib.cell_of_heap g6]; rfl
  clear g6
  go_wp2
  refine bodyPost_ret (v := .tuple #[.agg #[.int .u64 e, .int .u64 l, .int .i64 a], .int .i64 0]) (by simp [results, Try.results47, go_sem, x0, x1, x2]) rfl ⟨rfl, ?_⟩
  have hB6 := (al HB5.out (.cells #[.int .u64 e, .int .u64 l, .int .i64 a] 74)).trans (hb6.mono (by have := HB5.out.size; simp; omega))
  repeat (first | exact hB6 | refine sc ?_ (Nat.le_refl _) _ _)

end Go.Proofs.Ytpbmclaglkcmoaa
