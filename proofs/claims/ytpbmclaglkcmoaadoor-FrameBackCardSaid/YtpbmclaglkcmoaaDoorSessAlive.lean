import Derived.Test.YtpbmclaglkcmoaaDoorOwn
namespace Go.Proofs.YtpbmclaglkcmoaaDoor
open Go.RowKit
set_option linter.unusedVariables false
set_option linter.unusedSimpArgs false

/-! The first call whose answer the document fixes. -/
def tX : ByteArray := ⟨#[120]⟩
def al_a1 : Se := ((Se.fresh 1 2 1).send tX).2
def al_f1 : Fr := ⟨1, 2, 1, 0, 1, 0, tX, true⟩
def al_b1 : Se := ((Se.fresh 2 1 1).take al_f1).2
def al_g1 : Fr := ⟨2, 1, 1, 1, 0, 0, ⟨#[]⟩, false⟩
def al_a3 : Se := (al_a1.outS.take al_g1).2
def al_f3 : Fr := ⟨1, 2, 1, 1, 1, 0, tX, true⟩
theorem al_0 : ((Se.fresh 1 2 1).send tX).1 = 0 := by rfl
theorem al_1 : al_a1.outF = [al_f1] := by rfl
theorem al_2 : ((Se.fresh 2 1 1).take al_f1).1 = ([], true) := by rfl
theorem al_3 : al_b1.outF = [al_g1] := by rfl
theorem al_4 : (al_a1.outS.take al_g1).1 = ([], true) := by rfl
theorem al_5 : al_a3.outF = [al_f3] := by rfl
theorem al_6 : (al_b1.outS.take al_f3).1 = ([tX], true) := by rfl

theorem ok_a0 : (Se.fresh 1 2 1).Ok 64 := Se.Ok.fresh _ _ _ (by decide)
theorem ok_b0 : (Se.fresh 2 1 1).Ok 64 := Se.Ok.fresh _ _ _ (by decide)
theorem ok_a1 : al_a1.Ok 65 := ok_a0.send tX
theorem ok_b1 : al_b1.Ok 64 := ok_b0.take (by decide) al_f1 (by decide) (by decide)
theorem ok_a3 : al_a3.Ok 65 := ok_a1.outS.take (by decide) al_g1 (by decide) (by decide)

theorem below_step {w w1 w2 : World} {own : Nat → Nat} {i : Nat} (h : Below w.heap.size w w1) (hk : KeptF (fun k => own k = i) w1 w2) (h0 : ∀ k, k < w.heap.size → own k ≠ i) : Below w.heap.size w w2 :=
  h.trans (hk.below h.size h0)
theorem newOwn_old {own : Nat → Nat} {B i n : Nat} (hB : n ≤ B) (h : ∀ k, k < n → own k = 0) : ∀ k, k < n → newOwn own B i k = 0 := fun k hk => by
  simp only [newOwn, if_pos (Nat.lt_of_lt_of_le hk hB)]
  exact h k hk

/-- Two sessions; what lies below n is nobody's. -/
structure Pair (own : Nat → Nat) (w0 : World) (A B : Nat) (sa sb : Se) (w : World) : Prop where
  old : ∀ k, k < w0.heap.size → own k = 0
  a : SSI A sa (fun k => own k = 1) w
  b : SSI B sb (fun k => own k = 2) w
  below : Below w0.heap.size w0 w

theorem Pair.stepA {own : Nat → Nat} {w0 w w' : World} {A B : Nat} {sa sb sa' : Se} {G : Nat → Prop} (h : Pair own w0 A B sa sb w) (hk : KeptF (fun k => own k = 1) w w') (hs : SS G A sa' w') (hG : ∀ k, G k → own k = 1 ∨ w.heap.size ≤ k) : Pair (newOwn own w.heap.size 1) w0 A B sa' sb w' :=
  ⟨newOwn_old h.below.size h.old, keep_self (keeps_SS A sa') hs hG, keep_other (keeps_SS B sb) h.b hk (by decide), below_step h.below hk (fun k hk => by rw [h.old k hk]; decide)⟩
theorem Pair.stepB {own : Nat → Nat} {w0 w w' : World} {A B : Nat} {sa sb sb' : Se} {G : Nat → Prop} (h : Pair own w0 A B sa sb w) (hk : KeptF (fun k => own k = 2) w w') (hs : SS G B sb' w') (hG : ∀ k, G k → own k = 2 ∨ w.heap.size ≤ k) : Pair (newOwn own w.heap.size 2) w0 A B sa sb' w' :=
  ⟨newOwn_old h.below.size h.old, keep_other (keeps_SS A sa) h.a hk (by decide), keep_self (keeps_SS B sb') hs hG, below_step h.below hk (fun k hk => by rw [h.old k hk]; decide)⟩
theorem Pair.drew {own : Nat → Nat} {w0 w : World} {A B : Nat} {sa sb : Se} (h : Pair own w0 A B sa sb w) : Pair own w0 A B sa sb w.drew :=
  ⟨h.old, keep_drew (keeps_SS A sa) h.a, keep_drew (keeps_SS B sb) h.b, h.below.drew⟩

theorem pair_new {w w1 w2 : World} {A B : Nat} {a b : Se} (ha : SS (fun k => w.heap.size ≤ k) A a w1) (h1 : Below w.heap.size w w1) (hb : SS (fun k => w1.heap.size ≤ k) B b w2) (h2 : Below w1.heap.size w1 w2) :
    Pair (fun k => if k < w.heap.size then 0 else if k < w1.heap.size then 1 else 2) w A B a b w2 := by
  have hz := h1.size
  refine ⟨fun k hk => if_pos hk, ha.keep (fun k hk hlt => ⟨h2.block k hlt, ?_⟩), hb.keep (fun k hk hlt => ⟨rfl, ?_⟩), bl h1 h2⟩
  · show (if k < w.heap.size then 0 else if k < w1.heap.size then 1 else 2) = 1
    rw [if_neg (by omega), if_pos hlt]
  · show (if k < w.heap.size then 0 else if k < w1.heap.size then 1 else 2) = 2
    rw [if_neg (by omega), if_neg (by omega)]

set_option maxRecDepth 100000 in
set_option maxHeartbeats 1000000 in
theorem alive15_calls (w : World) : Calls Tryd.prog 54 #[] w fun r w' => r = .returned (.bool true) ∧ Below w.heap.size w w' := by
  go_enter Tryd.func54, Tryd.ntmps54
  go_wp2_with fail
  refine (sessNew_calls 1 2 1 _).mono ?_
  rintro e w1 ⟨A, hA, rfl, hs1, hb1⟩
  go_wp2_with fail
  refine (sessNew_calls 2 1 1 _).mono ?_
  rintro e w2 ⟨B, hB, rfl, hs2, hb2⟩
  have HP := Lib.hid (pair_new hs1 hb1 hs2 hb2)
  clear hs1 hb1 hs2 hb2
  go_wp2_with fail
  refine (sendS_calls _ A (Se.fresh 1 2 1) ⟨#[120]⟩ _ HP.out.a (by decide) ok_a0 (by decide)).mono ?_
  rintro e w3 ⟨rfl, hs3, hk3⟩
  have HP3 := Lib.hid (HP.out.stepA hk3 hs3 (fun k hk => hk))
  clear hs3 hk3 HP
  rw [show ((Se.fresh 1 2 1).send ⟨#[120]⟩).1 = 0 from rfl]
  go_wp2_with fail
  refine (sessOut_calls _ A al_a1 _ HP3.out.a (by decide) ok_a1).mono ?_
  rintro e w4 ⟨v, rfl, hr4, hv4, hs4, hk4⟩
  have HP4 := Lib.hid (HP3.out.stepA hk4 hs4 (fun k hk => .inl hk))
  clear hs4 hk4 HP3
  rw [al_1] at hr4
  obtain ⟨g4, c4, rfl, hg4, x0, x1, x2, x3, x4, x5, x6, x7⟩ := frow_at hr4 0 (by decide)
  clear hr4 hv4
  simp only [List.getElem_cons_zero, Nat.zero_mul, Nat.zero_add, List.length_singleton, al_f1, tX] at x0 x1 x2 x3 x4 x5 x6 x7
  go_wp2_with fail
  refine (sessTake_calls _ B (Se.fresh 2 1 1) al_f1 _ HP4.out.b (N := 64) (by decide) (by decide) ok_b0 (by decide) (by decide)).mono ?_
  rintro e w5 ⟨v5, rfl, hr5, hv5, hc5, G5, hG5, hs5, hk5⟩
  have HP5 := Lib.hid (HP4.out.stepB hk5 hs5 (fun k hk => (hG5 k hk).1))
  clear hs5 hk5 HP4 hv5 hc5 hG5 x0 x1 x2 x3 x4 x5 x6 x7
  rw [al_2] at hr5
  rw [al_2]
  obtain ⟨A5, c5, rfl⟩ := own_slice _ hr5
  clear hr5
  simp only [List.length_nil]
  go_wp2_with fail
  refine (sessOut_calls _ B al_b1 _ HP5.out.b (by decide) ok_b1).mono ?_
  rintro e w6 ⟨v6, rfl, hr6, hv6, hs6, hk6⟩
  have HP6 := Lib.hid (HP5.out.stepB hk6 hs6 (fun k hk => .inl hk))
  clear hs6 hk6 HP5
  rw [al_3] at hr6
  obtain ⟨g6, c6, rfl, hg6, x0, x1, x2, x3, x4, x5, x6, x7⟩ := frow_at hr6 0 (by decide)
  clear hr6 hv6
  simp only [List.getElem_cons_zero, Nat.zero_mul, Nat.zero_add, List.length_singleton, al_g1] at x0 x1 x2 x3 x4 x5 x6 x7
  go_wp2_with fail
  refine (sessTake_calls _ A al_a1.outS al_g1 _ HP6.out.a (N := 65) (by decide) (by decide) ok_a1.outS (by decide) (by decide)).mono ?_
  rintro e w7 ⟨v7, rfl, hr7, hv7, hc7, G7, hG7, hs7, hk7⟩
  have HP7 := Lib.hid (HP6.out.stepA hk7 hs7 (fun k hk => (hG7 k hk).1))
  clear hs7 hk7 HP6 hv7 hc7 hG7 x0 x1 x2 x3 x4 x5 x6 x7
  rw [al_4] at hr7
  rw [al_4]
  obtain ⟨A7, c7, rfl⟩ := own_slice _ hr7
  clear hr7
  go_wp2_with fail
  refine (sessOut_calls _ A al_a3 _ HP7.out.a (by decide) ok_a3).mono ?_
  rintro e w8 ⟨v8, rfl, hr8, hv8, hs8, hk8⟩
  have HP8 := Lib.hid (HP7.out.stepA hk8 hs8 (fun k hk => .inl hk))
  clear hs8 hk8 HP7
  rw [al_5] at hr8
  obtain ⟨g8, c8, rfl, hg8, x0, x1, x2, x3, x4, x5, x6, x7⟩ := frow_at hr8 0 (by decide)
  clear hr8 hv8
  simp only [List.getElem_cons_zero, Nat.zero_mul, Nat.zero_add, List.length_singleton, al_f3, tX] at x0 x1 x2 x3 x4 x5 x6 x7
  go_wp2_with fail
  refine (sessTake_calls _ B al_b1.outS al_f3 _ HP8.out.b (N := 64) (by decide) (by decide) ok_b1.outS (by decide) (by decide)).mono ?_
  rintro e w9 ⟨v9, rfl, hr9, hv9, hc9, G9, hG9, hs9, hk9⟩
  have HP9 := Lib.hid (HP8.out.stepB hk9 hs9 (fun k hk => (hG9 k hk).1))
  clear hs9 hk9 HP8 hv9 hc9 hG9 x0 x1 x2 x3 x4 x5 x6 x7
  rw [al_6] at hr9
  rw [al_6]
  obtain ⟨g9, c9, rfl, hg9, y0⟩ := srow_at hr9 0 (by decide)
  clear hr9
  simp only [List.getElem_cons_zero, List.length_singleton, tX] at y0
  go_wp2
  go_ret
  exact ⟨rfl, HP9.out.below⟩

end Go.Proofs.YtpbmclaglkcmoaaDoor
