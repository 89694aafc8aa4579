import Derived.Test.YtpbmclaglkcmoaaDoorSrcs
import Derived.Test.YtpbmclaglkcmoaaDoorProg
import Derived.Test.YtpbmclaglkcmoaaDoorSessM
import Derived.Deep.AppendLies
import Derived.Deep.RegionHeld3
import Derived.Deep.RegionLaw
import Derived.KernelRfl
namespace Go.Proofs.YtpbmclaglkcmoaaDoor
open Go.RowKit
set_option linter.unusedVariables false
set_option linter.unusedSimpArgs false

/-! ring.Ring of waiting messages. -/
def wtC : List Wt → List Value
  | [] => []
  | x :: l => .int .i64 x.seq :: .string x.data :: .bool x.sent :: .int .i64 x.age :: wtC l
theorem wtC_append : ∀ (l m : List Wt), wtC (l ++ m) = wtC l ++ wtC m
  | [], m => rfl
  | x :: l, m => by simp [wtC, wtC_append l m]
theorem wtC_length : ∀ l : List Wt, (wtC l).length = l.length * 4
  | [] => rfl
  | x :: l => by simp [wtC, wtC_length l]; omega
theorem wtC_drop : ∀ (k : Nat) (l : List Wt), wtC (l.drop k) = (wtC l).drop (k * 4)
  | 0, l => by simp
  | k + 1, [] => by simp [wtC]
  | k + 1, x :: l => by
    rw [show (k + 1) * 4 = k * 4 + 4 by omega]
    simpa [wtC] using wtC_drop k l
theorem wtC_get : ∀ (l : List Wt) (j : Nat) (h : j < l.length), (wtC l)[j * 4]? = some (.int .i64 l[j].seq) ∧ (wtC l)[j * 4 + 1]? = some (.string l[j].data) ∧ (wtC l)[j * 4 + 2]? = some (.bool l[j].sent) ∧ (wtC l)[j * 4 + 3]? = some (.int .i64 l[j].age)
  | [], j, h => absurd h (Nat.not_lt_zero _)
  | x :: l, 0, h => ⟨rfl, rfl, rfl, rfl⟩
  | x :: l, j + 1, h => by
    have := wtC_get l j (by simpa using h)
    rw [show (j + 1) * 4 = j * 4 + 4 by omega]
    simpa [wtC] using this

theorem KeptF.drewN {F : Nat → Prop} {a w : World} (h : KeptF F a w) (m : Nat) : KeptF F a (w.drewN m) := ⟨h.os, h.tape, h.output, h.size, h.block⟩

/-- A ring at block R holds l; its blocks are of F. -/
def Rg (F : Nat → Prop) (R : Nat) (l : List Wt) (w : World) : Prop :=
  ∃ v, F R ∧ w.heap[R]? = some (.cells #[v, .int .i64 64] 153 (0, 0)) ∧ w.ownsRow 0 130 4 v l.length (wtC l) ∧ ∀ k, v.ownBlock = some k → F k

theorem Rg.head {F : Nat → Prop} {R : Nat} {l : List Wt} {w : World} (h : Rg F R l w) : ∃ A c, w.cell? ⟨R, 0, none⟩ = some (.slice A l.length c) ∧ w.cell? ⟨R, 1, none⟩ = some (.int .i64 64) := by
  obtain ⟨v, h1, hb, ho, hF⟩ := h
  obtain ⟨A, c, rfl⟩ := own_slice w ho
  exact ⟨A, c, by rw [Lib.cell_of_heap hb]; rfl, by rw [Lib.cell_of_heap hb]; rfl⟩

set_option maxRecDepth 100000 in
theorem ringLen_calls (F : Nat → Prop) (R : Nat) (l : List Wt) (w : World) (h : Rg F R l w) :
    Calls Tryd.prog 113 #[.pointer (some ⟨R, 0, none⟩)] w fun r w' => r = .returned (.int .i64 l.length) ∧ w = w' := by
  obtain ⟨A, c, c0, c1⟩ := h.head
  clear h
  go_enter Tryd.func113, Tryd.ntmps113
  go_wp2
  go_ret
  exact ⟨rfl, rfl⟩

set_option maxRecDepth 100000 in
theorem ringRoom_calls (F : Nat → Prop) (R : Nat) (l : List Wt) (w : World) (h : Rg F R l w) (hl : l.length ≤ 64) :
    Calls Tryd.prog 95 #[.pointer (some ⟨R, 0, none⟩)] w fun r w' => r = .returned (.int .i64 (64 - l.length)) ∧ ∃ m, w' = w.drewN m := by
  obtain ⟨A, c, c0, c1⟩ := h.head
  clear h
  have hl1 : (l.length : Int) ≤ 64 := by omega
  have hl0 : (0 : Int) ≤ (l.length : Int) := Int.natCast_nonneg _
  have hw : IntKind.i64.wrap (64 - (l.length : Int)) = 64 - l.length := IntWalk.i64_in _ (by omega)
  go_enter Tryd.func95, Tryd.ntmps95
  go_wp2_with fail
  go_region_held3 (fun w' => w'.cell? ⟨R, 0, none⟩ = some (.slice A l.length c) ∧ w'.cell? ⟨R, 1, none⟩ = some (.int .i64 64)) (go_keep) (fail)
  go_wp2
  go_ret
  exact ⟨rfl, 1, rfl⟩

theorem room_calls (w : World) : Calls Tryd.prog 112 #[.int .i64 64] w fun r w' => r = .returned (.int .i64 64) ∧ w = w' := by
  go_enter Tryd.func112, Tryd.ntmps112
  go_wp2
  go_ret
  exact ⟨rfl, rfl⟩

theorem ringNew_calls (w : World) : Calls Tryd.prog 93 #[.int .i64 64] w fun r w' => r = .returned (.pointer (some ⟨w.heap.size, 0, none⟩)) ∧ w' = w.alloc (.cells #[.slice none 0 0, .int .i64 64] 153) := by
  go_enter Tryd.func93, Tryd.ntmps93
  go_wp2_with ((with_reducible refine (room_calls _).mono ?_); rintro e w1 ⟨rfl, rfl⟩)
  go_ret
  exact ⟨rfl, rfl⟩

theorem Rg.fresh (w : World) (F : Nat → Prop) (hF : F w.heap.size) : Rg F w.heap.size [] (w.alloc (.cells #[.slice none 0 0, .int .i64 64] 153)) :=
  ⟨.slice none 0 0, hF, heap_alloc_new w _, World.ownsRow_nil _ _ _ _, by simp [Value.ownBlock]⟩

theorem Rg.keep {F G : Nat → Prop} {R : Nat} {l : List Wt} {w w' : World} (h : Rg F R l w) (hk : ∀ k, F k → k < w.heap.size → w'.heap[k]? = w.heap[k]? ∧ G k) : Rg G R l w' := by
  obtain ⟨v, h1, hb, ho, hF⟩ := h
  have hlt := lt_of_heap hb
  refine ⟨v, (hk R h1 hlt).2, (hk R h1 hlt).1.trans hb, ownsRow_keep ho (fun k e => (hk k (hF k e) (ho.lt k e).2).1), fun k e => (hk k (hF k e) (ho.lt k e).2).2⟩

def Wt.v (x : Wt) : Value := .agg #[.int .i64 x.seq, .string x.data, .bool x.sent, .int .i64 x.age]
def Wt.zero : Wt := ⟨0, ⟨#[]⟩, false, 0⟩

theorem Rg.cells {F : Nat → Prop} {R : Nat} {l : List Wt} {w : World} (h : Rg F R l w) (j : Nat) (hj : j < l.length) : ∃ g c, R < w.heap.size ∧ g < w.heap.size ∧ l.length ≤ c ∧ g ≠ R ∧ F R ∧ F g ∧ w.ownsRow 0 130 4 (.slice (some ⟨g, 0, none⟩) l.length c) l.length (wtC l) ∧ w.heap[R]? = some (.cells #[.slice (some ⟨g, 0, none⟩) l.length c, .int .i64 64] 153 (0, 0)) ∧ w.cell? ⟨R, 0, none⟩ = some (.slice (some ⟨g, 0, none⟩) l.length c) ∧
    w.cell? ⟨g, j * 4, none⟩ = some (.int .i64 l[j].seq) ∧ w.cell? ⟨g, j * 4 + 1, none⟩ = some (.string l[j].data) ∧ w.cell? ⟨g, j * 4 + 2, none⟩ = some (.bool l[j].sent) ∧ w.cell? ⟨g, j * 4 + 3, none⟩ = some (.int .i64 l[j].age) := by
  obtain ⟨v, h1, hb, ho, hF⟩ := h
  have ho' := ho
  obtain ⟨_, ⟨rfl, hn0⟩ | ⟨g, cap, cur, rfl, _, hh, hnc, hcm, hcs, _⟩⟩ := ho'
  · rw [hn0] at hj
    cases hj
  · obtain ⟨g0, g1, g2, g3⟩ := wtC_get l j hj
    have hc := ho.cells (g := g) rfl
    simp only [Addr.add_mid, Nat.zero_add] at hc
    refine ⟨g, cap, lt_of_heap hb, lt_of_heap hh, hnc, ?_, h1, hF g rfl, ho, hb, by rw [Lib.cell_of_heap hb]; rfl, hc _ _ g0, hc _ _ g1, hc _ _ g2, hc _ _ g3⟩
    rintro rfl
    rw [hb] at hh
    simp at hh

set_option maxRecDepth 100000 in
theorem ringPeek_some (F : Nat → Prop) (R : Nat) (x : Wt) (l : List Wt) (w : World) (h : Rg F R (x :: l) w) :
    Calls Tryd.prog 101 #[.pointer (some ⟨R, 0, none⟩), .int .i64 0] w fun r w' => r = .returned (.tuple #[.agg #[.int .i64 x.seq, .string x.data, .bool x.sent, .int .i64 x.age], .bool true]) ∧ Below w.heap.size w w' := by
  obtain ⟨g, cap, hR, hg, _, _, _, _, _, _, c0, d0, d1, d2, d3⟩ := h.cells 0 (by simp)
  simp only [List.getElem_cons_zero, Nat.zero_mul, Nat.zero_add] at d0 d1 d2 d3
  have hlen : (0 : Int) < ((x :: l).length : Int) := by simp only [List.length_cons]; omega
  have hlen2 : 0 < (x :: l).length := by simp
  have hge : decide ((x :: l).length = 0) = false := by simp
  have HH := Lib.hid h
  clear h
  generalize hn : (x :: l).length = n at *
  have Hn := Lib.hid hn
  clear hn
  go_enter Tryd.func101, Tryd.ntmps101
  go_wp2_with fail
  refine (ringLen_calls F R (x :: l) _ ?_).mono ?_
  · exact HH.out.keep (fun k hk hlt => ⟨Below.heap_alloc _ _ _ hlt, hk⟩)
  rintro e w1 ⟨rfl, rfl⟩
  rw [Hn.out]
  go_wp2
  exact bodyPost_ret (v := .tuple #[.agg #[.int .i64 x.seq, .string x.data, .bool x.sent, .int .i64 x.age], .bool true]) (by simp [results, Tryd.results101, go_sem, Wt.v]) rfl ⟨rfl, al (Below.refl _ _) _⟩

set_option maxRecDepth 100000 in
theorem ringPeek_none (F : Nat → Prop) (R : Nat) (w : World) (h : Rg F R [] w) :
    Calls Tryd.prog 101 #[.pointer (some ⟨R, 0, none⟩), .int .i64 0] w fun r w' => r = .returned (.tuple #[Wt.zero.v, .bool false]) ∧ Below w.heap.size w w' := by
  have HH := Lib.hid h
  clear h
  go_enter Tryd.func101, Tryd.ntmps101
  go_wp2_with fail
  refine (ringLen_calls F R [] _ ?_).mono ?_
  · exact HH.out.keep (fun k hk hlt => ⟨Below.heap_alloc _ _ _ hlt, hk⟩)
  rintro e w1 ⟨rfl, rfl⟩
  go_wp2
  exact bodyPost_ret (v := .tuple #[Wt.zero.v, .bool false]) (by simp [results, Tryd.results101, go_sem, Wt.v, Wt.zero]) rfl ⟨rfl, al (al (Below.refl _ _) _) _⟩

theorem Tryd.info83w : (Tryd.prog.info? 130).map (fun i => (i.zero, i.size, i.bytes)) = some (some Wt.zero.v, 4, 40) := by kernel_rfl

theorem Rg.put {F : Nat → Prop} {R : Nat} {l : List Wt} {w1 : World} {v v' : Value} (hF : F R) (hb : w1.heap[R]? = some (.cells #[v, .int .i64 64] 153 (0, 0)))
    (ho : w1.ownsRow 0 130 4 v' l.length (wtC l)) (hk : ∀ k, v'.ownBlock = some k → F k) (hne : v'.ownBlock ≠ some R) : Rg F R l (w1.setCell ⟨R, 0, none⟩ v') := by
  refine ⟨v', hF, ?_, ownsRow_keep ho (fun k e => Below.heap_setCell _ _ _ _ (fun e' => hne (by rw [e]; exact congrArg some e'))), hk⟩
  rw [heap_setCell_same _ _ _ _ _ _ hb]
  rfl

theorem wtC_one : ∀ (l : List Wt), ∀ u ∈ wtC l, u.oneCell' = true
  | [], u, h => by cases h
  | x :: l, u, h => by
    simp only [wtC, List.mem_cons] at h
    rcases h with rfl | rfl | rfl | rfl | h
    · rfl
    · rfl
    · rfl
    · rfl
    · exact wtC_one l u h

set_option maxRecDepth 100000 in
theorem ringDrop_some (F : Nat → Prop) (R k : Nat) (l : List Wt) (w : World) (h : Rg F R l w) (h0 : 0 < k) (hk : k ≤ l.length) (hl : l.length ≤ 64) :
    Calls Tryd.prog 115 #[.pointer (some ⟨R, 0, none⟩), .int .i64 k] w fun r w' => r = .returned (.int .i64 k) ∧ Rg (fun j => F j ∨ w.heap.size ≤ j) R (l.drop k) w' ∧ KeptF F w w' := by
  obtain ⟨g, cap, hR, hg, hnc, hgR, hFR, hFg, ho, hb, c0, d0, d1, d2, d3⟩ := h.cells 0 (by omega)
  have f0 : w.frozen? ⟨R, 0, none⟩ = false := Lib.frozen_of_heap hb 0
  clear d0 d1 d2 d3
  have hsrc : ∀ x, x = (if cap = k then Value.slice (some ⟨g, 0, none⟩) 0 0 else .slice (some ⟨g, k * 4, none⟩) (l.length - k) (cap - k)) → SrcV w 4 x (l.length - k) (wtC (l.drop k)) := by
    rintro x rfl
    refine ⟨by rw [wtC_length, List.length_drop], ?_⟩
    by_cases hc : cap = k
    · rw [if_pos hc]
      have : l.length - k = 0 := by omega
      rw [this]
      refine .inr ⟨_, 0, rfl, ?_⟩
      intro j u hu
      have : l.drop k = [] := List.drop_eq_nil_of_le (by omega)
      rw [this] at hu
      simp [wtC] at hu
    · rw [if_neg hc]
      refine .inr ⟨_, cap - k, rfl, ?_⟩
      intro j u hu
      rw [wtC_drop, List.getElem?_drop] at hu
      have := ho.cells (g := g) rfl _ u hu
      simpa only [Addr.add_mid, Nat.zero_add] using this
  have HS := Lib.hid hsrc
  have HO := Lib.hid ho
  have HB := Lib.hid hb
  have HH := Lib.hid h
  clear h hsrc ho hb
  generalize hn : l.length = n at *
  have Hn := Lib.hid hn
  clear hn
  obtain ⟨i0, hi, hz0, hz1, hz2⟩ := info_parts Tryd.info83w
  by_cases hkc : cap = k
  · obtain rfl : cap = k := hkc
    obtain rfl : n = cap := by omega
    go_enter Tryd.func115, Tryd.ntmps115
    go_wp2_with fail
    refine (ringLen_calls F R l _ HH.out).mono ?_
    rintro e w1 ⟨rfl, rfl⟩
    rw [Hn.out]
    go_wp2_with (at_builtin; refine wpList_append_src _ rfl (.const (.slice none 0 0)) (.tmp 18) 135 rfl 130 i0 Wt.zero.v 4 40 Tryd.underlying135 hi hz0 hz1 hz2 rfl (by decide) (.slice none 0 0) 0 [] rfl (World.ownsRow_nil _ _ _ _) (.slice (some ⟨g, 0, none⟩) 0 0) (n - n) (wtC (l.drop n)) rfl ?c1 (wtC_one _) ?c2 ?c3 ?_)
    case c1 => exact HS.out _ (by simp)
    case c2 => unfold maxLen; omega
    case c3 => omega
    intro v' w2 ho2 hg2 hw2
    have hb2 : w2.heap[R]? = some (.cells #[.slice (some ⟨g, 0, none⟩) n n, .int .i64 64] 153 (0, 0)) := by
      rw [hg2.block R hR (by simp [Value.ownBlock])]
      exact HB.out
    have d0 : w2.cell? ⟨R, 0, none⟩ = some (.slice (some ⟨g, 0, none⟩) n n) := by rw [Lib.cell_of_heap hb2]; rfl
    have e0 : w2.frozen? ⟨R, 0, none⟩ = false := Lib.frozen_of_heap hb2 0
    obtain ⟨A', c', rfl⟩ := own_slice w2 ho2
    have hne : (Value.slice A' 0 c').ownBlock ≠ some R := fun e => by
      have := hw2 R e
      simp [Value.ownBlock] at this
      omega
    have HB2 := Lib.hid hb2
    have HO2 := Lib.hid ho2
    have HG2 := Lib.hid hg2
    have HW2 := Lib.hid hw2
    have HN := Lib.hid hne
    clear hb2 ho2 hg2 hw2 hne
    go_wp2
    go_ret
    refine ⟨rfl, Rg.put (.inl hFR) HB2.out ?_ ?_ HN.out, ?_⟩
    · have := HO2.out
      rw [List.length_drop, Hn.out]
      simpa using this
    · intro j e
      have := HW2.out j e
      simp only [Value.ownBlock, reduceCtorEq, false_or] at this
      exact .inr this
    · exact (KeptF.grown (KeptF.refl _ _) HG2.out (by simp [Value.ownBlock])).setCell (.inl hFR) _
  · go_enter Tryd.func115, Tryd.ntmps115
    go_wp2_with fail
    refine (ringLen_calls F R l _ HH.out).mono ?_
    rintro e w1 ⟨rfl, rfl⟩
    rw [Hn.out]
    go_wp2_with (at_builtin; refine wpList_append_src _ rfl (.const (.slice none 0 0)) (.tmp 18) 135 rfl 130 i0 Wt.zero.v 4 40 Tryd.underlying135 hi hz0 hz1 hz2 rfl (by decide) (.slice none 0 0) 0 [] rfl (World.ownsRow_nil _ _ _ _) (.slice (some ⟨g, k * 4, none⟩) (n - k) (cap - k)) (n - k) (wtC (l.drop k)) rfl ?c4 (wtC_one _) ?c5 ?c6 ?_)
    case c4 => exact HS.out _ (by rw [if_neg hkc])
    case c5 => unfold maxLen; omega
    case c6 => omega
    intro v' w2 ho2 hg2 hw2
    have hb2 : w2.heap[R]? = some (.cells #[.slice (some ⟨g, 0, none⟩) n cap, .int .i64 64] 153 (0, 0)) := by
      rw [hg2.block R hR (by simp [Value.ownBlock])]
      exact HB.out
    have d0 : w2.cell? ⟨R, 0, none⟩ = some (.slice (some ⟨g, 0, none⟩) n cap) := by rw [Lib.cell_of_heap hb2]; rfl
    have e0 : w2.frozen? ⟨R, 0, none⟩ = false := Lib.frozen_of_heap hb2 0
    obtain ⟨A', c', rfl⟩ := own_slice w2 ho2
    have hne : (Value.slice A' (n - k) c').ownBlock ≠ some R := fun e => by
      have := hw2 R e
      simp [Value.ownBlock] at this
      omega
    have HB2 := Lib.hid hb2
    have HO2 := Lib.hid ho2
    have HG2 := Lib.hid hg2
    have HW2 := Lib.hid hw2
    have HN := Lib.hid hne
    clear hb2 ho2 hg2 hw2 hne
    go_wp2
    go_ret
    refine ⟨rfl, Rg.put (.inl hFR) HB2.out ?_ ?_ HN.out, ?_⟩
    · have := HO2.out
      rw [List.length_drop, Hn.out]
      simpa using this
    · intro j e
      have := HW2.out j e
      simp only [Value.ownBlock, reduceCtorEq, false_or] at this
      exact .inr this
    · exact (KeptF.grown (KeptF.refl _ _) HG2.out (by simp [Value.ownBlock])).setCell (.inl hFR) _

set_option maxRecDepth 100000 in
theorem ringDrop_none (F : Nat → Prop) (R : Nat) (l : List Wt) (w : World) (h : Rg F R l w) :
    Calls Tryd.prog 115 #[.pointer (some ⟨R, 0, none⟩), .int .i64 0] w fun r w' => r = .returned (.int .i64 0) ∧ w = w' := by
  have HH := Lib.hid h
  clear h
  generalize hn : l.length = n at *
  have Hn := Lib.hid hn
  clear hn
  have h0n : (0 : Int) ≤ (n : Int) := Int.natCast_nonneg _
  go_enter Tryd.func115, Tryd.ntmps115
  go_wp2_with fail
  refine (ringLen_calls F R l _ HH.out).mono ?_
  rintro e w1 ⟨rfl, rfl⟩
  rw [Hn.out]
  go_wp2
  go_ret
  exact ⟨rfl, rfl⟩

/-- Drop. -/
theorem ringDrop_calls (F : Nat → Prop) (R k : Nat) (l : List Wt) (w : World) (h : Rg F R l w) (hk : k ≤ l.length) (hl : l.length ≤ 64) :
    Calls Tryd.prog 115 #[.pointer (some ⟨R, 0, none⟩), .int .i64 k] w fun r w' => (∃ n, r = .returned (.int .i64 n)) ∧ Rg (fun j => F j ∨ w.heap.size ≤ j) R (l.drop k) w' ∧ KeptF F w w' := by
  by_cases h0 : 0 < k
  · refine (ringDrop_some F R k l w h h0 hk hl).mono ?_
    rintro e w' ⟨rfl, h1, h2⟩
    exact ⟨⟨_, rfl⟩, h1, h2⟩
  · have : k = 0 := by omega
    subst this
    refine (ringDrop_none F R l w h).mono ?_
    rintro e w' ⟨rfl, rfl⟩
    exact ⟨⟨_, rfl⟩, h.keep (fun k hk _ => ⟨rfl, .inl hk⟩), KeptF.refl _ _⟩

theorem ringDrop_one (F : Nat → Prop) (R : Nat) (x : Wt) (l : List Wt) (w : World) (h : Rg F R (x :: l) w) (hl : l.length < 64) :
    Calls Tryd.prog 115 #[.pointer (some ⟨R, 0, none⟩), .int .i64 1] w fun r w' => (∃ n, r = .returned (.int .i64 n)) ∧ Rg (fun j => F j ∨ w.heap.size ≤ j) R l w' ∧ KeptF F w w' :=
  ringDrop_calls F R 1 (x :: l) w h (by simp) (by simp only [List.length_cons]; omega)

theorem ringClear_calls (F : Nat → Prop) (R : Nat) (l : List Wt) (w : World) (h : Rg F R l w) (hl : l.length ≤ 64) :
    Calls Tryd.prog 114 #[.pointer (some ⟨R, 0, none⟩)] w fun r w' => (∃ n, r = .returned (.int .i64 n)) ∧ Rg (fun j => F j ∨ w.heap.size ≤ j) R [] w' ∧ KeptF F w w' := by
  have HH := Lib.hid h
  clear h
  go_enter Tryd.func114, Tryd.ntmps114
  go_wp2_with fail
  refine (ringLen_calls F R l _ HH.out).mono ?_
  rintro e w1 ⟨rfl, rfl⟩
  go_wp2_with fail
  refine (ringDrop_calls F R l.length l _ HH.out (Nat.le_refl _) hl).mono ?_
  rintro e w1 ⟨⟨n, rfl⟩, h1, h2⟩
  rw [List.drop_length] at h1
  have H1 := Lib.hid h1
  have H2 := Lib.hid h2
  clear h1 h2
  go_wp2
  go_ret
  exact ⟨⟨_, rfl⟩, H1.out, H2.out⟩

theorem bcell {W w1 : World} (hb : Below W.heap.size W w1) : (∀ b o, b < W.heap.size → w1.cell? ⟨b, o, none⟩ = W.cell? ⟨b, o, none⟩) ∧ (∀ b o, b < W.heap.size → w1.frozen? ⟨b, o, none⟩ = W.frozen? ⟨b, o, none⟩) :=
  ⟨fun b o h => hb.cell (p := ⟨b, o, none⟩) h, fun b o h => hb.frozen (p := ⟨b, o, none⟩) h⟩

theorem Rg.low {F : Nat → Prop} {R : Nat} {l : List Wt} {w : World} (h : Rg F R l w) : Rg (fun k => F k ∧ k < w.heap.size) R l w := h.keep (fun k hk hlt => ⟨rfl, hk, hlt⟩)

set_option maxRecDepth 100000 in
theorem ringPop_calls (F : Nat → Prop) (R : Nat) (x : Wt) (l : List Wt) (w : World) (h : Rg F R (x :: l) w) (hl : l.length < 64) :
    Calls Tryd.prog 102 #[.pointer (some ⟨R, 0, none⟩)] w fun r w' => (∃ v, r = .returned v) ∧ Rg (fun j => F j ∨ w.heap.size ≤ j) R l w' ∧ KeptF F w w' := by
  have HH := Lib.hid h.low
  clear h
  go_enter Tryd.func102, Tryd.ntmps102
  go_wp2_with fail
  have h1 : Rg (fun k => F k ∧ k < w.heap.size) R (x :: l) (w.alloc (Obj.cells #[Value.int IntKind.i64 0, Value.string ⟨#[]⟩, Value.bool false, Value.int IntKind.i64 0] 130)) := HH.out.keep (fun k hk hlt => ⟨Below.heap_alloc _ _ _ hlt, hk⟩)
  have H1 := Lib.hid h1
  clear h1
  refine (ringPeek_some _ R x l _ H1.out).mono ?_
  rintro e w1 ⟨rfl, hb1⟩
  obtain ⟨hc, hf⟩ := bcell hb1
  have hz : w.heap.size < w1.heap.size := by have := hb1.size; simp at this; omega
  have HB1 := Lib.hid hb1
  go_wp2_with fail
  have hr : Rg (fun k => F k ∧ k < w.heap.size) R (x :: l) (w1.alloc (Obj.cells #[Value.int IntKind.i64 x.seq, Value.string x.data, Value.bool x.sent, Value.int IntKind.i64 x.age] 130)) := by
    refine H1.out.keep (fun k hk hlt => ⟨?_, hk⟩)
    rw [Below.heap_alloc _ _ _ (by omega)]
    exact hb1.block k hlt
  clear hb1
  refine (ringDrop_one _ R x l _ hr hl).mono ?_
  rintro e w2 ⟨⟨n, rfl⟩, h2, k2⟩
  have n1 : w2.heap[w1.heap.size]? = some (Obj.cells #[Value.int IntKind.i64 x.seq, Value.string x.data, Value.bool x.sent, Value.int IntKind.i64 x.age] 130 (0, 0)) := by
    rw [k2.block _ (by simp) (by intro hh; have := hh.2; omega)]
    exact heap_alloc_new _ _
  have n0 : w2.heap[w.heap.size]? = some (Obj.cells #[Value.int IntKind.i64 0, Value.string ⟨#[]⟩, Value.bool false, Value.int IntKind.i64 0] 130 (0, 0)) := by
    rw [k2.block _ (by simp; omega) (by intro hh; have := hh.2; omega), Below.heap_alloc _ _ _ hz, HB1.out.block _ (by simp)]
    exact heap_alloc_new _ _
  obtain ⟨⟨a0, a1, a2, a3⟩, b0, b1, b2, b3⟩ := four_of n1
  obtain ⟨⟨q0, q1, q2, q3⟩, p0, p1, p2, p3⟩ := four_of n0
  have hz2 : w1.heap.size < w2.heap.size := by have := k2.size; simp at this; omega
  have H2 := Lib.hid h2
  have K2 := Lib.hid k2
  clear h2 k2 n1 n0 hc hf
  go_wp2
  refine bodyPost_ret (v := .tuple #[.agg #[.int .i64 x.seq, .string x.data, .bool x.sent, .int .i64 x.age], .bool true]) (by simp [results, Tryd.results102, go_sem, *]) rfl ⟨⟨_, rfl⟩, ?_, ?_⟩
  · refine H2.out.keep (fun k hk hlt => ⟨?_, ?_⟩)
    · have : k ≠ w.heap.size := by
        rintro rfl
        rcases hk with hk | hk
        · have := hk.2; omega
        · simp at hk; omega
      rw [heap_setCell_other _ _ _ _ this, heap_setCell_other _ _ _ _ this, heap_setCell_other _ _ _ _ this, heap_setCell_other _ _ _ _ this]
    · rcases hk with hk | hk
      · exact .inl hk.1
      · simp at hk; exact .inr (by omega)
  · have k0 : KeptF F w w2 := ((((KeptF.refl F w).alloc _).trans (KeptF.ofBelow HB1.out)).alloc _).trans (K2.out.mono (fun k _ hk => .inl hk.1))
    exact (((k0.setCell (.inr (Nat.le_refl _)) _).setCell (.inr (Nat.le_refl _)) _).setCell (.inr (Nat.le_refl _)) _).setCell (.inr (Nat.le_refl _)) _

set_option maxRecDepth 100000 in
theorem ringList_calls (F : Nat → Prop) (R : Nat) (l : List Wt) (w : World) (h : Rg F R l w) (hl : l.length ≤ 64) :
    Calls Tryd.prog 97 #[.pointer (some ⟨R, 0, none⟩)] w fun r w' => ∃ v, r = .returned v ∧ w'.ownsRow 0 130 4 v l.length (wtC l) ∧ (∀ k, v.ownBlock = some k → w.heap.size ≤ k) ∧ Below w.heap.size w w' := by
  obtain ⟨v, hFR, hb, ho, hF⟩ := h
  obtain ⟨A, c, rfl⟩ := own_slice w ho
  have c0 : w.cell? ⟨R, 0, none⟩ = some (.slice A l.length c) := by rw [Lib.cell_of_heap hb]; rfl
  have HO := Lib.hid ho
  clear hb ho hF
  generalize hn : l.length = n at *
  have Hn := Lib.hid hn
  clear hn
  obtain ⟨i0, hi, hz0, hz1, hz2⟩ := info_parts Tryd.info83w
  go_enter Tryd.func97, Tryd.ntmps97
  go_wp2_with (at_builtin; refine wpList_append_src _ rfl (.const (.slice none 0 0)) (.tmp 8) 135 rfl 130 i0 Wt.zero.v 4 40 Tryd.underlying135 hi hz0 hz1 hz2 rfl (by decide) (.slice none 0 0) 0 [] rfl (World.ownsRow_nil _ _ _ _) (.slice A n c) n (wtC l) rfl (SrcV.own HO.out) (wtC_one _) ?c2 ?c3 ?_)
  case c2 => unfold maxLen; omega
  case c3 => omega
  intro v' w2 ho2 hg2 hw2
  have HO2 := Lib.hid ho2
  have HG2 := Lib.hid hg2
  have HW2 := Lib.hid hw2
  clear ho2 hg2 hw2
  go_wp2
  go_ret
  refine ⟨v', rfl, by simpa using HO2.out, ?_, (Below.refl _ _).grown HG2.out (Nat.le_refl _) (by simp [Value.ownBlock])⟩
  intro k hk
  have := HW2.out k hk
  simpa [Value.ownBlock] using this

theorem wtC_set : ∀ (l : List Wt) (k : Nat) (x : Wt), wtC (l.set k x) = ((((wtC l).set (k * 4) (.int .i64 x.seq)).set (k * 4 + 1) (.string x.data)).set (k * 4 + 2) (.bool x.sent)).set (k * 4 + 3) (.int .i64 x.age)
  | [], k, x => by simp [wtC]
  | y :: l, 0, x => by simp [wtC]
  | y :: l, k + 1, x => by
    rw [show (k + 1) * 4 = k * 4 + 4 by omega]
    simp only [List.set_cons_succ, wtC, List.set_cons_succ]
    rw [wtC_set l k x]

set_option maxRecDepth 100000 in
theorem ringSet_calls (F : Nat → Prop) (R k : Nat) (x : Wt) (l : List Wt) (w : World) (h : Rg F R l w) (hk : k < l.length) (hl : l.length ≤ 64) :
    Calls Tryd.prog 99 #[.pointer (some ⟨R, 0, none⟩), .int .i64 k, .agg #[.int .i64 x.seq, .string x.data, .bool x.sent, .int .i64 x.age]] w fun r w' => r = .returned (.bool true) ∧ Rg F R (l.set k x) w' ∧ KeptF F w w' := by
  obtain ⟨q, s, t, a⟩ := x
  have hk0 : (0 : Int) ≤ (k : Int) := Int.natCast_nonneg _
  have hk1 : (k : Int) < (l.length : Int) := by omega
  have hk3 : decide (l.length ≤ k) = false := by simp only [decide_eq_false_iff_not]; omega
  have HH := Lib.hid h
  clear h
  go_enter Tryd.func99, Tryd.ntmps99
  go_wp2_with fail
  have h1 : Rg F R l (w.alloc (Obj.cells #[Value.int IntKind.i64 q, Value.string s, Value.bool t, Value.int IntKind.i64 a] 130)) := HH.out.keep (fun k hk hlt => ⟨Below.heap_alloc _ _ _ hlt, hk⟩)
  have H1 := Lib.hid h1
  clear h1
  refine (ringLen_calls F R l _ H1.out).mono ?_
  rintro e w1 ⟨rfl, rfl⟩
  go_wp2
  have hnew : (w.alloc (Obj.cells #[Value.int IntKind.i64 q, Value.string s, Value.bool t, Value.int IntKind.i64 a] 130)).heap[w.heap.size]? = some (Obj.cells #[Value.int IntKind.i64 q, Value.string s, Value.bool t, Value.int IntKind.i64 a] 130 (0, 0)) := heap_alloc_new _ _
  have hkept : KeptF F w (w.alloc (Obj.cells #[Value.int IntKind.i64 q, Value.string s, Value.bool t, Value.int IntKind.i64 a] 130)) := (KeptF.refl F w).alloc _
  obtain ⟨gh, caph, hRh, hgh, _⟩ := HH.out.cells k hk
  obtain ⟨g, cap, hR, hg, hnc, hgR, hFR, hFg, ho, hb, c0, d0, d1, d2, d3⟩ := H1.out.cells k hk
  have hgV : g ≠ w.heap.size := by
    rintro rfl
    obtain ⟨v, h1, hb', ho', hF'⟩ := HH.out
    have e1 : v = .slice (some ⟨w.heap.size, 0, none⟩) l.length cap := by
      rw [Below.heap_alloc _ _ _ (lt_of_heap hb'), hb'] at hb
      simpa using hb
    subst e1
    exact absurd (ho'.lt _ rfl).2 (Nat.lt_irrefl _)
  have hRV : R ≠ w.heap.size := by omega
  generalize hw1 : w.alloc (Obj.cells #[Value.int IntKind.i64 q, Value.string s, Value.bool t, Value.int IntKind.i64 a] 130) = w1 at *
  generalize hV : w.heap.size = V at *
  obtain ⟨⟨p0, p1, p2, p3⟩, _⟩ := four_of hnew
  have f0 := ho.frozenAt (k * 4)
  have f1 := ho.frozenAt (k * 4 + 1)
  have f2 := ho.frozenAt (k * 4 + 2)
  have f3 := ho.frozenAt (k * 4 + 3)
  have HO := Lib.hid ho
  have HB := Lib.hid hb
  have HK := Lib.hid hkept
  clear ho hb hw1 hV hnew hkept
  go_region_held3 (fun w' => w'.cell? ⟨R, 0, none⟩ = some (.slice (some ⟨g, 0, none⟩) l.length cap) ∧ w'.cell? ⟨V, 0, none⟩ = some (.int .i64 q) ∧ w'.cell? ⟨V, 1, none⟩ = some (.string s) ∧ w'.cell? ⟨V, 2, none⟩ = some (.bool t) ∧ w'.cell? ⟨V, 3, none⟩ = some (.int .i64 a)) (go_keep) (fail)
  go_wp2
  go_ret
  refine ⟨rfl, ?_, ?_⟩
  · refine ⟨.slice (some ⟨g, 0, none⟩) l.length cap, hFR, ?_, ?_, ?_⟩
    · show ((((w1.setCell _ _).setCell _ _).setCell _ _).setCell _ _).heap[R]? = _
      rw [heap_setCell_other _ _ _ _ (Ne.symm hgR), heap_setCell_other _ _ _ _ (Ne.symm hgR), heap_setCell_other _ _ _ _ (Ne.symm hgR), heap_setCell_other _ _ _ _ (Ne.symm hgR)]
      exact HB.out
    · rw [List.length_set, wtC_set]
      exact ownsRow_set (ownsRow_set (ownsRow_set (ownsRow_set HO.out _ _) _ _) _ _) _ _
    · intro j e
      cases e
      exact hFg
  · exact ((((HK.out.setCell (.inl hFg) _).setCell (.inl hFg) _).setCell (.inl hFg) _).setCell (.inl hFg) _).drew

set_option maxRecDepth 100000 in
theorem ringPush_calls (F : Nat → Prop) (R b : Nat) (x : Wt) (l : List Wt) (w : World) (h : Rg F R l w) (hl : l.length < 64) (hx : w.heap[b]? = some (.cells #[.int .i64 x.seq, .string x.data, .bool x.sent, .int .i64 x.age] 130 (0, 0))) :
    Calls Tryd.prog 96 #[.pointer (some ⟨R, 0, none⟩), .slice (some ⟨b, 0, none⟩) 1 1] w fun r w' => r = .returned (.int .i64 1) ∧ Rg (fun j => F j ∨ w.heap.size ≤ j) R (l ++ [x]) w' ∧ KeptF F w w' := by
  have HH := Lib.hid h
  obtain ⟨v, hFR, hb, ho, hF⟩ := h
  obtain ⟨A, c, rfl⟩ := own_slice w ho
  have hR := lt_of_heap hb
  have c0 : w.cell? ⟨R, 0, none⟩ = some (.slice A l.length c) := by rw [Lib.cell_of_heap hb]; rfl
  have hsrc : SrcV w 4 (.slice (some ⟨b, 0, none⟩) 1 1) 1 [.int .i64 x.seq, .string x.data, .bool x.sent, .int .i64 x.age] := by
    refine ⟨rfl, .inr ⟨_, 1, rfl, ?_⟩⟩
    intro j u hu
    obtain ⟨⟨p0, p1, p2, p3⟩, _⟩ := four_of hx
    match j, hu with
    | 0, hu => simp at hu; subst hu; simpa [Addr.add] using p0
    | 1, hu => simp at hu; subst hu; simpa [Addr.add] using p1
    | 2, hu => simp at hu; subst hu; simpa [Addr.add] using p2
    | 3, hu => simp at hu; subst hu; simpa [Addr.add] using p3
    | j + 4, hu => simp at hu
  have HO := Lib.hid ho
  have HB := Lib.hid hb
  have HF := Lib.hid hF
  have HS := Lib.hid hsrc
  clear ho hb hF hsrc hx
  have hneR : ∀ k, (Value.slice A l.length c).ownBlock = some k → k ≠ R := by
    rintro k e rfl
    exact own_ne HO.out HB.out (by decide) e
  have HNE := Lib.hid hneR
  clear hneR
  generalize hn : l.length = n at *
  have Hn := Lib.hid hn
  clear hn
  have hn0 : (0 : Int) ≤ (n : Int) := Int.natCast_nonneg _
  have hn1 : (n : Int) < 64 := by omega
  obtain ⟨i0, hi, hz0, hz1, hz2⟩ := info_parts Tryd.info83w
  go_enter Tryd.func96, Tryd.ntmps96
  go_wp2_with fail
  refine (ringRoom_calls F R l _ HH.out (by rw [Hn.out]; omega)).mono ?_
  rintro e w1 ⟨rfl, m, rfl⟩
  rw [Hn.out]
  go_wp2_with fail
  have C0 : (w.drewN m).cell? ⟨R, 0, none⟩ = some (.slice A n c) := by go_simp
  have HO1 := Lib.hid (show (w.drewN m).ownsRow 0 130 4 (Value.slice A n c) n (wtC l) from HO.out)
  go_region_law ((refine step_append_src _ (by rfl) (.tmp 17) (.tmp 20) 135 (by rfl) 130 i0 Wt.zero.v 4 40 Tryd.underlying135 hi hz0 hz1 hz2 rfl (by decide) (.slice A n c) n (wtC l) (by rfl) (by exact HO1.out) (.slice (some ⟨b, 0, none⟩) 1 1) 1 [.int .i64 x.seq, .string x.data, .bool x.sent, .int .i64 x.age] (by rfl) (by exact HS.out) (by simp [Value.oneCell']) (by unfold maxLen; omega) (by omega) ?_; intro v' w2 ho2 hg2 hw2; obtain ⟨A', c', rfl⟩ := own_slice w2 ho2; have hb2 : w2.heap[R]? = some (.cells #[.slice A n c, .int .i64 64] 153 (0, 0)) := (hg2.block R (by simpa using hR) (fun e => HNE.out R e.symm rfl)).trans HB.out; have d0 : w2.cell? ⟨R, 0, none⟩ = some (.slice A n c) := (by rw [Lib.cell_of_heap hb2]; rfl); have e0 : w2.frozen? ⟨R, 0, none⟩ = false := Lib.frozen_of_heap hb2 0; have HB2 := Lib.hid hb2; have HO2 := Lib.hid ho2; have HG2 := Lib.hid hg2; have HW2 := Lib.hid hw2; clear hb2 ho2 hg2 hw2))
  go_wp2
  go_ret
  refine ⟨rfl, ?_, ?_⟩
  · have hne : (Value.slice A' (n + 1) c').ownBlock ≠ some R := by
      intro e
      rcases HW2.out R e with e | e
      · exact HNE.out R e rfl
      · simp at e; omega
    have e1 : wtC (l ++ [x]) = wtC l ++ [.int .i64 x.seq, .string x.data, .bool x.sent, .int .i64 x.age] := wtC_append l [x]
    refine Rg.put (.inl hFR) HB2.out ?_ ?_ hne
    · rw [e1, List.length_append, Hn.out]
      exact HO2.out
    · intro j e
      rcases HW2.out j e with e | e
      · exact .inl (HF.out j e)
      · exact .inr (by simpa using e)
  · exact KeptF.setCell (KeptF.grown (KeptF.drewN (KeptF.refl _ _) _) HG2.out (fun k e => .inl (HF.out k e))) (.inl hFR) _

end Go.Proofs.YtpbmclaglkcmoaaDoor
