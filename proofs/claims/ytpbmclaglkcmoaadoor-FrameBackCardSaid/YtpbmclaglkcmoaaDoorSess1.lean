import Derived.Test.YtpbmclaglkcmoaaDoorRing
import Derived.Maps.OwnSet
import Derived.Maps.StringElems
namespace Go.Proofs.YtpbmclaglkcmoaaDoor
open Go.RowKit
set_option linter.unusedVariables false
set_option linter.unusedSimpArgs false

/-! A map from ints to texts. -/
theorem pigeon : ∀ (n : Nat) (a : Int) (l : List Int), l.Nodup → (∀ x ∈ l, a < x ∧ x ≤ a + n) → l.length ≤ n
  | 0, a, [], _, _ => Nat.le_refl _
  | 0, a, x :: l, _, h => by have := h x (by simp); omega
  | n + 1, a, l, hn, h => by
    by_cases hm : a + (n + 1) ∈ l
    · have h1 := pigeon n a (l.erase (a + (n + 1))) (hn.erase _) (fun x hx => by
        have h2 := (hn.mem_erase_iff).1 hx
        have h3 := h x h2.2
        have h4 := h2.1
        simp only [Int.natCast_add, Int.natCast_one] at h3
        omega)
      rw [List.length_erase_of_mem hm] at h1
      omega
    · have h1 := pigeon n a l hn (fun x hx => by
        have h3 := h x hx
        have : x ≠ a + (n + 1) := by rintro rfl; exact hm hx
        simp only [Int.natCast_add, Int.natCast_one] at h3
        omega)
      omega

abbrev intKey (x : Int) : Lit := .int .i64 x
noncomputable def strEl : Value → Option (DataW Unit × List MemPlace) := plainElem Tryd.prog 9
theorem intKeyed : Maps.Keyed Tryd.prog 3 := Maps.int_keyed Tryd.underlying3

/-- Block M is a map that holds m. -/
def Mp (F : Nat → Prop) (M : Nat) (m : Int → Option ByteArray) (w : World) : Prop :=
  F M ∧ ∃ n D, w.ownsMap (H := Unit) Tryd.prog 3 strEl M n D ∧ ∀ x : Int, (intKey x).wf = true → Maps.has D (intKey x) = (m x).isSome ∧ ∀ d, m x = some d → ∀ z, D.atKey (intKey x) z = .lit (.string d.data.toList)

theorem Mp.lt {F : Nat → Prop} {M : Nat} {m : Int → Option ByteArray} {w : World} (h : Mp F M m w) : M < w.heap.size := by
  obtain ⟨_, n, D, h1, _⟩ := h
  exact h1.lt

theorem Mp.keep {F G : Nat → Prop} {M : Nat} {m : Int → Option ByteArray} {w w' : World} (h : Mp F M m w) (hk : ∀ k, F k → k < w.heap.size → w'.heap[k]? = w.heap[k]? ∧ G k) : Mp G M m w' := by
  have hlt := h.lt
  obtain ⟨h0, n, D, ⟨es, clock, hb, r⟩, h2⟩ := h
  have := hk M h0 hlt
  exact ⟨this.2, n, D, ⟨es, clock, this.1.trans hb, r⟩, h2⟩

theorem ownsMap_size {w : World} {M n : Nat} {D : DataW Unit} (h : w.ownsMap (H := Unit) Tryd.prog 3 strEl M n D) {a : Int} {c : Nat} (hk : ∀ x : Int, (intKey x).wf = true → Maps.has D (intKey x) = true → a < x ∧ x ≤ a + c) : w.ownsMap (H := Unit) Tryd.prog 3 strEl M c D := by
  obtain ⟨es, clock, hb, F, hs, rfl⟩ := h
  refine ⟨es, clock, hb, F, ?_, rfl⟩
  have hks := Maps.fit_keys F
  have hap := Maps.fit_apart intKeyed F
  have hint : ∀ p ∈ es.toList.map (WideElems.rg Tryd.prog 3 strEl), ∃ x : Int, p.1 = intKey x ∧ (intKey x).wf = true := by
    intro p hp
    obtain ⟨v, hv⟩ := hks p hp
    obtain ⟨x, rfl, hx⟩ := Maps.keyOf_int_inv Tryd.underlying3 hv
    exact ⟨x, hx.1, hx.2⟩
  let key : Lit × DataW Unit → Int := fun p => match p.1 with | .int _ x => x | _ => 0
  have hkey : ∀ p ∈ es.toList.map (WideElems.rg Tryd.prog 3 strEl), p.1 = intKey (key p) ∧ (intKey (key p)).wf = true := by
    intro p hp
    obtain ⟨x, h1, h2⟩ := hint p hp
    have : key p = x := by show (match p.1 with | .int _ x => x | _ => 0) = x; rw [h1]
    rw [this]
    exact ⟨h1, h2⟩
  have hnd : ((es.toList.map (WideElems.rg Tryd.prog 3 strEl)).map key).Nodup := by
    rw [List.Nodup, List.pairwise_map]
    refine List.Pairwise.imp_of_mem ?_ hap
    intro p q hp hq hne e
    apply hne
    rw [(hkey p hp).1, (hkey q hq).1, e]
  have := pigeon c a _ hnd (by
    intro x hx
    obtain ⟨p, hp, rfl⟩ := List.mem_map.1 hx
    refine hk _ (hkey p hp).2 ?_
    rw [Maps.has_eq]
    refine List.any_eq_true.2 ⟨p, (WideShapes.sorted_perm _).mem_iff.2 hp, ?_⟩
    rw [(hkey p hp).1]
    exact WideAt.sameKey_self (a := intKey (key p)) trivial)
  simpa using this

theorem heap_new_at (w : World) (o : Obj) (k : Nat) (h : w.heap.size = k) : (w.alloc o).heap[k]? = some o := by
  subst h
  exact heap_alloc_new w o

theorem Mp.fresh (w : World) (F : Nat → Prop) (hF : F w.heap.size) : Mp F w.heap.size noAhead (w.alloc (.map #[] 0)) :=
  ⟨hF, 0, _, World.ownsMap_made _ _ _ _, fun x _ => ⟨rfl, fun d h => by cases h⟩⟩

/-- A session at block S. -/
def SC (R M : Nat) (s : Se) : Array Value := #[.int .i64 s.self, .int .i64 s.peer, .int .i64 s.mine, .int .i64 s.yours, .pointer (some ⟨R, 0, none⟩), .int .i64 s.last, .int .i64 s.heard, .map (some M), .bool s.owed]
def SS (F : Nat → Prop) (S : Nat) (s : Se) (w : World) : Prop :=
  ∃ R M, F S ∧ w.heap[S]? = some (.cells (SC R M s) 133 (0, 0)) ∧ Rg F R s.out w ∧ Mp F M s.ahead w

theorem SS.lt {F : Nat → Prop} {S : Nat} {s : Se} {w : World} (h : SS F S s w) : S < w.heap.size := by
  obtain ⟨R, M, h0, hb, _⟩ := h
  exact lt_of_heap hb
theorem SS.keep {F G : Nat → Prop} {S : Nat} {s : Se} {w w' : World} (h : SS F S s w) (hk : ∀ k, F k → k < w.heap.size → w'.heap[k]? = w.heap[k]? ∧ G k) : SS G S s w' := by
  obtain ⟨R, M, h0, hb, hr, hm⟩ := h
  have := hk S h0 (lt_of_heap hb)
  exact ⟨R, M, this.2, this.1.trans hb, hr.keep hk, hm.keep hk⟩
theorem SS.low {F : Nat → Prop} {S : Nat} {s : Se} {w : World} (h : SS F S s w) : SS (fun k => F k ∧ k < w.heap.size) S s w := h.keep (fun k hk hlt => ⟨rfl, hk, hlt⟩)
theorem SS.drewN {F : Nat → Prop} {S : Nat} {s : Se} {w : World} (h : SS F S s w) (m : Nat) : SS F S s (w.drewN m) := h.keep (fun k hk hlt => ⟨rfl, hk⟩)

/-- The blocks of a session's ring. -/
def RF (F : Nat → Prop) (S M B : Nat) : Nat → Prop := fun k => F k ∧ k ≠ S ∧ k ≠ M ∧ k < B

theorem own_ne_map {w : World} {e : TypeId} {size n b : Nat} {v : Value} {xs : List Value} {es : Array MapEntry} {clock : Nat} (h : w.ownsRow 0 e size v n xs) (hb : w.heap[b]? = some (.map es clock)) : v.ownBlock ≠ some b := by
  rcases h.2 with ⟨rfl, _⟩ | ⟨g, cap, cur, rfl, _, hh, _⟩
  · simp [Value.ownBlock]
  · intro he
    have : g = b := by simpa [Value.ownBlock] using he
    subst this
    rw [hb] at hh
    simp at hh

/-- The session's cells. -/
theorem SS.cells {F : Nat → Prop} {S : Nat} {s : Se} {w : World} (h : SS F S s w) : ∃ R M, F S ∧ F R ∧ F M ∧ S < w.heap.size ∧ R < w.heap.size ∧ M < w.heap.size ∧ R ≠ S ∧ M ≠ S ∧ M ≠ R ∧
    w.heap[S]? = some (.cells (SC R M s) 133 (0, 0)) ∧ Rg (RF F S M w.heap.size) R s.out w ∧ Mp (fun k => k = M) M s.ahead w ∧
    (w.cell? ⟨S, 0, none⟩ = some (.int .i64 s.self) ∧ w.cell? ⟨S, 1, none⟩ = some (.int .i64 s.peer) ∧ w.cell? ⟨S, 2, none⟩ = some (.int .i64 s.mine) ∧ w.cell? ⟨S, 3, none⟩ = some (.int .i64 s.yours) ∧
     w.cell? ⟨S, 4, none⟩ = some (.pointer (some ⟨R, 0, none⟩)) ∧ w.cell? ⟨S, 5, none⟩ = some (.int .i64 s.last) ∧ w.cell? ⟨S, 6, none⟩ = some (.int .i64 s.heard) ∧ w.cell? ⟨S, 7, none⟩ = some (.map (some M)) ∧ w.cell? ⟨S, 8, none⟩ = some (.bool s.owed)) := by
  obtain ⟨R, M, h0, hb, hr, hm⟩ := h
  obtain ⟨v, hFR, hbR, ho, hF⟩ := hr
  obtain ⟨hFM, n, D, ⟨es, clock, hbM, hmr⟩, hag⟩ := hm
  have hS := lt_of_heap hb
  have hR := lt_of_heap hbR
  have hM := lt_of_heap hbM
  have n1 : R ≠ S := by rintro rfl; rw [hb] at hbR; simp [SC] at hbR
  have n2 : M ≠ S := by rintro rfl; rw [hb] at hbM; simp at hbM
  have n3 : M ≠ R := by rintro rfl; rw [hbR] at hbM; simp at hbM
  refine ⟨R, M, h0, hFR, hFM, hS, hR, hM, n1, n2, n3, hb, ⟨v, ⟨hFR, n1, Ne.symm n3, hR⟩, hbR, ho, fun k e => ⟨hF k e, ?_, ?_, (ho.lt k e).2⟩⟩, ⟨rfl, n, D, ⟨es, clock, hbM, hmr⟩, hag⟩, ?_⟩
  · rintro rfl; exact own_ne ho hb (by decide) e
  · rintro rfl; exact own_ne_map ho hbM e
  · refine ⟨?_, ?_, ?_, ?_, ?_, ?_, ?_, ?_, ?_⟩ <;> (rw [Lib.cell_of_heap hb]; rfl)

/-- The cells of a session's block, none frozen. -/
theorem nine_of {w : World} {S R M : Nat} {s : Se} (hb : w.heap[S]? = some (.cells (SC R M s) 133 (0, 0))) :
    (w.cell? ⟨S, 0, none⟩ = some (.int .i64 s.self) ∧ w.cell? ⟨S, 1, none⟩ = some (.int .i64 s.peer) ∧ w.cell? ⟨S, 2, none⟩ = some (.int .i64 s.mine) ∧ w.cell? ⟨S, 3, none⟩ = some (.int .i64 s.yours) ∧
     w.cell? ⟨S, 4, none⟩ = some (.pointer (some ⟨R, 0, none⟩)) ∧ w.cell? ⟨S, 5, none⟩ = some (.int .i64 s.last) ∧ w.cell? ⟨S, 6, none⟩ = some (.int .i64 s.heard) ∧ w.cell? ⟨S, 7, none⟩ = some (.map (some M)) ∧ w.cell? ⟨S, 8, none⟩ = some (.bool s.owed)) ∧
    ∀ i, w.frozen? ⟨S, i, none⟩ = false := by
  refine ⟨⟨?_, ?_, ?_, ?_, ?_, ?_, ?_, ?_, ?_⟩, fun i => Lib.frozen_of_heap hb i⟩ <;> (rw [Lib.cell_of_heap hb]; rfl)

theorem none_calls (F : Nat → Prop) (S : Nat) (s : Se) (w : World) (h : SS F S s w) : Calls Tryd.prog 94 #[.pointer (some ⟨S, 0, none⟩)] w fun r w' => r = .returned (.bool false) ∧ w = w' := by
  obtain ⟨R, M, hFS, hFR, hFM, hS, hR, hM, n1, n2, n3, hb, hr, hm, c0, c1, c2, c3, c4, c5, c6, c7, c8⟩ := h.cells
  clear h hb hr hm
  go_enter Tryd.func94, Tryd.ntmps94
  go_wp2
  go_ret
  exact ⟨rfl, rfl⟩

theorem sessNew_calls (p q n : Int) (w : World) : Calls Tryd.prog 75 #[.int .i64 p, .int .i64 q, .int .i64 n] w fun r w' => ∃ S, w.heap.size ≤ S ∧ r = .returned (.pointer (some ⟨S, 0, none⟩)) ∧ SS (fun k => w.heap.size ≤ k) S (Se.fresh p q n) w' ∧ Below w.heap.size w w' := by
  have hmm := @run_makeMap Tryd.prog
  go_enter Tryd.func75, Tryd.ntmps75
  go_wp2_with fail
  refine (ringNew_calls _).mono ?_
  rintro e w1 ⟨rfl, rfl⟩
  go_wp2
  go_ret
  refine ⟨_, ?_, rfl, ⟨w.heap.size, w.heap.size + 1, ?_, heap_new_at _ _ _ (by simp), ?_, ?_⟩, al (al (al (Below.refl _ _) _) _) _⟩
  · omega
  · show w.heap.size ≤ w.heap.size + 1 + 1
    omega
  · refine (Rg.fresh w (fun k => w.heap.size ≤ k) (Nat.le_refl _)).keep (fun k hk hlt => ⟨?_, hk⟩)
    rw [Below.heap_alloc _ _ _ (by simp; simp at hlt; omega), Below.heap_alloc _ _ _ hlt]
  · have := Mp.fresh (w.alloc (.cells #[.slice none 0 0, .int .i64 64] 153)) (fun k => w.heap.size ≤ k) (by simp)
    simp only [World.size_alloc] at this
    refine this.keep (fun k hk hlt => ⟨?_, hk⟩)
    rw [Below.heap_alloc _ _ _ hlt]

end Go.Proofs.YtpbmclaglkcmoaaDoor
