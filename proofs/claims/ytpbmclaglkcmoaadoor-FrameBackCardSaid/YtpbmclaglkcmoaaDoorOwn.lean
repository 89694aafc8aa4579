import Derived.Test.YtpbmclaglkcmoaaDoorSessT
namespace Go.Proofs.YtpbmclaglkcmoaaDoor
open Go.RowKit
set_option linter.unusedVariables false
set_option linter.unusedSimpArgs false

/-! Things that lie in memory side by side: own tells of each block whose it is. -/
def Item := (Nat → Prop) → World → Prop
def Keeps (I : Item) : Prop := ∀ {F G : Nat → Prop} {w w' : World}, I F w → (∀ k, F k → k < w.heap.size → w'.heap[k]? = w.heap[k]? ∧ G k) → I G w'

def SSI (S : Nat) (s : Se) : Item := fun F w => SS F S s w
def RowI (e : TypeId) (size : Nat) (v : Value) (n : Nat) (xs : List Value) : Item := fun F w => w.ownsRow 0 e size v n xs ∧ ∀ k, v.ownBlock = some k → F k

theorem keeps_SS (S : Nat) (s : Se) : Keeps (SSI S s) := fun h hk => SS.keep h hk
theorem keeps_Row (e : TypeId) (size : Nat) (v : Value) (n : Nat) (xs : List Value) : Keeps (RowI e size v n xs) := fun h hk =>
  ⟨ownsRow_keep h.1 (fun k e => (hk k (h.2 k e) (h.1.lt k e).2).1), fun k e => (hk k (h.2 k e) (h.1.lt k e).2).2⟩

def newOwn (own : Nat → Nat) (B i : Nat) : Nat → Nat := fun k => if k < B then own k else i

/-- Of another thing nothing turns. -/
theorem keep_other {I : Item} (hI : Keeps I) {own : Nat → Nat} {i j : Nat} {w w' : World} (h : I (fun k => own k = j) w) (hk : KeptF (fun k => own k = i) w w') (hij : j ≠ i) : I (fun k => newOwn own w.heap.size i k = j) w' := by
  refine hI h (fun k hj hlt => ⟨hk.block k hlt (fun e => hij (hj.symm.trans e)), ?_⟩)
  simp only [newOwn, if_pos hlt]
  exact hj

/-- The thing itself, behind what was done to it. -/
theorem keep_self {I : Item} (hI : Keeps I) {own : Nat → Nat} {i : Nat} {B : Nat} {w' : World} {G : Nat → Prop} (h : I G w') (hG : ∀ k, G k → own k = i ∨ B ≤ k) : I (fun k => newOwn own B i k = i) w' := by
  refine hI h (fun k hk _ => ⟨rfl, ?_⟩)
  unfold newOwn
  split
  · rcases hG k hk with h1 | h1
    · exact h1
    · omega
  · rfl

/-- Nothing turns where memory is only made. -/
theorem keep_below {I : Item} (hI : Keeps I) {own : Nat → Nat} {j : Nat} {w w' : World} (h : I (fun k => own k = j) w) (hb : Below w.heap.size w w') : I (fun k => own k = j) w' :=
  hI h (fun k hk hlt => ⟨hb.block k hlt, hk⟩)
theorem keep_drew {I : Item} (hI : Keeps I) {F : Nat → Prop} {w : World} (h : I F w) : I F w.drew := hI h (fun k hk _ => ⟨rfl, hk⟩)
theorem keep_alloc {I : Item} (hI : Keeps I) {F : Nat → Prop} {w : World} (h : I F w) (o : Obj) : I F (w.alloc o) := hI h (fun k hk hlt => ⟨Below.heap_alloc _ _ _ hlt, hk⟩)

/-- All blocks of a thing are there. -/
theorem keep_low {I : Item} (hI : Keeps I) {F : Nat → Prop} {w : World} (h : I F w) : I (fun k => F k ∧ k < w.heap.size) w := hI h (fun k hk hlt => ⟨rfl, hk, hlt⟩)

/-- Of another thing nothing turns, however the new blocks are dealt. -/
theorem keep_oth {I : Item} (hI : Keeps I) {own own' : Nat → Nat} {i j : Nat} {w w' : World} (h : I (fun k => own k = j) w) (hk : KeptF (fun k => own k = i) w w') (hij : j ≠ i) (ho : ∀ k, k < w.heap.size → own' k = own k) : I (fun k => own' k = j) w' :=
  hI h (fun k hj hlt => ⟨hk.block k hlt (fun e => hij (hj.symm.trans e)), (ho k hlt).trans hj⟩)

theorem keep_low1 {I : Item} (hI : Keeps I) {own : Nat → Nat} {i : Nat} {w : World} (h : I (fun k => own k = i) w) : I (fun k => own k = i ∧ k < w.heap.size) w := hI h (fun k hk hlt => ⟨rfl, hk, hlt⟩)

open Classical in
/-- The new blocks are i's, but that of v: it is j's. -/
noncomputable def own2 (own : Nat → Nat) (B : Nat) (v : Value) (i j : Nat) : Nat → Nat := fun k => if k < B then own k else if v.ownBlock = some k then j else i
theorem own2_old {own : Nat → Nat} {B : Nat} {v : Value} {i j : Nat} : ∀ k, k < B → own2 own B v i j k = own k := fun k hk => if_pos hk

theorem fresh_row {e : TypeId} {size n : Nat} {v : Value} {xs : List Value} {w' : World} (own : Nat → Nat) (B i j : Nat) (h : w'.ownsRow 0 e size v n xs) (hv : ∀ k, v.ownBlock = some k → B ≤ k) : RowI e size v n xs (fun k => own2 own B v i j k = j) w' :=
  ⟨h, fun k hk => by
    show own2 own B v i j k = j
    unfold own2
    rw [if_neg (by have := hv k hk; omega), if_pos hk]⟩

theorem self_low {I : Item} (hI : Keeps I) {own own' : Nat → Nat} {i B : Nat} {w' : World} (h : I (fun k => own k = i ∧ k < B) w') (ho : ∀ k, k < B → own' k = own k) : I (fun k => own' k = i) w' :=
  hI h (fun k hk _ => ⟨rfl, (ho k hk.2).trans hk.1⟩)

theorem self_take {I : Item} (hI : Keeps I) {own : Nat → Nat} {i j B : Nat} {v : Value} {G : Nat → Prop} {w' : World} (h : I G w') (hG : ∀ k, G k → ((own k = i ∧ k < B) ∨ B ≤ k) ∧ v.ownBlock ≠ some k) : I (fun k => own2 own B v i j k = i) w' := by
  refine hI h (fun k hk _ => ⟨rfl, ?_⟩)
  have := hG k hk
  show own2 own B v i j k = i
  unfold own2
  by_cases hlt : k < B
  · rw [if_pos hlt]
    rcases this.1 with h1 | h1
    · exact h1.1
    · omega
  · rw [if_neg hlt, if_neg this.2]

theorem kept_low {own : Nat → Nat} {i : Nat} {B : Nat} {w w' : World} (h : KeptF (fun k => own k = i ∧ k < B) w w') : KeptF (fun k => own k = i) w w' := h.mono (fun _ _ hk => hk.1)

/-- A frame out of a row of frames. -/
theorem frow_at {w : World} {v : Value} {l : List Fr} (h : w.ownsRow 0 79 8 v l.length (frC l)) (j : Nat) (hj : j < l.length) : ∃ g c, v = .slice (some ⟨g, 0, none⟩) l.length c ∧ g < w.heap.size ∧
    w.cell? ⟨g, j * 8, none⟩ = some (.int .i64 l[j].fr) ∧ w.cell? ⟨g, j * 8 + 1, none⟩ = some (.int .i64 l[j].to) ∧ w.cell? ⟨g, j * 8 + 2, none⟩ = some (.int .i64 l[j].mine) ∧ w.cell? ⟨g, j * 8 + 3, none⟩ = some (.int .i64 l[j].yours) ∧
    w.cell? ⟨g, j * 8 + 4, none⟩ = some (.int .i64 l[j].seq) ∧ w.cell? ⟨g, j * 8 + 5, none⟩ = some (.int .i64 l[j].ack) ∧ w.cell? ⟨g, j * 8 + 6, none⟩ = some (.string l[j].data) ∧ w.cell? ⟨g, j * 8 + 7, none⟩ = some (.bool l[j].has) := by
  have ho' := h
  obtain ⟨_, ⟨rfl, hn0⟩ | ⟨g, cap, cur, rfl, _, hh, hnc, hcm, hcs, _⟩⟩ := ho'
  · rw [hn0] at hj
    cases hj
  · obtain ⟨g0, g1, g2, g3, g4, g5, g6, g7⟩ := frC_get l j hj
    have hc := h.cells (g := g) rfl
    simp only [Addr.add_mid, Nat.zero_add] at hc
    exact ⟨g, cap, rfl, lt_of_heap hh, hc _ _ g0, hc _ _ g1, hc _ _ g2, hc _ _ g3, hc _ _ g4, hc _ _ g5, hc _ _ g6, hc _ _ g7⟩

/-- A text out of a row of texts. -/
theorem srow_at {w : World} {v : Value} {l : List ByteArray} (h : w.ownsRow 0 9 1 v l.length (strC l)) (j : Nat) (hj : j < l.length) : ∃ g c, v = .slice (some ⟨g, 0, none⟩) l.length c ∧ g < w.heap.size ∧ w.cell? ⟨g, j, none⟩ = some (.string l[j]) := by
  have ho' := h
  obtain ⟨_, ⟨rfl, hn0⟩ | ⟨g, cap, cur, rfl, _, hh, hnc, hcm, hcs, _⟩⟩ := ho'
  · rw [hn0] at hj
    cases hj
  · have hc := h.cells (g := g) rfl j (.string l[j]) (by simp [strC, List.getElem?_eq_getElem hj])
    simp only [Addr.add_mid, Nat.zero_add] at hc
    exact ⟨g, cap, rfl, lt_of_heap hh, hc⟩

end Go.Proofs.YtpbmclaglkcmoaaDoor
