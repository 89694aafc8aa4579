import Derived.Test.YtpbmclaglkcmoaaBook
import Derived.Test.YtpbmclaglkcmoaaRowOpen
import Derived.Deep.AppendLies
namespace Go.Proofs.Ytpbmclaglkcmoaa
open Go.RowKit Go.ChangeShapes Go.WideShapes Go.Joins Go.Deep
set_option linter.unusedVariables false
set_option linter.unusedSimpArgs false

/-- A record, and where its images lie. -/
structure RecV where
  e : Int
  l : Int
  A : Option Addr
  c : Nat
  im : List Img
instance : Inhabited RecV := ⟨⟨0, 0, none, 0, []⟩⟩

/-- What is known of a record that came in. -/
def RecIn (w : World) (r : RecV) : Prop := (Lit.int .u64 r.e).wf = true ∧ (Lit.int .u64 r.l).wf = true ∧ r.im.length ≤ r.c ∧ r.c ≤ maxLen ∧ Imgs w r.A r.im ∧ ∀ x ∈ r.im, ImgWf x

/-- A slice of records, as it lies in a world. -/
def Recs (w : World) (A : Option Addr) (l : List RecV) : Prop :=
  ∀ j (h : j < l.length), ∃ b o, A = some ⟨b, o, none⟩ ∧ w.cell? ⟨b, o + j * 3, none⟩ = some (.int .u64 l[j].e) ∧ w.cell? ⟨b, o + j * 3 + 1, none⟩ = some (.int .u64 l[j].l) ∧ w.cell? ⟨b, o + j * 3 + 2, none⟩ = some (.slice l[j].A l[j].im.length l[j].c)

theorem Recs.below {w w' : World} {A : Option Addr} {l : List RecV} (h : Recs w A l) (hb : Below w.heap.size w w') : Recs w' A l := by
  intro j hj
  obtain ⟨b, o, hA, h0, h1, h2⟩ := h j hj
  exact ⟨b, o, hA, (hb.cell (World.block_lt_of_cell? _ _ h0)).trans h0, (hb.cell (World.block_lt_of_cell? _ _ h1)).trans h1, (hb.cell (World.block_lt_of_cell? _ _ h2)).trans h2⟩

section
variable {H : Type} {enc : TypeId × Value → H} {W : World} {spare : Nat → Bool} {held : Bool}

theorem Try.cellsU : Try.prog.cellsOf 61 = 1 := by kernel_rfl
theorem Try.cellsIms : Try.prog.cellsOf 62 = 1 := by kernel_rfl

theorem open_rec1 {n : Nat} {cs : List Value} {y : DataW H × List MemPlace} (h : DataW.trod enc Try.prog W 0 spare held n 64 cs = some y) : ∃ r : RecV, cs = [.int .u64 r.e, .int .u64 r.l, .slice r.A r.im.length r.c] ∧ RecIn W r := by
  obtain ⟨y0, y1, y2, m, _, hl, h0, h1, h2⟩ := trod_struct3 Try.underlying64 h
  rw [Try.cellsRec] at hl
  obtain ⟨c0, c1, c2, rfl⟩ := list3 hl
  obtain ⟨e, e0, _, we⟩ := DataW.trod_int Try.underlying61 h0
  obtain ⟨l, e1, _, wl⟩ := DataW.trod_int Try.underlying61 h1
  obtain ⟨A, c, im, e2, hc, hm, hI, hw⟩ := open_imgs h2
  simp only [Try.cellsU] at e0 e1
  simp only [Try.cellsIms] at e2
  simp at e0 e1 e2
  subst e0 e1 e2
  exact ⟨⟨e, l, A, c, im⟩, rfl, we, wl, hc, hm, hI, hw⟩

set_option maxRecDepth 100000 in
theorem open_recs {r : Reach} {b0 : Nat} {v : Value} {d : DataW H} {p : List MemPlace} (hv : Value.okWide Try.prog W r b0 79 v) (h : DataW.Trod enc Try.prog W 0 spare held 79 v d p) :
    ∃ (A : Option Addr) (c : Nat) (rl : List RecV), v = .slice A rl.length c ∧ rl.length ≤ c ∧ c ≤ maxLen ∧ Recs W A rl ∧ ∀ x ∈ rl, RecIn W x := by
  obtain ⟨a0, len0, cap0, rfl⟩ := okWide_slice Try.underlying79 hv
  obtain ⟨fuel, hf⟩ := h
  rcases open_slice Try.underlying79 hf with ⟨hcs, _⟩ | ⟨a, len, cap, m, k, D, Pl, hcs, _, hl, hm, hmm, _, hx⟩
  · simp [Value.cells] at hcs
    obtain ⟨rfl, rfl, rfl⟩ := hcs
    exact ⟨none, 0, [], rfl, Nat.le_refl _, Nat.zero_le _, (fun j hj => absurd hj (Nat.not_lt_zero _)), fun x hx => by cases hx⟩
  · simp [Value.cells] at hcs
    obtain ⟨rfl, rfl, rfl⟩ := hcs
    have hlm : len0 ≤ m := by rw [hmm]; split <;> omega
    have each : ∀ i, i < len0 → ∃ x : RecV, (W.cell? (a.add (i * 3)) = some (.int .u64 x.e) ∧ W.cell? ((a.add (i * 3)).add 1) = some (.int .u64 x.l) ∧ W.cell? ((a.add (i * 3)).add 2) = some (.slice x.A x.im.length x.c)) ∧ RecIn W x := by
      intro i hi
      obtain ⟨cs', h1, h2⟩ := hx i (by omega)
      rw [Try.cellsRec] at h1
      obtain ⟨x, rfl, hw⟩ := open_rec1 h2
      obtain ⟨_, _, hc⟩ := World.cells?_some h1
      have e0 := hc 0 (by decide)
      have e1 := hc 1 (by decide)
      have e2 := hc 2 (by decide)
      exact ⟨x, ⟨by simpa [Addr.add] using e0, by simpa using e1, by simpa using e2⟩, hw⟩
    obtain ⟨f, hf'⟩ := choose_lt each
    refine ⟨some a, cap0, (List.range len0).map f, by simp, by simpa using hl, hm, ?_, ?_⟩
    · intro j hj
      have hj' : j < len0 := by simpa using hj
      obtain ⟨⟨e0, e1, e2⟩, _⟩ := hf' j hj'
      have hsp : a.spot = none := by
        obtain ⟨⟨f0, _, _⟩, _⟩ := hf' 0 (by omega)
        have := World.cell?_spot f0
        simpa [Addr.add] using this
      obtain ⟨b, o, sp⟩ := a
      simp only at hsp
      subst hsp
      refine ⟨b, o, rfl, ?_, ?_, ?_⟩
      · rw [add_plain] at e0
        simpa using e0
      · rw [add_plain, add_plain] at e1
        simpa using e1
      · rw [add_plain, add_plain] at e2
        simpa using e2
    · intro x hx'
      obtain ⟨i, hi, rfl⟩ := List.mem_map.1 hx'
      exact (hf' i (List.mem_range.1 hi)).2
end

/-- The cells of records. -/
def recC : List RecV → List Value
  | [] => []
  | x :: l => .int .u64 x.e :: .int .u64 x.l :: .slice x.A x.im.length x.c :: recC l
theorem recC_snoc (x : RecV) : ∀ l : List RecV, recC (l ++ [x]) = recC l ++ [.int .u64 x.e, .int .u64 x.l, .slice x.A x.im.length x.c]
  | [] => rfl
  | y :: l => by simp [recC, recC_snoc x l]
theorem recC_get : ∀ (l : List RecV) (j : Nat) (h : j < l.length), (recC l)[j * 3]? = some (.int .u64 l[j].e) ∧ (recC l)[j * 3 + 1]? = some (.int .u64 l[j].l) ∧ (recC l)[j * 3 + 2]? = some (.slice l[j].A l[j].im.length l[j].c)
  | [], j, h => absurd h (Nat.not_lt_zero _)
  | x :: l, 0, h => ⟨rfl, rfl, rfl⟩
  | x :: l, j + 1, h => by
    have := recC_get l j (by simpa using h)
    rw [show (j + 1) * 3 = j * 3 + 3 by omega]
    simpa [recC] using this

theorem Recs.own {w : World} {B : Nat} {v : Value} {l : List RecV} (h : w.ownsRow B 64 3 v l.length (recC l)) : ∃ A c, v = .slice A l.length c ∧ l.length ≤ c ∧ Recs w A l := by
  rcases h.2 with ⟨rfl, h0⟩ | ⟨g, cap, cur, rfl, hBg, _, hc, _⟩
  · refine ⟨none, 0, ?_, by omega, ?_⟩
    · rw [h0]
    · intro j hj
      omega
  · refine ⟨_, cap, rfl, hc, ?_⟩
    intro j hj
    obtain ⟨e0, e1, e2⟩ := recC_get l j hj
    have hcell := h.cells (g := g) rfl
    refine ⟨g, 0, rfl, ?_, ?_, ?_⟩
    all_goals simp only [Nat.zero_add]
    · have := hcell _ _ e0; rwa [addr_add0] at this
    · have := hcell _ _ e1; rwa [addr_add0] at this
    · have := hcell _ _ e2; rwa [addr_add0] at this

theorem Try.infoRec : (Try.prog.info? 64).map (fun i => (i.zero, i.size, i.bytes)) = some (some (.agg #[.int .u64 0, .int .u64 0, .slice none 0 0]), 3, 40) := by kernel_rfl

def flatR (l : List RecV) : List UInt8 := l.flatMap fun r => recL r.e r.l r.im

end Go.Proofs.Ytpbmclaglkcmoaa
