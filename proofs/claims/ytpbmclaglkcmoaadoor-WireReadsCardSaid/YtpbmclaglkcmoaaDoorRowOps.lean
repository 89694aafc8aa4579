import Derived.Test.YtpbmclaglkcmoaaDoorOps
import Derived.Lib.SmallJoins
import Derived.Carry
import Derived.WideShapes
namespace Go.Proofs.YtpbmclaglkcmoaaDoor
open Go.RowKit Go.ChangeShapes Go.WideShapes Go.Joins Go.Deep
open Go.ChangeMaps (open_string shut_string)
set_option linter.unusedVariables false
set_option linter.unusedSimpArgs false

theorem Tryd.laidOutR : laidOutB Tryd.prog = true := by kernel_rfl
theorem Tryd.cellsOp : Tryd.prog.cellsOf 43 = 4 := by kernel_rfl

section
variable {H : Type} {enc : TypeId × Value → H} {W : World} {spare : Nat → Bool} {held : Bool}

instance : Inhabited OpR := ⟨⟨0, 0, 0, ByteArray.empty⟩⟩

def OpWf (x : OpR) : Prop := (Lit.int .i64 x.k).wf = true ∧ (Lit.int .i64 x.n).wf = true ∧ (Lit.int .u64 x.v).wf = true ∧ x.s.size ≤ maxLen

theorem list4 {α : Type} {cs : List α} (h : cs.length = 4) : ∃ c0 c1 c2 c3, cs = [c0, c1, c2, c3] := by
  match cs, h with
  | [c0, c1, c2, c3], _ => exact ⟨c0, c1, c2, c3, rfl⟩

theorem open_op {n : Nat} {cs : List Value} {y : DataW H × List MemPlace} (h : DataW.trod enc Tryd.prog W 0 spare held n 43 cs = some y) : ∃ x : OpR, cs = [.int .i64 x.k, .int .i64 x.n, .int .u64 x.v, .string x.s] ∧ OpWf x := by
  obtain ⟨y0, y1, y2, y3, m, _, hl, h0, h1, h2, h3⟩ := trod_struct4 Tryd.underlying43 h
  rw [Tryd.cellsOp] at hl
  obtain ⟨c0, c1, c2, c3, rfl⟩ := list4 hl
  obtain ⟨k, e0, _, wk⟩ := DataW.trod_int Tryd.underlying3 h0
  obtain ⟨nn, e1, _, wn⟩ := DataW.trod_int Tryd.underlying3 h1
  obtain ⟨v, e2, _, wv⟩ := DataW.trod_int Tryd.underlying30 h2
  obtain ⟨d, e3, _, wd⟩ := DataW.trod_string Tryd.underlying9 h3
  have k0 : Tryd.prog.cellsOf 3 = 1 := by kernel_rfl
  have k1 : Tryd.prog.cellsOf 30 = 1 := by kernel_rfl
  have k2 : Tryd.prog.cellsOf 9 = 1 := by kernel_rfl
  simp only [k0] at e0 e1
  simp only [k0, k1] at e2
  simp only [k0, k1, k2] at e3
  simp at e0 e1 e2 e3
  subst e0 e1 e2 e3
  exact ⟨⟨k, nn, v, d⟩, rfl, wk, wn, wv, wd⟩

theorem open_opsL {n : Nat} {cs : List Value} {y : DataW H × List MemPlace} (h : DataW.trod enc Tryd.prog W 0 spare held n 37 cs = some y) :
    ∃ (A : Option Addr) (c : Nat) (l : List OpR), cs = [.slice A l.length c] ∧ l.length ≤ c ∧ c ≤ maxLen ∧ Ops W A l ∧ ∀ x ∈ l, OpWf x := by
  rcases open_slice Tryd.underlying37 h with ⟨rfl, _⟩ | ⟨a, len, cap, m, k, D, Pl, rfl, _, hl, hm, hmm, _, hx⟩
  · exact ⟨none, 0, [], rfl, Nat.le_refl _, Nat.zero_le _, (fun j hj => absurd hj (Nat.not_lt_zero _)), fun x hx => by cases hx⟩
  · have hlm : len ≤ m := by rw [hmm]; split <;> omega
    have each : ∀ i, i < len → ∃ x : OpR, (W.cell? (a.add (i * 4)) = some (.int .i64 x.k) ∧ W.cell? ((a.add (i * 4)).add 1) = some (.int .i64 x.n) ∧ W.cell? ((a.add (i * 4)).add 2) = some (.int .u64 x.v) ∧ W.cell? ((a.add (i * 4)).add 3) = some (.string x.s)) ∧ OpWf x := by
      intro i hi
      obtain ⟨cs', h1, h2⟩ := hx i (by omega)
      rw [Tryd.cellsOp] at h1
      obtain ⟨x, rfl, hw⟩ := open_op h2
      obtain ⟨_, _, hc⟩ := World.cells?_some h1
      have e0 := hc 0 (by decide)
      have e1 := hc 1 (by decide)
      have e2 := hc 2 (by decide)
      have e3 := hc 3 (by decide)
      exact ⟨x, ⟨by simpa [Addr.add] using e0, by simpa using e1, by simpa using e2, by simpa using e3⟩, hw⟩
    obtain ⟨f, hf⟩ := choose_lt each
    refine ⟨some a, cap, (List.range len).map f, by simp, by simpa using hl, hm, ?_, ?_⟩
    · intro j hj
      have hj' : j < len := by simpa using hj
      obtain ⟨⟨e0, e1, e2, e3⟩, _⟩ := hf j hj'
      have hsp : a.spot = none := by
        obtain ⟨⟨f0, _, _, _⟩, _⟩ := hf 0 (by omega)
        have := World.cell?_spot f0
        simpa [Addr.add] using this
      obtain ⟨b, o, sp⟩ := a
      simp only at hsp
      subst hsp
      refine ⟨b, o, rfl, ?_, ?_, ?_, ?_⟩
      · rw [add_plain] at e0
        simpa using e0
      · rw [add_plain, add_plain] at e1
        simpa using e1
      · rw [add_plain, add_plain] at e2
        simpa using e2
      · rw [add_plain, add_plain] at e3
        simpa using e3
    · intro x hx
      obtain ⟨i, hi, rfl⟩ := List.mem_map.1 hx
      exact (hf i (List.mem_range.1 hi)).2

set_option maxRecDepth 100000 in
theorem open_ops {r : Reach} {b0 : Nat} {v : Value} {d : DataW H} {p : List MemPlace} (hv : Value.okWide Tryd.prog W r b0 37 v) (h : DataW.Trod enc Tryd.prog W 0 spare held 37 v d p) :
    ∃ (A : Option Addr) (c : Nat) (l : List OpR), v = .slice A l.length c ∧ l.length ≤ c ∧ c ≤ maxLen ∧ Ops W A l ∧ ∀ x ∈ l, OpWf x := by
  obtain ⟨a0, len, cap, rfl⟩ := okWide_slice Tryd.underlying37 hv
  obtain ⟨fuel, hf⟩ := h
  obtain ⟨A, c, l, hcs, h1, h2, h3, h4⟩ := open_opsL hf
  simp [Value.cells] at hcs
  obtain ⟨rfl, rfl, rfl⟩ := hcs
  exact ⟨_, _, l, rfl, h1, h2, h3, h4⟩
end

end Go.Proofs.YtpbmclaglkcmoaaDoor
