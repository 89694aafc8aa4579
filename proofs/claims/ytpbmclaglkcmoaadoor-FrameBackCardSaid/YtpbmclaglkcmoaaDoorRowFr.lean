import Derived.Test.YtpbmclaglkcmoaaDoorFrBack
import Derived.WideShapes
import Derived.Lib.SmallJoins
import Derived.Carry
namespace Go.Proofs.YtpbmclaglkcmoaaDoor
open Go.RowKit Go.ChangeShapes Go.WideShapes Go.Joins Go.Deep
open Go.ChangeMaps (open_string shut_string)
set_option linter.unusedVariables false
set_option linter.unusedSimpArgs false

theorem Tryd.laidOutR : laidOutB Tryd.prog = true := by kernel_rfl
theorem Tryd.cellsFrame : Tryd.prog.cellsOf 79 = 8 := by kernel_rfl

section
variable {H : Type} {enc : TypeId × Value → H} {P : Program} {W : World} {spare : Nat → Bool} {held : Bool}

/-- A struct of fields of one cell each, by value: its cells, each read by itself. -/
theorem open_onecells {r : Reach} {b0 : Nat} {t : TypeId} {fs : Array Field} {v : Value} {d : DataW H} {p : List MemPlace} (hs : P.underlying t = some (.struct fs)) (hone : oneCellFields P fs = true) (hC : P.cellsOf t = fs.size)
    (hv : Value.okWide P W r b0 t v) (h : DataW.Trod enc P W 0 spare held t v d p) :
    ∃ (cs : List Value) (n : Nat), v = .agg cs.toArray ∧ cs.length = fs.size ∧ ∀ (j : Nat) (f : Field), fs[j]? = some f → ∃ (c : Value) (y : DataW H × List MemPlace), cs[j]? = some c ∧ DataW.trod enc P W 0 spare held n f.type [c] = some y := by
  obtain ⟨cs, rfl, hsz⟩ := okWide_struct hs hv
  obtain ⟨l⟩ := cs
  obtain ⟨fuel, hf⟩ := h
  obtain ⟨xs, n, _, hx, _, hlen, hg⟩ := DataW.trod_struct hs hf
  have hl : l.length = fs.size := hsz.trans hC
  refine ⟨l, n, rfl, hl, fun j f hj => ?_⟩
  have hjl : j < fs.size := (Array.getElem?_eq_some_iff.1 hj).1
  obtain ⟨ho, hk⟩ := hone_of hone j f hj
  have h1 := hg j f hj
  rw [ho, hk] at h1
  have h2 : ((Value.cells (.agg l.toArray)).toList.drop j).take 1 = [l[j]'(by omega)] := by
    have hc : (Value.cells (.agg l.toArray)).toList = l := by simp [Value.cells]
    rw [hc, List.drop_eq_getElem_cons (by omega)]
    rfl
  rw [h2] at h1
  exact ⟨l[j]'(by omega), xs[j]'(by omega), List.getElem?_eq_getElem (by omega), h1.trans (List.getElem?_eq_getElem (by omega))⟩

theorem list8 {α : Type} {cs : List α} (h : cs.length = 8) : ∃ c0 c1 c2 c3 c4 c5 c6 c7, cs = [c0, c1, c2, c3, c4, c5, c6, c7] := by
  match cs, h with
  | [c0, c1, c2, c3, c4, c5, c6, c7], _ => exact ⟨c0, c1, c2, c3, c4, c5, c6, c7, rfl⟩

set_option maxRecDepth 100000 in
theorem open_frame {r : Reach} {b0 : Nat} {v : Value} {d : DataW H} {p : List MemPlace} (hv : Value.okWide Tryd.prog W r b0 79 v) (h : DataW.Trod enc Tryd.prog W 0 spare held 79 v d p) :
    ∃ (f : Fr), v = .agg #[.int .i64 f.fr, .int .i64 f.to, .int .i64 f.mine, .int .i64 f.yours, .int .i64 f.seq, .int .i64 f.ack, .string f.data, .bool f.has] ∧ ((Lit.int .i64 f.fr).wf = true ∧ (Lit.int .i64 f.to).wf = true ∧ (Lit.int .i64 f.mine).wf = true ∧ (Lit.int .i64 f.yours).wf = true ∧ (Lit.int .i64 f.seq).wf = true ∧ (Lit.int .i64 f.ack).wf = true) ∧ f.data.size ≤ maxLen := by
  obtain ⟨cs, n, rfl, hl, hf⟩ := open_onecells Tryd.underlying79 (by kernel_rfl) Tryd.cellsFrame hv h
  obtain ⟨c0, c1, c2, c3, c4, c5, c6, c7, rfl⟩ := list8 hl
  obtain ⟨b0, y0, hb0, ht0⟩ := hf 0 _ rfl
  obtain ⟨x0, e0, _, w0⟩ := DataW.trod_int Tryd.underlying3 ht0
  obtain ⟨b1, y1, hb1, ht1⟩ := hf 1 _ rfl
  obtain ⟨x1, e1, _, w1⟩ := DataW.trod_int Tryd.underlying3 ht1
  obtain ⟨b2, y2, hb2, ht2⟩ := hf 2 _ rfl
  obtain ⟨x2, e2, _, w2⟩ := DataW.trod_int Tryd.underlying3 ht2
  obtain ⟨b3, y3, hb3, ht3⟩ := hf 3 _ rfl
  obtain ⟨x3, e3, _, w3⟩ := DataW.trod_int Tryd.underlying3 ht3
  obtain ⟨b4, y4, hb4, ht4⟩ := hf 4 _ rfl
  obtain ⟨x4, e4, _, w4⟩ := DataW.trod_int Tryd.underlying3 ht4
  obtain ⟨b5, y5, hb5, ht5⟩ := hf 5 _ rfl
  obtain ⟨x5, e5, _, w5⟩ := DataW.trod_int Tryd.underlying3 ht5
  obtain ⟨b6, y6, hb6, ht6⟩ := hf 6 _ rfl
  obtain ⟨x6, e6, _, w6⟩ := DataW.trod_string Tryd.underlying9 ht6
  obtain ⟨b7, y7, hb7, ht7⟩ := hf 7 _ rfl
  obtain ⟨x7, e7, _⟩ := DataW.trod_bool Tryd.underlying4 ht7
  simp at hb0 e0 hb1 e1 hb2 e2 hb3 e3 hb4 e4 hb5 e5 hb6 e6 hb7 e7
  subst hb0 hb1 hb2 hb3 hb4 hb5 hb6 hb7
  subst e0 e1 e2 e3 e4 e5 e6 e7
  exact ⟨⟨x0, x1, x2, x3, x4, x5, x6, x7⟩, rfl, ⟨w0, w1, w2, w3, w4, w5⟩, w6⟩
end

end Go.Proofs.YtpbmclaglkcmoaaDoor
