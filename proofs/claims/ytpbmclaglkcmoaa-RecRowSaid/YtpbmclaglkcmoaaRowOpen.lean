import Derived.Test.YtpbmclaglkcmoaaRecHeads
import Derived.Lib.SmallJoins
import Derived.Carry
namespace Go.Proofs.Ytpbmclaglkcmoaa
open Go.RowKit Go.ChangeShapes Go.WideShapes Go.Joins Go.Deep
open Go.ChangeMaps (open_string shut_string)
set_option linter.unusedVariables false
set_option linter.unusedSimpArgs false

theorem Try.laidOutR : laidOutB Try.prog = true := by kernel_rfl
theorem Try.cellsHead : Try.prog.cellsOf 74 = 3 := by kernel_rfl
theorem Try.cellsRec : Try.prog.cellsOf 64 = 3 := by kernel_rfl
theorem Try.cellsImg : Try.prog.cellsOf 99 = 3 := by kernel_rfl

section
variable {H : Type} {enc : TypeId × Value → H} {W : World} {spare : Nat → Bool} {held : Bool}

set_option maxRecDepth 100000 in
theorem open_head {r : Reach} {b0 : Nat} {v : Value} {d : DataW H} {p : List MemPlace} (hv : Value.okWide Try.prog W r b0 74 v) (h : DataW.Trod enc Try.prog W 0 spare held 74 v d p) :
    ∃ e l a : Int, v = .agg #[.int .u64 e, .int .u64 l, .int .i64 a] ∧ (Lit.int .u64 e).wf = true ∧ (Lit.int .u64 l).wf = true ∧ (Lit.int .i64 a).wf = true := by
  obtain ⟨c0, c1, c2, y0, y1, y2, m, rfl, rfl, rfl, h0, h1, h2⟩ := open_agg3 Try.underlying74 (by kernel_rfl) Try.cellsHead hv h
  obtain ⟨e, e0, rfl, we⟩ := DataW.trod_int Try.underlying61 h0
  obtain ⟨l, e1, rfl, wl⟩ := DataW.trod_int Try.underlying61 h1
  obtain ⟨a, e2, rfl, wa⟩ := DataW.trod_int Try.underlying3 h2
  simp at e0 e1 e2
  subst e0 e1 e2
  exact ⟨e, l, a, rfl, we, wl, wa⟩

instance : Inhabited Img := ⟨⟨0, 0, ByteArray.empty⟩⟩

def ImgWf (y : Img) : Prop := (Lit.int .i64 y.b).wf = true ∧ (Lit.int .u64 y.v).wf = true ∧ y.d.size ≤ maxLen

theorem list3 {α : Type} {cs : List α} (h : cs.length = 3) : ∃ c0 c1 c2, cs = [c0, c1, c2] := by
  match cs, h with
  | [c0, c1, c2], _ => exact ⟨c0, c1, c2, rfl⟩

theorem open_img {n : Nat} {cs : List Value} {y : DataW H × List MemPlace} (h : DataW.trod enc Try.prog W 0 spare held n 99 cs = some y) : ∃ x : Img, cs = [.int .i64 x.b, .int .u64 x.v, .string x.d] ∧ ImgWf x := by
  obtain ⟨y0, y1, y2, m, _, hl, h0, h1, h2⟩ := trod_struct3 Try.underlying99 h
  rw [Try.cellsImg] at hl
  obtain ⟨c0, c1, c2, rfl⟩ := list3 hl
  obtain ⟨b, e0, _, wb⟩ := DataW.trod_int Try.underlying3 h0
  obtain ⟨v, e1, _, wv⟩ := DataW.trod_int Try.underlying61 h1
  obtain ⟨d, e2, _, wd⟩ := DataW.trod_string Try.underlying9 h2
  have k0 : Try.prog.cellsOf 3 = 1 := by kernel_rfl
  have k1 : Try.prog.cellsOf 61 = 1 := by kernel_rfl
  have k2 : Try.prog.cellsOf 9 = 1 := by kernel_rfl
  simp only [k0] at e0
  simp only [k1] at e1
  simp only [k2] at e2
  simp at e0 e1 e2
  subst e0 e1 e2
  exact ⟨⟨b, v, d⟩, rfl, wb, wv, wd⟩

theorem open_imgs {n : Nat} {cs : List Value} {y : DataW H × List MemPlace} (h : DataW.trod enc Try.prog W 0 spare held n 62 cs = some y) :
    ∃ (A : Option Addr) (c : Nat) (im : List Img), cs = [.slice A im.length c] ∧ im.length ≤ c ∧ c ≤ maxLen ∧ Imgs W A im ∧ ∀ x ∈ im, ImgWf x := by
  rcases open_slice Try.underlying62 h with ⟨rfl, _⟩ | ⟨a, len, cap, m, k, D, Pl, rfl, _, hl, hm, hmm, _, hx⟩
  · exact ⟨none, 0, [], rfl, Nat.le_refl _, Nat.zero_le _, Imgs.nil _ _, fun x hx => by cases hx⟩
  · have hlm : len ≤ m := by rw [hmm]; split <;> omega
    have each : ∀ i, i < len → ∃ x : Img, (W.cell? (a.add (i * 3)) = some (.int .i64 x.b) ∧ W.cell? ((a.add (i * 3)).add 1) = some (.int .u64 x.v) ∧ W.cell? ((a.add (i * 3)).add 2) = some (.string x.d)) ∧ ImgWf x := by
      intro i hi
      obtain ⟨cs', h1, h2⟩ := hx i (by omega)
      rw [Try.cellsImg] at h1
      obtain ⟨x, rfl, hw⟩ := open_img h2
      obtain ⟨_, _, hc⟩ := World.cells?_some h1
      have e0 := hc 0 (by decide)
      have e1 := hc 1 (by decide)
      have e2 := hc 2 (by decide)
      exact ⟨x, ⟨by simpa [Addr.add] using e0, by simpa using e1, by simpa using e2⟩, hw⟩
    obtain ⟨f, hf⟩ := choose_lt each
    refine ⟨some a, cap, (List.range len).map f, by simp, by simpa using hl, hm, ?_, ?_⟩
    · intro j hj
      have hj' : j < len := by simpa using hj
      obtain ⟨⟨e0, e1, e2⟩, _⟩ := hf j hj'
      have hsp : a.spot = none := by
        obtain ⟨⟨f0, _, _⟩, _⟩ := hf 0 (by omega)
        have := World.cell?_spot f0
        simpa [Addr.add] using this
      obtain ⟨b, o, sp⟩ := a
      simp only at hsp
      subst hsp
      refine ⟨b, o, rfl, ?_, ?_, ?_⟩
      · rw [add_plain] at e0
        simpa using e0
      · rw [add_plain, add_plain] at e1
        simpa using e1
      · rw [add_plain, add_plain] at e2
        simpa using e2
    · intro x hx
      obtain ⟨i, hi, rfl⟩ := List.mem_map.1 hx
      exact (hf i (List.mem_range.1 hi)).2

set_option maxRecDepth 100000 in
theorem open_rec {r : Reach} {b0 : Nat} {v : Value} {d : DataW H} {p : List MemPlace} (hv : Value.okWide Try.prog W r b0 64 v) (h : DataW.Trod enc Try.prog W 0 spare held 64 v d p) :
    ∃ (e l : Int) (A : Option Addr) (c : Nat) (im : List Img), v = .agg #[.int .u64 e, .int .u64 l, .slice A im.length c] ∧ (Lit.int .u64 e).wf = true ∧ (Lit.int .u64 l).wf = true ∧ im.length ≤ c ∧ c ≤ maxLen ∧ Imgs W A im ∧ ∀ x ∈ im, ImgWf x := by
  obtain ⟨c0, c1, c2, y0, y1, y2, m, rfl, rfl, rfl, h0, h1, h2⟩ := open_agg3 Try.underlying64 (by kernel_rfl) Try.cellsRec hv h
  obtain ⟨e, e0, rfl, we⟩ := DataW.trod_int Try.underlying61 h0
  obtain ⟨l, e1, rfl, wl⟩ := DataW.trod_int Try.underlying61 h1
  obtain ⟨A, c, im, e2, hc, hm, hI, hw⟩ := open_imgs h2
  simp at e0 e1 e2
  subst e0 e1 e2
  exact ⟨e, l, A, c, im, rfl, we, wl, hc, hm, hI, hw⟩
end

end Go.Proofs.Ytpbmclaglkcmoaa
