import Derived.Test.YtpbmclaglkcmoaaSessRoom
import Derived.SliceStrings
import Derived.WideShapes
import Derived.Carry
namespace Go.Proofs.Ytpbmclaglkcmoaa
open Go.RowKit Go.ChangeShapes Go.WideShapes
set_option linter.unusedVariables false
set_option linter.unusedSimpArgs false

theorem Try.laidOutR : laidOutB Try.prog = true := by kernel_rfl
theorem Try.cellsStrR : Try.prog.cellsOf 9 = 1 := by kernel_rfl

section
variable {H : Type} {enc : TypeId × Value → H} {W : World} {spare : Nat → Bool} {held : Bool}

set_option maxRecDepth 100000 in
theorem open_strs2 {r : Reach} {b0 : Nat} {v : Value} {d : DataW H} {p : List MemPlace} (hv : Value.okWide Try.prog W r b0 27 v) (h : DataW.Trod enc Try.prog W 0 spare held 27 v d p) :
    ∃ (A : Option Addr) (c : Nat) (sl : List ByteArray), v = .slice A sl.length c ∧ sl.length ≤ c ∧ c ≤ maxLen ∧ StrsT W A sl ∧ ∀ x ∈ sl, x.size ≤ maxLen := by
  obtain ⟨a0, len, cap, rfl⟩ := okWide_slice Try.underlying27 hv
  obtain ⟨fuel, hf⟩ := h
  rcases open_strings Try.underlying27 Try.underlying9 Try.cellsStrR hf with ⟨hcs, _⟩ | ⟨a, len', cap', ss, hcs, _, hl, hm, hz, _, hcell, hws⟩
  · simp [Value.cells] at hcs
    obtain ⟨rfl, rfl, rfl⟩ := hcs
    exact ⟨none, 0, [], rfl, Nat.le_refl _, Nat.zero_le _, (fun j hj => absurd hj (Nat.not_lt_zero _)), fun x hx => by cases hx⟩
  · simp [Value.cells] at hcs
    obtain ⟨rfl, rfl, rfl⟩ := hcs
    have hls : len ≤ ss.length := by rw [hz]; split <;> omega
    have hll : (ss.take len).length = len := by rw [List.length_take]; omega
    refine ⟨some a, cap, ss.take len, by rw [hll], by rw [hll]; exact hl, hm, ?_, fun x hx => hws x (List.mem_of_mem_take hx)⟩
    intro j hj
    have hj' : j < ss.length := by rw [hll] at hj; omega
    refine ⟨a, rfl, ?_⟩
    rw [hcell j hj', List.getElem_take]
    simp [List.getD, hj']
end

end Go.Proofs.Ytpbmclaglkcmoaa
