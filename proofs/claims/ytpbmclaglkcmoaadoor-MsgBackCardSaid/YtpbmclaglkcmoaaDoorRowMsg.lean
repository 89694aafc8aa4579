import Derived.Test.YtpbmclaglkcmoaaDoorMsgBack
import Derived.Lib.SmallJoins
import Derived.Carry
import Derived.WideShapes
namespace Go.Proofs.YtpbmclaglkcmoaaDoor
open Go.RowKit Go.ChangeShapes Go.WideShapes Go.Joins Go.Deep
open Go.ChangeMaps (open_string shut_string)
set_option linter.unusedVariables false
set_option linter.unusedSimpArgs false

theorem Tryd.laidOutR : laidOutB Tryd.prog = true := by kernel_rfl
theorem Tryd.cellsLock : Tryd.prog.cellsOf 101 = 3 := by kernel_rfl
theorem Tryd.cellsSpan : Tryd.prog.cellsOf 99 = 2 := by kernel_rfl
theorem Tryd.cellsMsg : Tryd.prog.cellsOf 53 = 8 := by kernel_rfl

section
variable {H : Type} {enc : TypeId × Value → H} {W : World} {spare : Nat → Bool} {held : Bool}

instance : Inhabited LockR := ⟨⟨0, 0, 0⟩⟩

theorem list3 {α : Type} {cs : List α} (h : cs.length = 3) : ∃ c0 c1 c2, cs = [c0, c1, c2] := by
  match cs, h with
  | [c0, c1, c2], _ => exact ⟨c0, c1, c2, rfl⟩
theorem list8 {α : Type} {cs : List α} (h : cs.length = 8) : ∃ c0 c1 c2 c3 c4 c5 c6 c7, cs = [c0, c1, c2, c3, c4, c5, c6, c7] := by
  match cs, h with
  | [c0, c1, c2, c3, c4, c5, c6, c7], _ => exact ⟨c0, c1, c2, c3, c4, c5, c6, c7, rfl⟩

theorem open_lock {n : Nat} {cs : List Value} {y : DataW H × List MemPlace} (h : DataW.trod enc Tryd.prog W 0 spare held n 101 cs = some y) : ∃ x : LockR, cs = [.int .i64 x.f, .int .i64 x.t, .int .i64 x.m] := by
  obtain ⟨xs, m, _, _, hl, hlen, hf⟩ := DataW.trod_struct Tryd.underlying101 h
  rw [Tryd.cellsLock] at hl
  obtain ⟨c0, c1, c2, rfl⟩ := list3 hl
  match xs, hlen with
  | [y0, y1], _ =>
    have h0 := hf 0 _ rfl
    have h1 := hf 1 _ rfl
    have k0 : Tryd.prog.cellsOf 3 = 1 := by kernel_rfl
    simp [Tryd.cellsSpan, k0] at h0 h1
    obtain ⟨zs, m2, _, _, _, hlen2, hf2⟩ := DataW.trod_struct Tryd.underlying99 h0
    match zs, hlen2 with
    | [z0, z1], _ =>
      have g0 := hf2 0 _ rfl
      have g1 := hf2 1 _ rfl
      simp [k0] at g0 g1
      obtain ⟨f, e0, _, _⟩ := DataW.trod_int Tryd.underlying3 g0
      obtain ⟨t, e1, _, _⟩ := DataW.trod_int Tryd.underlying3 g1
      obtain ⟨mm, e2, _, _⟩ := DataW.trod_int Tryd.underlying3 h1
      simp at e0 e1 e2
      subst e0 e1 e2
      exact ⟨⟨f, t, mm⟩, rfl⟩

theorem open_locks {n : Nat} {cs : List Value} {y : DataW H × List MemPlace} (h : DataW.trod enc Tryd.prog W 0 spare held n 51 cs = some y) :
    ∃ (A : Option Addr) (c : Nat) (l : List LockR), cs = [.slice A l.length c] ∧ l.length ≤ c ∧ c ≤ maxLen ∧ Locks W A l := by
  rcases open_slice Tryd.underlying51 h with ⟨rfl, _⟩ | ⟨a, len, cap, m, k, D, Pl, rfl, _, hl, hm, hmm, _, hx⟩
  · exact ⟨none, 0, [], rfl, Nat.le_refl _, Nat.zero_le _, Locks.nil _ _⟩
  · have hlm : len ≤ m := by rw [hmm]; split <;> omega
    have each : ∀ i, i < len → ∃ x : LockR, (W.cell? (a.add (i * 3)) = some (.int .i64 x.f) ∧ W.cell? ((a.add (i * 3)).add 1) = some (.int .i64 x.t) ∧ W.cell? ((a.add (i * 3)).add 2) = some (.int .i64 x.m)) := by
      intro i hi
      obtain ⟨cs', h1, h2⟩ := hx i (by omega)
      rw [Tryd.cellsLock] at h1
      obtain ⟨x, rfl⟩ := open_lock h2
      obtain ⟨_, _, hc⟩ := World.cells?_some h1
      have e0 := hc 0 (by decide)
      have e1 := hc 1 (by decide)
      have e2 := hc 2 (by decide)
      exact ⟨x, ⟨by simpa [Addr.add] using e0, by simpa using e1, by simpa using e2⟩⟩
    obtain ⟨f, hf⟩ := choose_lt each
    refine ⟨some a, cap, (List.range len).map f, by simp, by simpa using hl, hm, ?_⟩
    intro j hj
    have hj' : j < len := by simpa using hj
    obtain ⟨e0, e1, e2⟩ := hf j hj'
    have hsp : a.spot = none := by
      obtain ⟨f0, _, _⟩ := hf 0 (by omega)
      have := World.cell?_spot f0
      simpa [Addr.add] using this
    obtain ⟨b, o, sp⟩ := a
    simp only at hsp
    subst hsp
    refine ⟨b, o, rfl, ?_, ?_, ?_⟩
    · rw [add_plain] at e0
      simpa using e0
    · rw [add_plain, add_plain] at e1
      simpa using e1
    · rw [add_plain, add_plain] at e2
      simpa using e2

set_option maxRecDepth 100000 in
theorem open_msg {r : Reach} {b0 : Nat} {v : Value} {d : DataW H} {p : List MemPlace} (hv : Value.okWide Tryd.prog W r b0 53 v) (h : DataW.Trod enc Tryd.prog W 0 spare held 53 v d p) :
    ∃ (A : Option Addr) (c : Nat) (m : MsgR), v = msgV m A c ∧ m.locks.length ≤ c ∧ c ≤ maxLen ∧ Locks W A m.locks ∧ (Lit.int .u64 m.epoch).wf = true := by
  obtain ⟨cs, rfl, hsz⟩ := okWide_struct Tryd.underlying53 hv
  obtain ⟨fuel, hf⟩ := h
  obtain ⟨xs, n, _, _, hl, hlen, hf⟩ := DataW.trod_struct Tryd.underlying53 hf
  have hl8 : cs.toList.length = 8 := by
    have := hsz.trans Tryd.cellsMsg
    simpa using this
  obtain ⟨cs⟩ := cs
  simp only at hl8
  obtain ⟨c0, c1, c2, c3, c4, c5, c6, c7, rfl⟩ := list8 hl8
  have k0 : Tryd.prog.cellsOf 3 = 1 := by kernel_rfl
  have k1 : Tryd.prog.cellsOf 30 = 1 := by kernel_rfl
  have k2 : Tryd.prog.cellsOf 25 = 1 := by kernel_rfl
  have k3 : Tryd.prog.cellsOf 51 = 1 := by kernel_rfl
  match xs, hlen with
  | [y0, y1, y2, y3, y4, y5, y6, y7], _ =>
    have h0 := hf 0 _ rfl
    have h1 := hf 1 _ rfl
    have h2 := hf 2 _ rfl
    have h3 := hf 3 _ rfl
    have h4 := hf 4 _ rfl
    have h5 := hf 5 _ rfl
    have h6 := hf 6 _ rfl
    have h7 := hf 7 _ rfl
    simp [k0, k1, k2, k3, Value.cells] at h0 h1 h2 h3 h4 h5 h6 h7
    obtain ⟨a0, e0, _, _⟩ := DataW.trod_int Tryd.underlying3 h0
    obtain ⟨a1, e1, _, _⟩ := DataW.trod_int Tryd.underlying3 h1
    obtain ⟨a2, e2, _, _⟩ := DataW.trod_int Tryd.underlying3 h2
    obtain ⟨a3, e3, _, _⟩ := DataW.trod_int Tryd.underlying3 h3
    obtain ⟨a4, e4, _, _⟩ := DataW.trod_int Tryd.underlying3 h4
    obtain ⟨a5, e5, _, w5⟩ := DataW.trod_int Tryd.underlying30 h5
    obtain ⟨a6, e6, _, _⟩ := DataW.trod_int Tryd.underlying25 h6
    obtain ⟨A, c, l, e7, g1, g2, g3⟩ := open_locks h7
    simp at e0 e1 e2 e3 e4 e5 e6 e7
    subst e0 e1 e2 e3 e4 e5 e6 e7
    exact ⟨A, c, ⟨a0, a1, a2, a3, a4, a5, a6, l⟩, rfl, g1, g2, g3, w5⟩
end

theorem msgBack_row (A : Option Addr) (c : Nat) (m : MsgR) (cut : Int) (w : World) (hc : m.locks.length ≤ c) (hm : c ≤ maxLen) (hI : Locks w A m.locks) (he : (Lit.int .u64 m.epoch).wf = true) (hcut : (Lit.int .i64 cut).wf = true) :
    Calls Tryd.prog 5 #[msgV m A c, .int .i64 cut] w fun r w' => r = .returned (.bool true) ∧ Below w.heap.size w w' := by
  have hb := Go.bounds_u64 he
  exact msgBack_calls m A c cut w hI hc (by simp only [maxLen] at hm; omega) ⟨hb.1, by omega⟩

end Go.Proofs.YtpbmclaglkcmoaaDoor
