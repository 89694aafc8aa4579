import Derived.Test.YtpbmclaglkcmoaaDoorSess1
import Derived.Test.YtpbmclaglkcmoaaDoorClone
import Derived.LoopTactic
namespace Go.Proofs.YtpbmclaglkcmoaaDoor
open Go.RowKit
set_option linter.unusedVariables false
set_option linter.unusedSimpArgs false

/-! Frames. -/
def Fr.cs (f : Fr) : List Value := [.int .i64 f.fr, .int .i64 f.to, .int .i64 f.mine, .int .i64 f.yours, .int .i64 f.seq, .int .i64 f.ack, .string f.data, .bool f.has]
def frC : List Fr → List Value
  | [] => []
  | x :: l => .int .i64 x.fr :: .int .i64 x.to :: .int .i64 x.mine :: .int .i64 x.yours :: .int .i64 x.seq :: .int .i64 x.ack :: .string x.data :: .bool x.has :: frC l
theorem frC_append : ∀ (l m : List Fr), frC (l ++ m) = frC l ++ frC m
  | [], m => rfl
  | x :: l, m => by simp [frC, frC_append l m]
theorem frC_length : ∀ l : List Fr, (frC l).length = l.length * 8
  | [] => rfl
  | x :: l => by simp [frC, frC_length l]; omega
theorem frC_drop : ∀ (k : Nat) (l : List Fr), frC (l.drop k) = (frC l).drop (k * 8)
  | 0, l => by simp
  | k + 1, [] => by simp [frC]
  | k + 1, x :: l => by
    rw [show (k + 1) * 8 = k * 8 + 8 by omega]
    simpa [frC] using frC_drop k l
theorem frC_take : ∀ (k : Nat) (l : List Fr), frC (l.take k) = (frC l).take (k * 8)
  | 0, l => by simp [frC]
  | k + 1, [] => by simp [frC]
  | k + 1, x :: l => by
    rw [show (k + 1) * 8 = k * 8 + 8 by omega]
    simpa [frC] using frC_take k l
theorem frC_get : ∀ (l : List Fr) (j : Nat) (h : j < l.length), (frC l)[j * 8]? = some (.int .i64 l[j].fr) ∧ (frC l)[j * 8 + 1]? = some (.int .i64 l[j].to) ∧ (frC l)[j * 8 + 2]? = some (.int .i64 l[j].mine) ∧ (frC l)[j * 8 + 3]? = some (.int .i64 l[j].yours) ∧
    (frC l)[j * 8 + 4]? = some (.int .i64 l[j].seq) ∧ (frC l)[j * 8 + 5]? = some (.int .i64 l[j].ack) ∧ (frC l)[j * 8 + 6]? = some (.string l[j].data) ∧ (frC l)[j * 8 + 7]? = some (.bool l[j].has)
  | [], j, h => absurd h (Nat.not_lt_zero _)
  | x :: l, 0, h => ⟨rfl, rfl, rfl, rfl, rfl, rfl, rfl, rfl⟩
  | x :: l, j + 1, h => by
    have := frC_get l j (by simpa using h)
    rw [show (j + 1) * 8 = j * 8 + 8 by omega]
    simpa [frC] using this
theorem frC_one : ∀ (l : List Fr), ∀ u ∈ frC l, u.oneCell' = true
  | [], u, h => by cases h
  | x :: l, u, h => by
    simp only [frC, List.mem_cons] at h
    rcases h with rfl | rfl | rfl | rfl | rfl | rfl | rfl | rfl | h
    · rfl
    · rfl
    · rfl
    · rfl
    · rfl
    · rfl
    · rfl
    · rfl
    · exact frC_one l u h

theorem Tryd.info34w : (Tryd.prog.info? 79).map (fun i => (i.zero, i.size, i.bytes)) = some (some (.agg #[.int .i64 0, .int .i64 0, .int .i64 0, .int .i64 0, .int .i64 0, .int .i64 0, .string ⟨#[]⟩, .bool false]), 8, 72) := by kernel_rfl

set_option maxRecDepth 100000 in
theorem frame_calls (F : Nat → Prop) (S : Nat) (s : Se) (w : World) (h : SS F S s w) : Calls Tryd.prog 98 #[.pointer (some ⟨S, 0, none⟩)] w fun r w' =>
    r = .returned (.agg #[.int .i64 s.self, .int .i64 s.peer, .int .i64 s.mine, .int .i64 s.yours, .int .i64 0, .int .i64 s.heard, .string ⟨#[]⟩, .bool false]) ∧ Below w.heap.size w w' := by
  obtain ⟨R, M, hFS, hFR, hFM, hS, hR, hM, n1, n2, n3, hb, hr, hm, c0, c1, c2, c3, c4, c5, c6, c7, c8⟩ := h.cells
  clear h hb hr hm
  have k0 := World.new_ne w _ c0
  have k1 := World.new_ne w _ c1
  have k2 := World.new_ne w _ c2
  have k3 := World.new_ne w _ c3
  have k6 := World.new_ne w _ c6
  go_enter Tryd.func98, Tryd.ntmps98
  go_wp2
  go_region_held3 (fun w' => w'.cell? ⟨S, 0, none⟩ = some (.int .i64 s.self) ∧ w'.cell? ⟨S, 1, none⟩ = some (.int .i64 s.peer) ∧ w'.cell? ⟨S, 2, none⟩ = some (.int .i64 s.mine) ∧ w'.cell? ⟨S, 3, none⟩ = some (.int .i64 s.yours) ∧ w'.cell? ⟨S, 6, none⟩ = some (.int .i64 s.heard)) (go_keep) (fail)
  go_wp2
  exact bodyPost_ret (v := .agg #[.int .i64 s.self, .int .i64 s.peer, .int .i64 s.mine, .int .i64 s.yours, .int .i64 0, .int .i64 s.heard, .string ⟨#[]⟩, .bool false]) (by simp [results, Tryd.results98, go_sem]) rfl ⟨rfl, (al (Below.refl _ _) _).drew⟩

end Go.Proofs.YtpbmclaglkcmoaaDoor
