import Derived.Test.YtpbmclaglkcmoaaDoorSess6
namespace Go.Proofs.YtpbmclaglkcmoaaDoor
open Go.RowKit
set_option linter.unusedVariables false
set_option linter.unusedSimpArgs false

/-! The map of what was heard ahead: read, stored, taken from. -/
theorem zeroStr (w : World) : (zeroValue 9).run Tryd.prog w = .ok (.string ⟨#[]⟩) w := by kernel_rfl
theorem strEl_mk (s : ByteArray) (h : s.size ≤ maxLen) : strEl (.string s) = some (.lit (.string s.data.toList), []) := plainElem_string Tryd.underlying9 h
theorem wf_int (x : Int) (h0 : -9223372036854775808 ≤ x) (h1 : x ≤ 9223372036854775807) : (intKey x).wf = true := by
  have e1 : IntKind.i64.min = -9223372036854775808 := by decide
  have e2 : IntKind.i64.max = 9223372036854775807 := by decide
  show (decide (IntKind.i64.min ≤ x) && decide (x ≤ IntKind.i64.max)) = true
  rw [e1, e2]
  simp [h0, h1]

set_option maxRecDepth 100000 in
theorem Mp.look {F : Nat → Prop} {M : Nat} {m : Int → Option ByteArray} {w : World} (h : Mp F M m w) (x : Int) (hx : (intKey x).wf = true) :
    (Instr.lookup 131 (.map (some M)) (.int .i64 x) true).run Tryd.prog w = .ok (.tuple #[.string ((m x).getD ⟨#[]⟩), .bool (m x).isSome]) w := by
  obtain ⟨_, n, D, h1, h2⟩ := h
  obtain ⟨v, ps, hrun, hv⟩ := h1.look_ok intKeyed Tryd.underlying131 (zeroStr w) (strEl_mk ⟨#[]⟩ (by decide)) (Maps.keyOf_int_mk Tryd.underlying3 hx)
  obtain ⟨h3, h4⟩ := h2 x hx
  have h3' : Maps.has D (Lit.int .i64 x) = (m x).isSome := h3
  rw [h3'] at hrun
  obtain ⟨s, rfl, hs, _⟩ := plainElem_string_inv Tryd.underlying9 hv
  rw [hrun]
  congr 3
  cases hm : m x with
  | some d =>
    have := h4 d hm (.lit (.string []))
    simp only [Prod.mk.injEq] at hs
    have e : D.atKey (Lit.int .i64 x) (.lit (.string (⟨#[]⟩ : ByteArray).data.toList)) = .lit (.string d.data.toList) := this
    rw [e] at hs
    simp only [DataW.lit.injEq, Lit.string.injEq] at hs
    have : s = d := by
      apply ByteArray.ext
      apply Array.ext'
      exact hs.1.symm
    rw [this]
    rfl
  | none =>
    rw [hm] at h3
    have e := Maps.atKey_of_not_has (D := D) (k := intKey x) h3 (.lit (.string (⟨#[]⟩ : ByteArray).data.toList))
    simp only [Prod.mk.injEq] at hs
    have e2 : D.atKey (Lit.int .i64 x) (.lit (.string (⟨#[]⟩ : ByteArray).data.toList)) = .lit (.string (⟨#[]⟩ : ByteArray).data.toList) := e
    rw [e2] at hs
    simp only [DataW.lit.injEq, Lit.string.injEq] at hs
    have : s = ⟨#[]⟩ := by
      apply ByteArray.ext
      apply Array.ext'
      exact hs.1.symm
    rw [this]
    rfl

theorem Mp.store {F : Nat → Prop} {M : Nat} {m : Int → Option ByteArray} {w : World} (h : Mp F M m w) {a : Int} (hb : ∀ x d, m x = some d → a < x ∧ x ≤ a + 65) (x : Int) (hx : (intKey x).wf = true) (s : ByteArray) (hs : s.size ≤ maxLen) :
    ∃ w', (Instr.mapUpdate 131 (.map (some M)) (.int .i64 x) (.string s)).run Tryd.prog w = .ok () w' ∧ Mp F M (putAhead m x s) w' ∧ w.grownBy w' (some M) := by
  obtain ⟨hF, n, D, h1, h2⟩ := h
  have h1' : w.ownsMap (H := Unit) Tryd.prog 3 strEl M 65 D := ownsMap_size h1 (a := a) (c := 65) (fun y hy hh => by
    rw [(h2 y hy).1] at hh
    obtain ⟨d, hd⟩ := Option.isSome_iff_exists.1 hh
    exact hb y d hd)
  obtain ⟨w', hrun, ho, ht⟩ := h1'.store intKeyed Tryd.underlying131 (by unfold maxLen; omega) (Maps.keyOf_int_mk Tryd.underlying3 hx) (strEl_mk s hs)
  refine ⟨w', hrun, ⟨hF, _, _, ho, fun y hy => ?_⟩, ht.grown⟩
  have him := h1.isMap
  by_cases hyx : y = x
  · subst hyx
    refine ⟨?_, fun d hd z => ?_⟩
    · simp only [putAhead, if_true, Option.isSome_some]
      exact Maps.has_put_same him (k := intKey y) trivial _
    · simp only [putAhead, if_true, Option.some.injEq] at hd
      subst hd
      exact Maps.atKey_put_same him (k := intKey y) trivial _ _
  · have hne : intKey y ≠ intKey x := fun e => hyx (by injection e)
    simp only [putAhead, if_neg hyx]
    refine ⟨?_, fun d hd z => ?_⟩
    · rw [← (h2 y hy).1]
      exact Maps.has_put_other hne _
    · rw [← (h2 y hy).2 d hd z]
      exact Maps.atKey_put_other hne _ _

theorem Mp.drop {F : Nat → Prop} {M : Nat} {m : Int → Option ByteArray} {w : World} (h : Mp F M m w) (x : Int) (hx : (intKey x).wf = true) (ty : TypeId) :
    ∃ w', (Builtin.delete_ #[131, 3] ty #[.map (some M), .int .i64 x]).run Tryd.prog w = .ok (.tuple #[]) w' ∧ Mp F M (delAhead m x) w' ∧ w.grownBy w' (some M) := by
  obtain ⟨hF, n, D, h1, h2⟩ := h
  obtain ⟨w', hrun, ho, ht⟩ := h1.drop intKeyed Tryd.underlying131 (Maps.keyOf_int_mk Tryd.underlying3 hx) ty
  refine ⟨w', hrun, ⟨hF, _, _, ho, fun y hy => ?_⟩, ht.grown⟩
  by_cases hyx : y = x
  · subst hyx
    refine ⟨?_, fun d hd z => ?_⟩
    · simp only [delAhead, if_true, Option.isSome_none]
      exact Maps.has_del_same
    · simp [delAhead] at hd
  · have hne : intKey y ≠ intKey x := fun e => hyx (by injection e)
    simp only [delAhead, if_neg hyx]
    refine ⟨?_, fun d hd z => ?_⟩
    · rw [← (h2 y hy).1]
      exact Maps.has_del_other hne
    · rw [← (h2 y hy).2 d hd z]
      exact Maps.atKey_del_other hne _

theorem step_delete {ops : Array Oper} {o : Oper} {a : Act} {w : World} {K : Act → World → Prop} {Q : Exit → Act → World → Prop} {E : Prop} (hgd : o.guard = none) (m x : Operand)
    (ho : o.op = .call { callee := .builtin .delete, args := #[m, x], argTypes := #[131, 3] })
    {F : Nat → Prop} {M : Nat} {mp : Int → Option ByteArray} (h : Mp F M mp w) (q : Int) (hq : (intKey q).wf = true) (hm : a.eval m = .map (some M)) (hx : a.eval x = .int .i64 q)
    (hK : ∀ w', Mp F M (delAhead mp q) w' → w.grownBy w' (some M) → K (a.put o.dst (.tuple #[])) w') :
    if Region.wanted o (yielded ops a.tmps) = true then Oper.wp Tryd.prog o a w K Q else E := by
  have hw : Region.wanted o (yielded ops a.tmps) = true := by simp [Region.wanted, hgd]
  rw [if_pos hw]
  obtain ⟨w', hr, h2, h3⟩ := h.drop q hq o.type
  unfold Oper.wp
  simp [execOp, ho, resolve, invoke, builtin, hm, hx, hr, Result.andThen]
  exact hK w' h2 h3

end Go.Proofs.YtpbmclaglkcmoaaDoor
