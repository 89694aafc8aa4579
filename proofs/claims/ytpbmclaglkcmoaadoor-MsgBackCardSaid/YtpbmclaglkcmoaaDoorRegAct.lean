import Derived.Test.YtpbmclaglkcmoaaDoorRegInv
namespace Go.Proofs.YtpbmclaglkcmoaaDoor
open Go.RowKit
set_option linter.unusedVariables false

/-! Behind a region walked by wp_region_inv: the act, written out. -/
def putAll (a : Act) : List Oper → List Value → Act
  | o :: l, v :: vs => putAll (a.put o.dst v) l vs
  | _, _ => a

theorem put_size (a : Act) (d : Option Tmp) (v : Value) : (a.put d v).tmps.size = a.tmps.size := by cases d <;> simp [Act.put]
theorem put_defers (a : Act) (d : Option Tmp) (v : Value) : (a.put d v).defers = a.defers := by cases d <;> rfl

theorem putAll_getD : ∀ (l : List Oper) (vs : List Value) (a : Act), l.length = vs.length → ownDst l = true → fitsDst a.tmps.size l = true →
    (putAll a l vs).tmps.size = a.tmps.size ∧ (putAll a l vs).defers = a.defers ∧ (∀ t, (∀ (j : Nat) (o : Oper), l[j]? = some o → o.dst ≠ some t) → (putAll a l vs).tmps.getD t undef = a.tmps.getD t undef) ∧
    (∀ (j : Nat) (o : Oper) (v : Value) (d : Tmp), l[j]? = some o → vs[j]? = some v → o.dst = some d → (putAll a l vs).tmps.getD d undef = v)
  | [], vs, a, _, _, _ => ⟨rfl, rfl, fun _ _ => rfl, fun j o v d h => by simp at h⟩
  | o :: l, [], a, h, _, _ => by simp at h
  | o :: l, v :: vs, a, h, hown, hfit => by
    have hown' := hown
    simp only [ownDst, Bool.and_eq_true] at hown'
    have hfit' := hfit
    simp only [fitsDst, List.all_cons, Bool.and_eq_true] at hfit'
    have hsz := put_size a o.dst v
    obtain ⟨i1, i2, i3, i4⟩ := putAll_getD l vs (a.put o.dst v) (by simpa using h) hown'.2 (by rw [hsz]; exact hfit'.2)
    refine ⟨by rw [putAll, i1, hsz], by rw [putAll, i2, put_defers], ?_, ?_⟩
    · intro t ht
      rw [putAll, i3 t (fun j p hp => ht (j + 1) p (by simpa using hp))]
      cases hd : o.dst with
      | none => rfl
      | some d =>
        have hne : d ≠ t := fun e => ht 0 o rfl (by rw [hd, e])
        simp [Act.put, Array.getElem?_setIfInBounds_ne hne]
    · intro j p u d hp hu hd
      cases j with
      | zero =>
        simp at hp hu
        subst hp hu
        rw [putAll, i3 d (fun j q hq => ?_)]
        · have hlt : d < a.tmps.size := by
            have := hfit'.1
            rw [hd] at this
            simpa using this
          rw [hd]
          simp [Act.put, hlt]
        · exact ownDst_spec (o :: l) hown 0 (j + 1) o q d (by omega) rfl (by simpa using hq) hd
      | succ j => rw [putAll]; exact i4 j p u d (by simpa using hp) (by simpa using hu) hd

theorem RInv.act {md : Region.Mode} {l : List Oper} {a0 a : Act} {J : World → Prop} {F : Nat → Value → World → Prop} {w : World} (hI : RInv md l.toArray a0 J F (Array.replicate l.length true) a w)
    (vs : List Value) (hlen : l.length = vs.length) (hown : ownDst l = true) (hfit : fitsDst a0.tmps.size l = true) (hF : ∀ (j : Nat) (v u : Value), F j u w → vs[j]? = some v → u = v) : a = putAll a0 l vs := by
  obtain ⟨i1, i2, i3, i4⟩ := putAll_getD l vs a0 hlen hown hfit
  have hg : ∀ t, a.tmps.getD t undef = (putAll a0 l vs).tmps.getD t undef := by
    intro t
    by_cases ht : ∃ (j : Nat) (o : Oper), l[j]? = some o ∧ o.dst = some t
    · obtain ⟨j, o, ho, hd⟩ := ht
      have hj : j < l.length := (List.getElem?_eq_some_iff.1 ho).1
      have hv : vs[j]? = some vs[j] := List.getElem?_eq_getElem (by omega)
      have h := hI.fact j o (by simpa using ho) (by simp [Array.getD, hj])
      have := hF j _ _ h hv
      rw [hd] at this
      rw [i4 j o _ t ho hv hd]
      exact this
    · rw [i3 t (fun j o ho hd => ht ⟨j, o, ho, hd⟩)]
      exact hI.other t (fun j o ho hd => ht ⟨j, o, by simpa using ho, hd⟩)
  have hs : a.tmps.size = (putAll a0 l vs).tmps.size := by rw [hI.tsize, i1]
  have htm : a.tmps = (putAll a0 l vs).tmps := by
    apply Array.ext hs
    intro i h1 h2
    have := hg i
    simpa [h1, h2] using this
  cases a
  cases hp : putAll a0 l vs
  rw [hp] at htm i2
  simp only at htm i2
  rw [htm, i2]
  congr
  exact hI.defers
end Go.Proofs.YtpbmclaglkcmoaaDoor
