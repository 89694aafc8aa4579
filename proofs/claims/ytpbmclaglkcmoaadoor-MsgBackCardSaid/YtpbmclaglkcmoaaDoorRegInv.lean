import Derived.Orders
import Derived.WalkKit
import Derived.Below
namespace Go.Proofs.YtpbmclaglkcmoaaDoor
open Go.RowKit
set_option linter.unusedVariables false

/-! A rule for a drawn region whose operations make memory: one fact for each operation's value, kept by whatever comes behind it. -/
section
variable {P : Program} {ops : Array Oper} {Q : Exit → Act → World → Prop} {md : Region.Mode}

def valOf (a : Act) (d : Option Tmp) : Value := match d with
  | some t => a.tmps.getD t undef
  | none => undef

/-- The operations' temporaries are their own. -/
def ownDst : List Oper → Bool
  | [] => true
  | o :: l => (l.all fun p => match o.dst with | some d => p.dst != some d | none => true) && ownDst l

/-- Each operation waits for elder ones alone. -/
def elderOnly (md : Region.Mode) : Nat → List Oper → Bool
  | _, [] => true
  | n, o :: l => (o.after.all fun e => !Region.binds md e || decide (e.on < n)) && elderOnly md (n + 1) l

structure RInv (md : Region.Mode) (ops : Array Oper) (a0 : Act) (J : World → Prop) (F : Nat → Value → World → Prop) (listed : Array Bool) (a : Act) (w : World) : Prop where
  size : listed.size = ops.size
  defers : a.defers = a0.defers
  tsize : a.tmps.size = a0.tmps.size
  other : ∀ t, (∀ (j : Nat) (o : Oper), ops[j]? = some o → o.dst ≠ some t) → a.tmps.getD t undef = a0.tmps.getD t undef
  hJ : J w
  fact : ∀ (j : Nat) (o : Oper), ops[j]? = some o → listed.getD j false = true → F j (valOf a o.dst) w

theorem count_set_true : ∀ (l : List Bool) (i : Nat), l[i]? = some false → (l.set i true).count false + 1 = l.count false
  | [], i, h => by simp at h
  | b :: l, 0, h => by
    simp at h
    subst h
    simp
  | b :: l, i + 1, h => by
    have := count_set_true l i (by simpa using h)
    simp only [List.set_cons_succ, List.count_cons]
    omega

theorem ownDst_spec : ∀ (l : List Oper), ownDst l = true → ∀ (i j : Nat) (oi oj : Oper) (d : Tmp), i < j → l[i]? = some oi → l[j]? = some oj → oi.dst = some d → oj.dst ≠ some d
  | [], _, i, j, oi, oj, d, _, hi, _, _ => by simp at hi
  | o :: l, h, i, j, oi, oj, d, hij, hi, hj, hd => by
    simp only [ownDst, Bool.and_eq_true] at h
    cases j with
    | zero => omega
    | succ j =>
      cases i with
      | zero =>
        simp at hi hj
        subst hi
        have h1 := List.all_eq_true.1 h.1 oj (List.mem_of_getElem? hj)
        simp only [hd] at h1
        simpa using h1
      | succ i => exact ownDst_spec l h.2 i j oi oj d (by omega) (by simpa using hi) (by simpa using hj) hd

theorem elderOnly_spec : ∀ (l : List Oper) (n : Nat), elderOnly md n l = true → ∀ (i : Nat) (o : Oper), l[i]? = some o → ∀ e ∈ o.after, Region.binds md e = true → e.on < n + i
  | [], n, _, i, o, hi, e, _, _ => by simp at hi
  | p :: l, n, h, i, o, hi, e, he, hb => by
    simp only [elderOnly, Bool.and_eq_true] at h
    cases i with
    | zero =>
      simp at hi
      subst hi
      have h1 := Array.all_eq_true_iff_forall_mem.1 h.1 e he
      simp only [hb, Bool.not_true, Bool.false_or, decide_eq_true_eq] at h1
      omega
    | succ i =>
      have := elderOnly_spec l (n + 1) h.2 i o (by simpa using hi) e he hb
      omega

/-- Of those that an operation waits for the facts are known. -/
def RPre (md : Region.Mode) (ops : Array Oper) (F : Nat → Value → World → Prop) (o : Oper) (a : Act) (w : World) : Prop :=
  ∀ e ∈ o.after, Region.binds md e = true → ∀ oe, ops[e.on]? = some oe → F e.on (valOf a oe.dst) w
/-- What is not the region's stays. -/
def ROth (ops : Array Oper) (a a0 : Act) : Prop := ∀ t, (∀ (j : Nat) (o : Oper), ops[j]? = some o → o.dst ≠ some t) → a.tmps.getD t undef = a0.tmps.getD t undef

/-- What an operation is to show: over each state in which those that it waits for have come up. -/
def RStep (P : Program) (md : Region.Mode) (ops : Array Oper) (Q : Exit → Act → World → Prop) (a0 : Act) (J : World → Prop) (S : World → World → Prop) (F : Nat → Value → World → Prop) (i : Nat) (o : Oper) : Prop :=
  ∀ (a : Act) (w : World), a.defers = a0.defers → a.tmps.size = a0.tmps.size → ROth ops a a0 → J w → RPre md ops F o a w →
    ∀ K : Act → World → Prop, (∀ v w', J w' → S w w' → F i v w' → K (a.put o.dst v) w') →
    if Region.wanted o (yielded ops a.tmps) then o.wp P a w K Q else K (a.put o.dst undef) w

theorem wpAny_inv (a0 : Act) (J : World → Prop) (S : World → World → Prop) (F : Nat → Value → World → Prop)
    (hown : ownDst ops.toList = true) (held : elderOnly md 0 ops.toList = true)
    (hfit : ∀ (j : Nat) (o : Oper) (d : Tmp), ops[j]? = some o → o.dst = some d → d < a0.tmps.size)
    (hnone : ∀ (j : Nat) (o : Oper) v u w, ops[j]? = some o → o.dst = none → F j v w → F j u w)
    (hS : ∀ j v w w', F j v w → J w → S w w' → F j v w')
    (hop : ∀ (i : Nat) (o : Oper), ops[i]? = some o → RStep P md ops Q a0 J S F i o)
    (hend : ∀ a w, RInv md ops a0 J F (Array.replicate ops.size true) a w → Q .normal a w) :
    ∀ (fuel : Nat) (listed : Array Bool) (a : Act) (w : World), listed.toList.count false ≤ fuel → RInv md ops a0 J F listed a w → wpAny P md ops Q fuel listed a w := by
  have hdone : ∀ (listed : Array Bool) (a : Act) (w : World), RInv md ops a0 J F listed a w → Region.ready md ops listed = [] → Q .normal a w := by
    intro listed a w hI hr
    have hall : ∀ j, j < ops.size → listed.getD j false = true := by
      intro j
      induction j using Nat.strongRecOn with
      | ind j ih =>
        intro hj
        have hjl : j < listed.size := by rw [hI.size]; exact hj
        cases hb : listed.getD j false with
        | true => rfl
        | false =>
          exfalso
          have hm : j ∈ Region.ready md ops listed := by
            refine mem_ready.2 ⟨?_, ops[j], Array.getElem?_eq_getElem hj, fun e he hbd => ?_⟩
            · simpa [Array.getD, hjl] using hb
            · have hlt := elderOnly_spec ops.toList 0 held j ops[j] (by simp [hj]) e he hbd
              exact ih e.on (by omega) (by omega)
          rw [hr] at hm
          cases hm
    refine hend a w ?_
    have he : listed = Array.replicate ops.size true := by
      apply Array.ext
      · simp [hI.size]
      · intro i h1 h2
        have := hall i (by rw [← hI.size]; exact h1)
        simpa [Array.getD, h1] using this
    rw [← he]
    exact hI
  intro fuel
  induction fuel with
  | zero =>
    intro listed a w hc hI
    have hr : Region.ready md ops listed = [] := by
      apply List.eq_nil_iff_forall_not_mem.2
      intro j hj
      obtain ⟨h0, o, ho, _⟩ := mem_ready.1 hj
      have hjl : j < listed.size := by rw [hI.size]; exact (Array.getElem?_eq_some_iff.1 ho).1
      have h1 : listed[j] = false := by simpa [Array.getD, hjl] using h0
      have h2 : false ∈ listed.toList := by rw [← h1]; exact Array.getElem_mem_toList hjl
      have := List.count_pos_iff.2 h2
      omega
    exact ⟨hr, hdone listed a w hI hr⟩
  | succ fuel ih =>
    intro listed a w hc hI
    refine ⟨hdone listed a w hI, fun i hi => ?_⟩
    obtain ⟨h0, o, ho, hall⟩ := mem_ready.1 hi
    have hil : i < listed.size := by rw [hI.size]; exact (Array.getElem?_eq_some_iff.1 ho).1
    have h1 : listed[i] = false := by simpa [Array.getD, hil] using h0
    have hcount : (listed.setIfInBounds i true).toList.count false ≤ fuel := by
      have := count_set_true listed.toList i (by simp [hil, h1])
      rw [Array.toList_setIfInBounds]
      omega
    have hput : ∀ v w', J w' → (∀ (j : Nat) (oj : Oper), ops[j]? = some oj → listed.getD j false = true → F j (valOf a oj.dst) w') → F i v w' → RInv md ops a0 J F (listed.setIfInBounds i true) (a.put o.dst v) w' := by
      intro v w' hj' hf' hfi
      refine ⟨by simpa using hI.size, ?_, ?_, ?_, hj', ?_⟩
      · rw [← hI.defers]; cases o.dst <;> rfl
      · rw [← hI.tsize]; cases o.dst <;> simp [Act.put]
      · intro t ht
        rw [← hI.other t ht]
        cases hd : o.dst with
        | none => rfl
        | some d =>
          have hne : d ≠ t := fun e => ht i o ho (by rw [hd, e])
          simp [Act.put, Array.getElem?_setIfInBounds_ne hne]
      · intro j oj hoj hlj
        by_cases hji : j = i
        · subst hji
          rw [ho] at hoj
          cases hoj
          cases hd : o.dst with
          | none => exact hnone j o v _ w' ho hd hfi
          | some d =>
            have hdl : d < a.tmps.size := by rw [hI.tsize]; exact hfit j o d ho hd
            simpa [valOf, Act.put, hdl] using hfi
        · have hlj' : listed.getD j false = true := by rw [← getD_set_ne false (Ne.symm hji)]; exact hlj
          have := hf' j oj hoj hlj'
          cases hd : o.dst with
          | none => exact this
          | some d =>
            cases hdj : oj.dst with
            | none => rw [hdj] at this; exact this
            | some dj =>
              have hne : d ≠ dj := by
                intro e
                subst e
                rcases Nat.lt_or_gt_of_ne hji with h | h
                · exact ownDst_spec ops.toList hown j i oj o d h (by simpa using hoj) (by simpa using ho) hdj hd
                · exact ownDst_spec ops.toList hown i j o oj d h (by simpa using ho) (by simpa using hoj) hd hdj
              rw [hdj] at this
              simpa [valOf, Act.put, Array.getElem?_setIfInBounds_ne hne] using this
    have hstep := hop i o ho a w hI.defers hI.tsize hI.other hI.hJ (fun e he hb oe hoe => hI.fact e.on oe hoe (hall e he hb))
    unfold wpOp
    simp only [ho]
    split
    · rename_i hw
      have := hstep (wpAny P md ops Q fuel (listed.setIfInBounds i true)) (fun v w' hj' hs hf => ih _ _ _ hcount (hput v w' hj' (fun j oj hoj hl => hS j _ w w' (hI.fact j oj hoj hl) hI.hJ hs) hf))
      rw [if_pos hw] at this
      exact .inl this
    · rename_i hw
      have := hstep (wpAny P md ops Q fuel (listed.setIfInBounds i true)) (fun v w' hj' hs hf => ih _ _ _ hcount (hput v w' hj' (fun j oj hoj hl => hS j _ w w' (hI.fact j oj hoj hl) hI.hJ hs) hf))
      rw [if_neg hw] at this
      exact this

/-- The steps of a list of operations, one by one. -/
def RSteps (P : Program) (md : Region.Mode) (ops : Array Oper) (Q : Exit → Act → World → Prop) (a0 : Act) (J : World → Prop) (S : World → World → Prop) (F : Nat → Value → World → Prop) : Nat → List Oper → Prop
  | _, [] => True
  | i, o :: l => RStep P md ops Q a0 J S F i o ∧ RSteps P md ops Q a0 J S F (i + 1) l

theorem RSteps.at {a0 : Act} {J : World → Prop} {S : World → World → Prop} {F : Nat → Value → World → Prop} : ∀ (l : List Oper) (n : Nat), RSteps P md ops Q a0 J S F n l → ∀ (i : Nat) (o : Oper), l[i]? = some o → RStep P md ops Q a0 J S F (n + i) o
  | [], n, _, i, o, hi => by simp at hi
  | p :: l, n, h, i, o, hi => by
    cases i with
    | zero =>
      simp at hi
      subst hi
      exact h.1
    | succ i =>
      have := RSteps.at l (n + 1) h.2 i o (by simpa using hi)
      rwa [show n + (i + 1) = n + 1 + i from by omega]

def fitsDst (n : Nat) (l : List Oper) : Bool := l.all fun o => match o.dst with | some d => decide (d < n) | none => false

theorem wp_region_inv {id : Nat} {l : List Oper} {a : Act} {w : World} (hm : P.follows .mixedOrders = true)
    (J : World → Prop) (S : World → World → Prop) (F : Nat → Value → World → Prop)
    (hown : ownDst l = true) (held : elderOnly .any 0 l = true) (hfit : fitsDst a.tmps.size l = true)
    (hS : ∀ j v w w', F j v w → J w → S w w' → F j v w') (hJ : J w.drew)
    (hop : RSteps P .any l.toArray Q a J S F 0 l)
    (hend : ∀ a' w', RInv .any l.toArray a J F (Array.replicate l.length true) a' w' → Q .normal a' w') :
    (Code.region id l.toArray true).wp P Q a w := by
  have hf : ∀ (j : Nat) (o : Oper), l[j]? = some o → ∃ d, o.dst = some d ∧ d < a.tmps.size := by
    intro j o ho
    have := List.all_eq_true.1 hfit o (List.mem_of_getElem? ho)
    cases hd : o.dst with
    | none => simp [hd] at this
    | some d => exact ⟨d, rfl, by simpa [hd] using this⟩
  refine wp_region_any hm ?_
  refine wpAny_inv a J S F hown held ?_ ?_ hS ?_ ?_ _ _ _ _ ?_ ?_
  · intro j o d ho hd
    obtain ⟨d', h1, h2⟩ := hf j o (by simpa using ho)
    rw [hd] at h1
    cases h1
    exact h2
  · intro j o v u w' ho hd
    obtain ⟨d', h1, h2⟩ := hf j o (by simpa using ho)
    rw [hd] at h1
    cases h1
  · intro i o ho
    have := RSteps.at l 0 hop i o (by simpa using ho)
    rwa [Nat.zero_add] at this
  · intro a' w' hI
    exact hend a' w' (by simpa using hI)
  · simp
  · exact ⟨by simp, rfl, rfl, fun _ _ => rfl, hJ, fun j o ho h => by
      exfalso
      have hjl : j < l.length := by
        have := (Array.getElem?_eq_some_iff.1 ho).1
        simpa using this
      simp [Array.getD, hjl] at h⟩

theorem pre_get {a : Act} {w : World} {o : Oper} {F : Nat → Value → World → Prop} (hpre : RPre md ops F o a w)
    (j : Nat) (hj : o.after.any (fun e => Region.binds md e && e.on == j) = true) (d : Tmp) (hd : (ops[j]?).bind (·.dst) = some d) (hlt : d < a.tmps.size) : ∃ v, a.tmps[d]? = some v ∧ F j v w := by
  obtain ⟨oe, hoe, hd'⟩ := Option.bind_eq_some_iff.1 hd
  obtain ⟨e, he, hb⟩ := Array.any_eq_true'.1 hj
  simp only [Bool.and_eq_true, beq_iff_eq] at hb
  obtain ⟨hb1, hb2⟩ := hb
  subst hb2
  have h := hpre e he hb1 oe hoe
  rw [hd'] at h
  refine ⟨a.tmps[d], Array.getElem?_eq_getElem hlt, ?_⟩
  simpa [valOf, hlt] using h

def noDst (t : Tmp) (l : List Oper) : Bool := l.all fun o => o.dst != some t

theorem par_get {l : List Oper} {a a0 : Act} (hoth : ROth l.toArray a a0) (hsz : a.tmps.size = a0.tmps.size)
    (t : Tmp) (hn : noDst t l = true) (v : Value) (h0 : a0.tmps[t]? = some v) : a.tmps[t]? = some v := by
  have h := hoth t (fun j o ho => by
    have := List.all_eq_true.1 hn o (List.mem_of_getElem? (i := j) (by simpa using ho))
    simpa using this)
  have hlt0 : t < a0.tmps.size := (Array.getElem?_eq_some_iff.1 h0).1
  have hlt : t < a.tmps.size := by rw [hsz]; exact hlt0
  rw [Array.getElem?_eq_getElem hlt]
  have e1 : a.tmps.getD t undef = a.tmps[t] := by simp [hlt]
  have e2 : a0.tmps.getD t undef = v := by simp [h0]
  rw [← e1, h, e2]

theorem wanted_get {a : Act} {o : Oper} (g : Nat) (want : Bool) (hg : o.guard = some (g, want)) (d : Tmp) (hd : (ops[g]?).bind (·.dst) = some d) (h : a.tmps[d]? = some (.bool want)) : Region.wanted o (yielded ops a.tmps) = true := by
  have hy : yielded ops a.tmps g = some want := by
    unfold yielded
    rw [hd]
    simp only [Option.bind_some, h]
  unfold Region.wanted
  rw [hg]
  simp [hy]

theorem wanted_none {a : Act} {o : Oper} (hg : o.guard = none) : Region.wanted o (yielded ops a.tmps) = true := by
  unfold Region.wanted
  rw [hg]

/-- What an operation's value is known by. -/
inductive RK where
  | val (v : Value)
  | strs (l : List ByteArray)
  | str (n : Nat)

def RK.ok : RK → Value → World → Prop
  | .val x, v, _ => v = x
  | .strs l, v, w => ∃ b, v = .slice (some ⟨b, 0, none⟩) l.length l.length ∧ ∀ j (h : j < l.length), w.cell? ⟨b, j, none⟩ = some (.string l[j])
  | .str n, v, _ => ∃ q : ByteArray, v = .string q ∧ q.size = n

theorem RK.keep (k : RK) {v : Value} {w w' : World} (h : k.ok v w) (hb : Below w.heap.size w w') : k.ok v w' := by
  cases k with
  | val x => exact h
  | str n => exact h
  | strs l =>
    obtain ⟨b, hv, hc⟩ := h
    exact ⟨b, hv, fun j hj => (hb.cell (World.block_lt_of_cell? _ _ (hc j hj))).trans (hc j hj)⟩
end
end Go.Proofs.YtpbmclaglkcmoaaDoor
