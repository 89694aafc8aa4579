import Derived.Test.YtpbmclaglkcmoaaDoorSessM
namespace Go.Proofs.YtpbmclaglkcmoaaDoor
set_option linter.unusedVariables false
set_option linter.unusedSimpArgs false

/-! The plain laws of two sessions that hear each other. -/

/-- The text with number x, from 1 on. -/
def nth (l : List ByteArray) (x : Int) : Option ByteArray := if 1 ≤ x then l[x.toNat - 1]? else none

theorem nth_le {l : List ByteArray} {x : Int} {d : ByteArray} (h : nth l x = some d) : 1 ≤ x ∧ x ≤ l.length := by
  unfold nth at h
  split at h
  · have := (List.getElem?_eq_some_iff.1 h).1
    omega
  · cases h

theorem nth_append {l : List ByteArray} {x : Int} {d : ByteArray} (m : List ByteArray) (h : nth l x = some d) : nth (l ++ m) x = some d := by
  have h1 := nth_le h
  unfold nth at h ⊢
  rw [if_pos h1.1] at h ⊢
  rw [List.getElem?_append_left (by omega)]
  exact h

/-! tellN -/
theorem tellN_keeps : ∀ (n : Nat) (s : Se), (tellN n s).2.self = s.self ∧ (tellN n s).2.peer = s.peer ∧ (tellN n s).2.mine = s.mine ∧ (tellN n s).2.yours = s.yours ∧ (tellN n s).2.out = s.out ∧ (tellN n s).2.last = s.last ∧ (tellN n s).2.owed = s.owed
  | 0, s => ⟨rfl, rfl, rfl, rfl, rfl, rfl, rfl⟩
  | n + 1, s => by
    unfold tellN
    cases h : s.ahead (s.heard + 1) with
    | none => exact ⟨rfl, rfl, rfl, rfl, rfl, rfl, rfl⟩
    | some d => exact tellN_keeps n { s with ahead := delAhead s.ahead (s.heard + 1), heard := s.heard + 1 }

theorem tellN_heard : ∀ (n : Nat) (s : Se), (tellN n s).2.heard = s.heard + (tellN n s).1.length
  | 0, s => by simp [tellN]
  | n + 1, s => by
    unfold tellN
    cases h : s.ahead (s.heard + 1) with
    | none => simp
    | some d =>
      have := tellN_heard n { s with ahead := delAhead s.ahead (s.heard + 1), heard := s.heard + 1 }
      simp only [List.length_cons]
      rw [this]
      simp only [Int.natCast_add, Int.natCast_one]
      omega

theorem tellN_le : ∀ (n : Nat) (s : Se), (tellN n s).1.length ≤ n
  | 0, s => by simp [tellN]
  | n + 1, s => by
    unfold tellN
    cases h : s.ahead (s.heard + 1) with
    | none => simp
    | some d =>
      have := tellN_le n { s with ahead := delAhead s.ahead (s.heard + 1), heard := s.heard + 1 }
      simpa using this

theorem tellN_ahead : ∀ (n : Nat) (s : Se) (x : Int), (tellN n s).2.ahead x = if s.heard < x ∧ x ≤ (tellN n s).2.heard then none else s.ahead x
  | 0, s, x => by
    have : ¬ (s.heard < x ∧ x ≤ s.heard) := by omega
    simp [tellN, this]
  | n + 1, s, x => by
    unfold tellN
    cases h : s.ahead (s.heard + 1) with
    | none =>
      have : ¬ (s.heard < x ∧ x ≤ s.heard) := by omega
      simp [this]
    | some d =>
      have e := tellN_ahead n { s with ahead := delAhead s.ahead (s.heard + 1), heard := s.heard + 1 } x
      have e2 := tellN_heard n { s with ahead := delAhead s.ahead (s.heard + 1), heard := s.heard + 1 }
      simp only at e2 ⊢
      rw [e]
      simp only [delAhead]
      by_cases h1 : s.heard + 1 < x ∧ x ≤ (tellN n { s with ahead := delAhead s.ahead (s.heard + 1), heard := s.heard + 1 }).2.heard
      · rw [if_pos h1, if_pos ⟨by omega, h1.2⟩]
      · rw [if_neg h1]
        by_cases h2 : x = s.heard + 1
        · rw [if_pos h2, if_pos ⟨by omega, by omega⟩]
        · rw [if_neg h2, if_neg (by omega)]

theorem tellN_told : ∀ (n : Nat) (s : Se) (j : Nat) (d : ByteArray), (tellN n s).1[j]? = some d → s.ahead (s.heard + 1 + j) = some d
  | 0, s, j, d, h => by simp [tellN] at h
  | n + 1, s, j, d, h => by
    unfold tellN at h
    cases h1 : s.ahead (s.heard + 1) with
    | none => rw [h1] at h; simp at h
    | some d1 =>
      rw [h1] at h
      simp only at h
      cases j with
      | zero =>
        simp only [List.getElem?_cons_zero, Option.some.injEq] at h
        subst h
        simpa using h1
      | succ j =>
        simp only [List.getElem?_cons_succ] at h
        have := tellN_told n _ j d h
        simp only [delAhead] at this
        split at this
        · cases this
        · rw [← this]
          congr 1
          omega

theorem tellN_end : ∀ (n : Nat) (s : Se), (∀ x d, s.ahead x = some d → x ≤ s.heard + n) → (tellN n s).2.ahead ((tellN n s).2.heard + 1) = none
  | 0, s, h => by
    simp only [tellN]
    cases h1 : s.ahead (s.heard + 1) with
    | none => rfl
    | some d => have := h _ _ h1; omega
  | n + 1, s, h => by
    unfold tellN
    cases h1 : s.ahead (s.heard + 1) with
    | none => exact h1
    | some d =>
      refine tellN_end n { s with ahead := delAhead s.ahead (s.heard + 1), heard := s.heard + 1 } ?_
      intro x d' hx
      simp only [delAhead] at hx
      split at hx
      · cases hx
      · have := h _ _ hx
        simp only [Int.natCast_add, Int.natCast_one] at this ⊢
        omega

/-! what waits: messages k+1, k+2 .. of the texts T -/
def Cons (k : Nat) (l : List Wt) (T : List ByteArray) : Prop :=
  k + l.length = T.length ∧ ∀ (j : Nat) (x : Wt), l[j]? = some x → x.seq = k + j + 1 ∧ T[k + j]? = some x.data

theorem Cons.drop {k : Nat} {l : List Wt} {T : List ByteArray} (h : Cons k l T) (d : Nat) (hd : d ≤ l.length) : Cons (k + d) (l.drop d) T := by
  refine ⟨by rw [List.length_drop]; have := h.1; omega, ?_⟩
  intro j x hx
  rw [List.getElem?_drop] at hx
  have := h.2 _ _ hx
  refine ⟨by rw [this.1]; omega, ?_⟩
  rw [← this.2]
  congr 1
  omega

theorem Cons.map {k : Nat} {l : List Wt} {T : List ByteArray} (h : Cons k l T) (g : Wt → Wt) (hg : ∀ x, (g x).seq = x.seq ∧ (g x).data = x.data) : Cons k (l.map g) T := by
  refine ⟨by rw [List.length_map]; exact h.1, ?_⟩
  intro j x hx
  rw [List.getElem?_map] at hx
  cases h1 : l[j]? with
  | none => rw [h1] at hx; cases hx
  | some y =>
    rw [h1] at hx
    simp only [Option.map_some, Option.some.injEq] at hx
    subst hx
    rw [(hg y).1, (hg y).2]
    exact h.2 _ _ h1

theorem Cons.number {l : List Wt} {T : List ByteArray} (h : Cons 0 l T) : Cons 0 (number 0 l) T := by
  refine ⟨by rw [number_length]; exact h.1, ?_⟩
  intro j x hx
  have hj : j < l.length := by
    have := (List.getElem?_eq_some_iff.1 hx).1
    rwa [number_length] at this
  rw [number_get l 0 j hj] at hx
  cases hx
  refine ⟨by simp, ?_⟩
  exact (h.2 j _ (List.getElem?_eq_getElem hj)).2

theorem Cons.snoc {k : Nat} {l : List Wt} {T : List ByteArray} (h : Cons k l T) (d : ByteArray) (a : Int) : Cons k (l ++ [⟨(T.length : Int) + 1, d, false, a⟩]) (T ++ [d]) := by
  have h1 := h.1
  refine ⟨by simp; omega, ?_⟩
  intro j x hx
  by_cases hj : j < l.length
  · rw [List.getElem?_append_left hj] at hx
    have := h.2 _ _ hx
    refine ⟨this.1, ?_⟩
    rw [List.getElem?_append_left (by omega)]
    exact this.2
  · rw [List.getElem?_append_right (by omega)] at hx
    cases h2 : j - l.length with
    | succ i => rw [h2] at hx; simp at hx
    | zero =>
      rw [h2] at hx
      simp only [List.getElem?_cons_zero, Option.some.injEq] at hx
      subst hx
      refine ⟨by simp only; omega, ?_⟩
      rw [List.getElem?_append_right (by omega), show k + j - T.length = 0 by omega]
      rfl

theorem Cons.mem {k : Nat} {l : List Wt} {T : List ByteArray} (h : Cons k l T) {x : Wt} (hx : x ∈ l) : (k : Int) + 1 ≤ x.seq ∧ x.seq ≤ T.length ∧ nth T x.seq = some x.data := by
  obtain ⟨j, hj, rfl⟩ := List.mem_iff_getElem.1 hx
  have := h.2 j _ (List.getElem?_eq_getElem hj)
  have h1 := h.1
  refine ⟨by omega, by omega, ?_⟩
  unfold nth
  rw [if_pos (by omega), ← this.2]
  congr 1
  omega

theorem Cons.at {k : Nat} {l : List Wt} {T : List ByteArray} (h : Cons k l T) (x : Int) (h0 : (k : Int) < x) (h1 : x ≤ T.length) : ∃ y ∈ l, y.seq = x := by
  have h2 := h.1
  have hj : x.toNat - 1 - k < l.length := by omega
  refine ⟨l[x.toNat - 1 - k], List.getElem_mem _, ?_⟩
  have := (h.2 _ _ (List.getElem?_eq_getElem hj)).1
  rw [this]
  omega

/-- What the acks take away. -/
theorem ackd_drop : ∀ (l : List Wt) (a : Int), ∃ d, l.dropWhile (fun x => decide (x.seq ≤ a)) = l.drop d ∧ d ≤ l.length ∧ (∀ j x, j < d → l[j]? = some x → x.seq ≤ a) ∧ (∀ x, l[d]? = some x → a < x.seq)
  | [], a => ⟨0, rfl, Nat.le_refl _, by simp, by simp⟩
  | x :: l, a => by
    by_cases hx : x.seq ≤ a
    · obtain ⟨d, h1, h2, h3, h4⟩ := ackd_drop l a
      refine ⟨d + 1, by simp [List.dropWhile_cons, hx, h1], by simpa using h2, ?_, by simpa using h4⟩
      intro j y hj hy
      cases j with
      | zero => simp at hy; subst hy; exact hx
      | succ j => exact h3 j y (by omega) (by simpa using hy)
    · refine ⟨0, by simp [List.dropWhile_cons, hx], Nat.zero_le _, by omega, ?_⟩
      intro y hy
      simp at hy
      subst hy
      omega

/-- s says texts to r: said: what each life of s's end said; n: s's life; m: r's life; x, y: the ends' numbers; H: what r was told of the life that it knows. -/
structure Link (x y n m : Int) (said : Int → List ByteArray) (H : List ByteArray) (s r : Se) (way : List Fr) : Prop where
  xy : x ≠ y
  n1 : 1 ≤ n
  m1 : 1 ≤ m
  ss : s.self = x
  sp : s.peer = y
  rs : r.self = y
  rp : r.peer = x
  sm : s.mine = n
  rm : r.mine = m
  sy : s.yours = 0 ∨ s.yours = m
  ry : 0 ≤ r.yours ∧ r.yours ≤ n
  last : s.last = (said n).length
  outk : ∃ k : Nat, Cons k s.out (said n) ∧ (s.yours = 0 → k = 0) ∧ (0 < k → r.yours = n ∧ (k : Int) ≤ r.heard)
  age : ∀ z ∈ s.out, 0 ≤ z.age ∧ (z.sent = true → z.age ≤ 3)
  len : s.out.length ≤ 64
  s0 : said 0 = []
  heard : r.heard = H.length
  told : H.length ≤ (said r.yours).length ∧ H = (said r.yours).take H.length
  ahead : ∀ z d, r.ahead z = some d → r.heard + 1 < z ∧ z ≤ r.heard + 65 ∧ nth (said r.yours) z = some d
  fs : ∀ f ∈ way, f.fr = x → f.to = y ∧ 1 ≤ f.mine ∧ f.mine ≤ n ∧ f.yours ≤ m ∧ (f.mine = n → f.yours ≤ s.yours) ∧ (f.has = true → nth (said f.mine) f.seq = some f.data)
  fr : ∀ f ∈ way, f.fr = y → f.to = x ∧ f.mine = m ∧ f.yours ≤ r.yours ∧ (f.yours = n → f.ack ≤ r.heard)
  dom : ∀ f ∈ way, f.fr = x ∨ f.fr = y

section
variable {x y n m : Int} {said : Int → List ByteArray} {H : List ByteArray} {s r : Se} {way : List Fr}

theorem Link.sub (h : Link x y n m said H s r way) {way' : List Fr} (hw : ∀ f ∈ way', f ∈ way) : Link x y n m said H s r way' :=
  { h with fs := fun f hf => h.fs f (hw f hf), fr := fun f hf => h.fr f (hw f hf), dom := fun f hf => h.dom f (hw f hf) }

/-- What the other end sends, or lets wait, is no matter here. -/
theorem Link.congr (h : Link x y n m said H s r way) {s' r' : Se} (a1 : s'.self = s.self) (a2 : s'.peer = s.peer) (a3 : s'.mine = s.mine) (a4 : s'.yours = s.yours) (a5 : s'.last = s.last) (a6 : s'.out = s.out)
    (b1 : r'.self = r.self) (b2 : r'.peer = r.peer) (b3 : r'.mine = r.mine) (b4 : r'.yours = r.yours) (b5 : r'.heard = r.heard) (b6 : r'.ahead = r.ahead) : Link x y n m said H s' r' way := by
  obtain ⟨c0, c1, c2, c3, c4, c5, c6, c7, c8, c9, c10, c11, c12, c13, c14, c15, c16, c17, c18, c19, c20, c21⟩ := h
  constructor <;> first | assumption | (simp only [a1, a2, a3, a4, a5, a6, b1, b2, b3, b4, b5, b6]; assumption)

/-- s lets a message wait. -/
theorem Link.send (h : Link x y n m said H s r way) (d : ByteArray) (hd : d.size ≤ 3000) (hl : s.out.length ≠ 64) (said' : Int → List ByteArray) (hs : said' n = said n ++ [d]) (ho : ∀ l, l ≠ n → said' l = said l) :
    Link x y n m said' H (s.send d).2 r way := by
  have e : (s.send d).2 = { s with last := s.last + 1, out := s.out ++ [⟨s.last + 1, d, false, 0⟩] } := by
    unfold Se.send
    rw [if_neg (by omega), if_neg hl]
  have hn1 := h.n1
  have grow : ∀ l z e, nth (said l) z = some e → nth (said' l) z = some e := by
    intro l z e he
    by_cases hl : l = n
    · subst hl
      rw [hs]
      exact nth_append _ he
    · rw [ho l hl]
      exact he
  rw [e]
  refine { h with last := ?_, outk := ?_, age := ?_, len := ?_, s0 := ?_, told := ?_, ahead := ?_, fs := ?_ }
  · simp only [hs, h.last]
    simp
  · obtain ⟨k, h1, h2, h3⟩ := h.outk
    refine ⟨k, ?_, h2, h3⟩
    simp only [hs, h.last]
    exact h1.snoc d 0
  · intro z hz
    simp only [List.mem_append, List.mem_singleton] at hz
    rcases hz with hz | rfl
    · exact h.age z hz
    · exact ⟨Int.le_refl _, by simp⟩
  · have := h.len
    simp only [List.length_append, List.length_singleton]
    omega
  · rw [ho 0 (by omega)]
    exact h.s0
  · by_cases hl : r.yours = n
    · rw [hl, hs]
      have h1 := h.told
      rw [hl] at h1
      refine ⟨by rw [List.length_append]; omega, ?_⟩
      rw [List.take_append_of_le_length h1.1]
      exact h1.2
    · rw [ho _ hl]
      exact h.told
  · intro z d' hz
    have := h.ahead z d' hz
    exact ⟨this.1, this.2.1, grow _ _ _ this.2.2⟩
  · intro f hf hfx
    have := h.fs f hf hfx
    exact ⟨this.1, this.2.1, this.2.2.1, this.2.2.2.1, this.2.2.2.2.1, fun e => grow _ _ _ (this.2.2.2.2.2 e)⟩

/-- s tells what is to be sent. -/
theorem Link.outs (h : Link x y n m said H s r way) : Link x y n m said H s.outS r (way ++ s.outF) := by
  have hs : ∀ f ∈ s.outF, f.fr = x ∧ f.to = y ∧ f.mine = n ∧ f.yours = s.yours ∧ (f.has = true → nth (said n) f.seq = some f.data) := by
    intro f hf
    obtain ⟨k, h1, h2, h3⟩ := h.outk
    unfold Se.outF at hf
    split at hf
    · simp only [List.mem_singleton] at hf
      subst hf
      exact ⟨h.ss, h.sp, h.sm, rfl, by simp [Se.frame]⟩
    · unfold Se.sends at hf
      obtain ⟨z, hz, rfl⟩ := List.mem_map.1 hf
      have hz' := (List.mem_filter.1 hz).1
      exact ⟨h.ss, h.sp, h.sm, rfl, fun _ => (h1.mem hz').2.2⟩
  have hm1 := h.m1
  refine { h with outk := ?_, age := ?_, len := ?_, fs := ?_, fr := ?_, dom := ?_ }
  · obtain ⟨k, h1, h2, h3⟩ := h.outk
    exact ⟨k, h1.map Wt.out (fun z => by unfold Wt.out; split <;> exact ⟨rfl, rfl⟩), h2, h3⟩
  · intro z hz
    obtain ⟨v, hv, rfl⟩ := List.mem_map.1 hz
    have := h.age v hv
    unfold Wt.out
    split
    · exact this
    · exact ⟨Int.le_refl _, by simp⟩
  · simpa [Se.outS] using h.len
  · intro f hf hfx
    rcases List.mem_append.1 hf with hf | hf
    · exact h.fs f hf hfx
    · obtain ⟨_, f2, f3, f4, f5⟩ := hs f hf
      have hn1 := h.n1
      have hsy := h.sy
      rw [f3]
      exact ⟨f2, hn1, Int.le_refl _, by omega, fun _ => by show f.yours ≤ s.yours; omega, f5⟩
  · intro f hf hfy
    rcases List.mem_append.1 hf with hf | hf
    · exact h.fr f hf hfy
    · have := (hs f hf).1
      have := h.xy
      exact absurd (by omega) this
  · intro f hf
    rcases List.mem_append.1 hf with hf | hf
    · exact h.dom f hf
    · exact .inl (hs f hf).1

/-- A tick goes by. -/
theorem Link.tick (h : Link x y n m said H s r way) : Link x y n m said H s.tick r way := by
  refine { h with outk := ?_, age := ?_, len := ?_ }
  · obtain ⟨k, h1, h2, h3⟩ := h.outk
    exact ⟨k, h1.map Wt.tick (fun z => by unfold Wt.tick; split <;> exact ⟨rfl, rfl⟩), h2, h3⟩
  · intro z hz
    obtain ⟨v, hv, rfl⟩ := List.mem_map.1 hz
    have := h.age v hv
    unfold Wt.tick
    split
    · have h1 := this.2 (by assumption)
      refine ⟨by simp only; omega, fun e => ?_⟩
      simp only [decide_eq_true_eq] at e ⊢
      omega
    · exact this
  · simpa [Se.tick] using h.len

/-- r tells what is to be sent. -/
theorem Link.routs (h : Link x y n m said H s r way) : Link x y n m said H s r.outS (way ++ r.outF) := by
  have hs : ∀ f ∈ r.outF, f.fr = y ∧ f.to = x ∧ f.mine = m ∧ f.yours = r.yours ∧ f.ack = r.heard := by
    intro f hf
    unfold Se.outF at hf
    split at hf
    · simp only [List.mem_singleton] at hf
      subst hf
      exact ⟨h.rs, h.rp, h.rm, rfl, rfl⟩
    · unfold Se.sends at hf
      obtain ⟨z, hz, rfl⟩ := List.mem_map.1 hf
      exact ⟨h.rs, h.rp, h.rm, rfl, rfl⟩
  refine { h with fs := ?_, fr := ?_, dom := ?_ }
  · intro f hf hfx
    rcases List.mem_append.1 hf with hf | hf
    · exact h.fs f hf hfx
    · have := (hs f hf).1
      have := h.xy
      exact absurd (by omega) this
  · intro f hf hfy
    rcases List.mem_append.1 hf with hf | hf
    · exact h.fr f hf hfy
    · obtain ⟨_, f2, f3, f4, f5⟩ := hs f hf
      exact ⟨f2, f3, by show f.yours ≤ r.yours; omega, fun _ => by show f.ack ≤ r.heard; omega⟩
  · intro f hf
    rcases List.mem_append.1 hf with hf | hf
    · exact h.dom f hf
    · exact .inr (hs f hf).1

theorem Link.rtick (h : Link x y n m said H s r way) : Link x y n m said H s r.tick way :=
  h.congr rfl rfl rfl rfl rfl rfl rfl rfl rfl rfl rfl rfl

theorem Se.up_yours (s : Se) (f : Fr) (h : ¬ f.mine < s.yours) : (s.up f).yours = f.mine := by
  unfold Se.up
  split
  · rfl
  · omega

theorem Se.bad_iff {s : Se} {f : Fr} : s.bad f = true ↔ (f.fr ≠ s.peer ∨ f.to ≠ s.self ∨ f.mine < 1 ∨ f.mine < s.yours ∨ s.mine < f.yours) := by
  unfold Se.bad
  exact decide_eq_true_iff

theorem Se.up_fields (s : Se) (f : Fr) : (s.up f).self = s.self ∧ (s.up f).peer = s.peer ∧ (s.up f).mine = s.mine ∧ (s.up f).owed = s.owed := by
  unfold Se.up
  split <;> exact ⟨rfl, rfl, rfl, rfl⟩

/-- r hears of a greater life. -/
theorem Link.rup (h : Link x y n m said H s r way) {f : Fr} (hf : f ∈ way) (hx : f.fr = x) : Link x y n m said (if r.yours < f.mine then [] else H) s (r.up f) way := by
  have h1 := h.fs f hf hx
  unfold Se.up
  split
  · rename_i hg
    refine { h with ry := ?_, outk := ?_, heard := ?_, told := ?_, ahead := ?_, fr := ?_ }
    · simp only [Se.greater]; omega
    · obtain ⟨k, k1, k2, k3⟩ := h.outk
      refine ⟨k, k1, k2, fun hk => ?_⟩
      have := (k3 hk).1
      omega
    · rfl
    · simp
    · intro z d hz
      simp [Se.greater, noAhead] at hz
    · intro g hg' hgy
      have := h.fr g hg' hgy
      refine ⟨this.1, this.2.1, by simp only [Se.greater]; omega, fun e => ?_⟩
      omega
  · exact h

theorem Se.put_fields (p : Se) (f : Fr) : (p.put f).self = p.self ∧ (p.put f).peer = p.peer ∧ (p.put f).mine = p.mine ∧ (p.put f).yours = p.yours ∧ (p.put f).out = p.out ∧ (p.put f).last = p.last ∧ (p.put f).owed = p.owed ∧ (p.put f).heard = p.heard := by
  unfold Se.put
  split <;> exact ⟨rfl, rfl, rfl, rfl, rfl, rfl, rfl, rfl⟩

theorem Se.put_ahead (p : Se) (f : Fr) (z : Int) (d : ByteArray) (h : (p.put f).ahead z = some d) : p.ahead z = some d ∨ (z = f.seq ∧ d = f.data ∧ p.heard < f.seq ∧ f.seq ≤ p.heard + 65) := by
  unfold Se.put at h
  split at h
  · rename_i hc
    simp only [putAhead] at h
    split at h
    · cases h
      exact .inr ⟨by assumption, rfl, hc.2.1, by omega⟩
    · exact .inl h
  · exact .inl h

/-- What was heard, is heard: behind put and tell. -/
theorem Link.tell (h : Link x y n m said H s r way) (f : Fr) (hd : nth (said r.yours) f.seq = some f.data) :
    Link x y n m said (H ++ (tellN 66 (r.put f)).1) s (tellN 66 (r.put f)).2 way := by
  obtain ⟨p1, p2, p3, p4, p5, p6, p7, p8⟩ := r.put_fields f
  obtain ⟨t1, t2, t3, t4, t5, t6, t7⟩ := tellN_keeps 66 (r.put f)
  have th := tellN_heard 66 (r.put f)
  have ha : ∀ z d, (r.put f).ahead z = some d → r.heard < z ∧ z ≤ r.heard + 65 ∧ nth (said r.yours) z = some d := by
    intro z d hz
    rcases r.put_ahead f z d hz with hz | ⟨rfl, rfl, h1, h2⟩
    · have := h.ahead z d hz
      exact ⟨by omega, this.2.1, this.2.2⟩
    · exact ⟨h1, h2, hd⟩
  have he := tellN_end 66 (r.put f) (fun z d hz => by have := ha z d hz; rw [p8]; omega)
  have htold : ∀ j d, (tellN 66 (r.put f)).1[j]? = some d → (said r.yours)[H.length + j]? = some d := by
    intro j d hj
    have h1 := tellN_told 66 (r.put f) j d hj
    have h2 := (ha _ _ h1).2.2
    unfold nth at h2
    have h3 := h.heard
    rw [if_pos (by omega)] at h2
    rw [← h2]
    congr 1
    omega
  have hlen : (H ++ (tellN 66 (r.put f)).1).length ≤ (said r.yours).length := by
    rw [List.length_append]
    rcases Nat.eq_zero_or_pos (tellN 66 (r.put f)).1.length with h0 | h0
    · have := h.told.1; omega
    · have := htold ((tellN 66 (r.put f)).1.length - 1) _ (List.getElem?_eq_getElem (by omega))
      have := (List.getElem?_eq_some_iff.1 this).1
      omega
  refine { h with rs := by rw [t1, p1]; exact h.rs, rp := by rw [t2, p2]; exact h.rp, rm := by rw [t3, p3]; exact h.rm, ry := by rw [t4, p4]; exact h.ry, outk := ?_, heard := ?_, told := ?_, ahead := ?_, fr := ?_ }
  · obtain ⟨k, k1, k2, k3⟩ := h.outk
    refine ⟨k, k1, k2, fun hk => ?_⟩
    have := k3 hk
    rw [t4, p4, th, p8]
    exact ⟨this.1, by omega⟩
  · rw [th, p8, h.heard, List.length_append]
    simp
  · rw [t4, p4]
    refine ⟨hlen, ?_⟩
    apply List.ext_getElem?
    intro j
    by_cases hj : j < (H ++ (tellN 66 (r.put f)).1).length
    · rw [List.getElem?_take_of_lt hj]
      by_cases hj2 : j < H.length
      · rw [List.getElem?_append_left hj2]
        conv => lhs; rw [h.told.2]
        rw [List.getElem?_take_of_lt hj2]
      · rw [List.getElem?_append_right (by omega)]
        rw [List.length_append] at hj
        have := htold (j - H.length) _ (List.getElem?_eq_getElem (by omega))
        rw [show H.length + (j - H.length) = j by omega] at this
        rw [this, List.getElem?_eq_getElem (by omega)]
    · rw [List.getElem?_eq_none (by omega), List.getElem?_eq_none (by rw [List.length_take]; omega)]
  · intro z d hz
    rw [tellN_ahead] at hz
    split at hz
    · cases hz
    · rename_i hc
      have h1 := ha z d hz
      rw [t4, p4, th, p8]
      rw [th, p8] at hc he
      have : z ≠ r.heard + ((tellN 66 (r.put f)).1.length : Int) + 1 := by
        rintro rfl
        rw [tellN_ahead, if_neg (by rw [th, p8]; omega)] at he
        rw [he] at hz
        cases hz
      exact ⟨by omega, by omega, h1.2.2⟩
  · intro g hg hgy
    have := h.fr g hg hgy
    rw [t4, p4, th, p8]
    exact ⟨this.1, this.2.1, this.2.2.1, fun e => by have := this.2.2.2 e; omega⟩

/-- What r was told of the life that it knows, behind a frame. -/
def Hnext (H : List ByteArray) (r : Se) (f : Fr) : List ByteArray := if r.bad f = true then H else (if r.yours < f.mine then [] else H) ++ (r.take f).1.1

/-- r takes a frame of s. -/
theorem Link.rtake (h : Link x y n m said H s r way) {f : Fr} (hf : f ∈ way) (hx : f.fr = x) : Link x y n m said (Hnext H r f) s (r.take f).2 way := by
  have h1 := h.fs f hf hx
  unfold Hnext Se.take
  by_cases hb : r.bad f = true
  · rw [if_pos hb, if_pos hb]
    exact h
  · rw [if_neg hb, if_neg hb]
    have hm : ¬ f.mine < r.yours := fun e => hb (Se.bad_iff.2 (by omega))
    have hu := h.rup hf hx
    have huy := r.up_yours f hm
    by_cases hy : f.yours ≠ r.mine
    · rw [if_pos hy]
      simp only [List.append_nil]
      exact hu.congr rfl rfl rfl rfl rfl rfl rfl rfl rfl rfl rfl rfl
    · rw [if_neg hy]
      by_cases hh : f.has = false
      · rw [if_pos hh]
        simp only [List.append_nil]
        exact hu.congr rfl rfl rfl rfl rfl rfl rfl rfl rfl rfl rfl rfl
      · rw [if_neg hh]
        have hu2 : Link x y n m said (if r.yours < f.mine then [] else H) s ((r.up f).ackd f.ack).owe way := hu.congr rfl rfl rfl rfl rfl rfl rfl rfl rfl rfl rfl rfl
        refine hu2.tell f ?_
        show nth (said (r.up f).yours) f.seq = some f.data
        rw [huy]
        exact h1.2.2.2.2.2 (by simpa using hh)

/-- s hears of r's life. -/
theorem Link.sup (h : Link x y n m said H s r way) {f : Fr} (hf : f ∈ way) (hy : f.fr = y) : Link x y n m said H (s.up f) r way := by
  have h1 := h.fr f hf hy
  have hm1 := h.m1
  unfold Se.up
  split
  · rename_i hg
    have hs0 : s.yours = 0 := by rcases h.sy with e | e; exact e; omega
    obtain ⟨k, k1, k2, k3⟩ := h.outk
    have hk := k2 hs0
    subst hk
    have e0 : (if 0 < s.yours then ([] : List Wt) else s.out) = s.out := if_neg (by omega)
    refine { h with sy := ?_, last := ?_, outk := ?_, age := ?_, len := ?_, fs := ?_ }
    · exact .inr h1.2.1
    · simp only [Se.greater, e0]
      have := k1.1
      omega
    · refine ⟨0, ?_, fun _ => rfl, fun e => absurd e (Nat.lt_irrefl _)⟩
      simp only [Se.greater, e0]
      exact k1.number
    · intro z hz
      simp only [Se.greater, e0] at hz
      obtain ⟨j, hj, rfl⟩ := List.mem_iff_getElem.1 hz
      rw [number_length] at hj
      have e := number_get s.out 0 j hj
      rw [List.getElem?_eq_getElem (by rw [number_length]; exact hj)] at e
      simp only [Option.some.injEq] at e
      rw [e]
      exact ⟨(h.age _ (List.getElem_mem hj)).1, by simp⟩
    · simp only [Se.greater, e0, number_length]
      exact h.len
    · intro g hg' hgx
      have := h.fs g hg' hgx
      refine ⟨this.1, this.2.1, this.2.2.1, this.2.2.2.1, fun e => ?_, this.2.2.2.2.2⟩
      have := this.2.2.2.1
      simp only [Se.greater]
      omega
  · exact h

theorem Link.sackd (h : Link x y n m said H s r way) (hs : s.yours = m) (a : Int) (hy : r.yours = n) (ha : a ≤ r.heard) : Link x y n m said H (s.ackd a) r way := by
  obtain ⟨k, k1, k2, k3⟩ := h.outk
  obtain ⟨d, d1, d2, d3, d4⟩ := ackd_drop s.out a
  have hm1 := h.m1
  have hmem : ∀ z ∈ (s.ackd a).out, z ∈ s.out := fun z hz => List.mem_of_mem_drop (by simpa only [Se.ackd, d1] using hz)
  refine { h with outk := ?_, age := ?_, len := ?_ }
  · refine ⟨k + d, ?_, ?_, ?_⟩
    · simp only [Se.ackd, d1]
      exact k1.drop d d2
    · intro e
      exact absurd (show s.yours = 0 from e) (by omega)
    · intro hk
      refine ⟨hy, ?_⟩
      rcases Nat.eq_zero_or_pos d with h0 | h0
      · subst h0
        have := k3 (by omega)
        simpa using this.2
      · have e := List.getElem?_eq_getElem (l := s.out) (i := d - 1) (by omega)
        have := d3 (d - 1) _ (by omega) e
        have := (k1.2 _ _ e).1
        omega
  · intro z hz
    exact h.age z (hmem z hz)
  · simp only [Se.ackd, d1, List.length_drop]
    have := h.len
    omega

/-- s takes a frame of r. -/
theorem Link.stake (h : Link x y n m said H s r way) {f : Fr} (hf : f ∈ way) (hy : f.fr = y) : Link x y n m said H (s.take f).2 r way := by
  have h1 := h.fr f hf hy
  unfold Se.take
  split
  · exact h
  · rename_i hb
    have hm : ¬ f.mine < s.yours := fun e => hb (Se.bad_iff.2 (by omega))
    have hu := h.sup hf hy
    have huy := s.up_yours f hm
    have hry := h.ry
    have hsm := h.sm
    split
    · exact hu.congr rfl rfl rfl rfl rfl rfl rfl rfl rfl rfl rfl rfl
    · rename_i hfy
      have hfy : f.yours = n := by omega
      have ha : Link x y n m said H ((s.up f).ackd f.ack) r way := hu.sackd (by rw [huy]; exact h1.2.1) f.ack (by omega) (h1.2.2.2 hfy)
      split
      · exact ha
      · obtain ⟨p1, p2, p3, p4, p5, p6, p7, p8⟩ := ((s.up f).ackd f.ack).owe.put_fields f
        obtain ⟨t1, t2, t3, t4, t5, t6, t7⟩ := tellN_keeps 66 (((s.up f).ackd f.ack).owe.put f)
        exact ha.congr (t1.trans p1) (t2.trans p2) (t3.trans p3) (t4.trans p4) (t6.trans p6) (t5.trans p5) rfl rfl rfl rfl rfl rfl

end

end Go.Proofs.YtpbmclaglkcmoaaDoor
