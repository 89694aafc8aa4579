import Derived.Test.YtpbmclaglkcmoaaDoorSessP
namespace Go.Proofs.YtpbmclaglkcmoaaDoor
set_option linter.unusedVariables false
set_option linter.unusedSimpArgs false

/-! Bounds: what every session of ours stays; a measure of what is still to be sent. -/
section
variable {N : Int} {s : Se}

theorem Se.Ok.mono (h : s.Ok N) {M : Int} (hm : N ≤ M) : s.Ok M :=
  ⟨h.len, ⟨h.heard.1, by have := h.heard.2; omega⟩, ⟨h.last.1, by have := h.last.2; omega⟩, h.age, fun x hx => ⟨(h.seq x hx).1, by have := (h.seq x hx).2; omega⟩,
   fun x d hx => by have := h.ahead x d hx; exact ⟨this.1, this.2.1, by omega, this.2.2.2⟩, h.size⟩

theorem Se.Ok.fresh (a b c : Int) (hN : 0 ≤ N) : (Se.fresh a b c).Ok N :=
  ⟨by simp [Se.fresh], ⟨Int.le_refl _, hN⟩, ⟨Int.le_refl _, hN⟩, by simp [Se.fresh], by simp [Se.fresh], by simp [Se.fresh, noAhead], by simp [Se.fresh]⟩

theorem Se.Ok.send (h : s.Ok N) (d : ByteArray) : (s.send d).2.Ok (N + 1) := by
  unfold Se.send
  split
  · exact h.mono (by omega)
  · split
    · exact h.mono (by omega)
    · have h1 := h.last
      have h2 := h.heard
      refine ⟨?_, ⟨h2.1, by simp only; omega⟩, ⟨by simp only; omega, by simp only; omega⟩, ?_, ?_, (h.mono (by omega : N ≤ N + 1)).ahead, ?_⟩
      · have := h.len
        simp only [List.length_append, List.length_singleton]
        omega
      all_goals
        intro x hx
        simp only [List.mem_append, List.mem_singleton] at hx
        rcases hx with hx | rfl
      · exact h.age x hx
      · simp
      · have := h.seq x hx
        omega
      · simp only
        omega
      · exact h.size x hx
      · simp only
        omega

theorem Se.Ok.outS (h : s.Ok N) : s.outS.Ok N := by
  refine ⟨by simpa [Se.outS] using h.len, h.heard, h.last, ?_, ?_, h.ahead, ?_⟩
  all_goals
    intro x hx
    obtain ⟨v, hv, rfl⟩ := List.mem_map.1 hx
    unfold Wt.out
    split
  · exact h.age v hv
  · simp
  · exact h.seq v hv
  · exact h.seq v hv
  · exact h.size v hv
  · exact h.size v hv

theorem Se.Ok.tick (h : s.Ok N) : s.tick.Ok N := by
  refine ⟨by simpa [Se.tick] using h.len, h.heard, h.last, ?_, ?_, h.ahead, ?_⟩
  all_goals
    intro x hx
    obtain ⟨v, hv, rfl⟩ := List.mem_map.1 hx
    unfold Wt.tick
    split
  · have h1 := h.age v hv
    have h2 := h1.2.2 (by assumption)
    refine ⟨by simp only; omega, by simp only; omega, fun e => ?_⟩
    simp only [decide_eq_true_eq] at e ⊢
    omega
  · exact h.age v hv
  · exact h.seq v hv
  · exact h.seq v hv
  · exact h.size v hv
  · exact h.size v hv

theorem Se.Ok.greater (h : s.Ok N) (hN : 64 ≤ N) (life : Int) : (s.greater life).Ok N := by
  have hl := h.len
  have ho : ∀ o : List Wt, o = [] ∨ o = s.out → (number 0 o).length ≤ 64 ∧ (o.length : Int) ≤ 64 ∧ ∀ x ∈ number 0 o, 0 ≤ x.age ∧ x.age ≤ 4 ∧ (x.sent = true → x.age ≤ 3) ∧ 0 ≤ x.seq ∧ x.seq ≤ N ∧ x.data.size ≤ 3000 := by
    intro o ho
    have hol : o.length ≤ 64 := by rcases ho with rfl | rfl; simp; exact hl
    have hos : ∀ x ∈ o, x ∈ s.out := by rcases ho with rfl | rfl; simp; exact fun x hx => hx
    refine ⟨by rw [number_length]; exact hol, by omega, fun x hx => ?_⟩
    obtain ⟨j, hj, rfl⟩ := List.mem_iff_getElem.1 hx
    rw [number_length] at hj
    have e := number_get o 0 j hj
    rw [List.getElem?_eq_getElem (by rw [number_length]; exact hj)] at e
    simp only [Option.some.injEq] at e
    rw [e]
    have h1 := h.age _ (hos _ (List.getElem_mem hj))
    have h2 := h.size _ (hos _ (List.getElem_mem hj))
    exact ⟨h1.1, h1.2.1, by simp, by simp only; omega, by simp only; omega, h2⟩
  have ho2 : (if 0 < s.yours then ([] : List Wt) else s.out) = [] ∨ (if 0 < s.yours then ([] : List Wt) else s.out) = s.out := by
    split
    · exact .inl rfl
    · exact .inr rfl
  obtain ⟨a1, a2, a3⟩ := ho _ ho2
  unfold Se.greater
  generalize (if 0 < s.yours then ([] : List Wt) else s.out) = o at *
  refine ⟨a1, ⟨Int.le_refl _, by simp only; omega⟩, ⟨by simp only; omega, by simp only; omega⟩, fun x hx => ⟨(a3 x hx).1, (a3 x hx).2.1, (a3 x hx).2.2.1⟩, fun x hx => ⟨(a3 x hx).2.2.2.1, (a3 x hx).2.2.2.2.1⟩, by simp [noAhead], fun x hx => (a3 x hx).2.2.2.2.2⟩

theorem Se.Ok.up (h : s.Ok N) (hN : 64 ≤ N) (f : Fr) : (s.up f).Ok N := by
  unfold Se.up
  split
  · exact h.greater hN _
  · exact h

theorem Se.Ok.owe (h : s.Ok N) : s.owe.Ok N := ⟨h.len, h.heard, h.last, h.age, h.seq, h.ahead, h.size⟩

theorem Se.Ok.ackd (h : s.Ok N) (a : Int) : (s.ackd a).Ok N := by
  obtain ⟨d, d1, d2, d3, d4⟩ := ackd_drop s.out a
  have hmem : ∀ z ∈ (s.ackd a).out, z ∈ s.out := fun z hz => List.mem_of_mem_drop (by simpa only [Se.ackd, d1] using hz)
  refine ⟨?_, h.heard, h.last, fun x hx => h.age x (hmem x hx), fun x hx => h.seq x (hmem x hx), h.ahead, fun x hx => h.size x (hmem x hx)⟩
  simp only [Se.ackd, d1, List.length_drop]
  have := h.len
  omega

theorem Se.Ok.tell (h : s.Ok N) (f : Fr) (hs : f.seq ≤ N) (hd : f.data.size ≤ 3000) : (tellN 66 (s.put f)).2.Ok N := by
  obtain ⟨p1, p2, p3, p4, p5, p6, p7, p8⟩ := s.put_fields f
  obtain ⟨t1, t2, t3, t4, t5, t6, t7⟩ := tellN_keeps 66 (s.put f)
  have th := tellN_heard 66 (s.put f)
  have hh := h.heard
  have ha : ∀ z d, (s.put f).ahead z = some d → s.heard < z ∧ z ≤ s.heard + 65 ∧ z ≤ N ∧ d.size ≤ 3000 := by
    intro z d hz
    rcases s.put_ahead f z d hz with hz | ⟨rfl, rfl, h1, h2⟩
    · have := h.ahead z d hz
      exact ⟨by omega, this.2.1, this.2.2.1, this.2.2.2⟩
    · exact ⟨h1, h2, hs, hd⟩
  have he := tellN_end 66 (s.put f) (fun z d hz => by have := ha z d hz; rw [p8]; omega)
  have hle : (tellN 66 (s.put f)).2.heard ≤ N := by
    rw [th, p8]
    rcases Nat.eq_zero_or_pos (tellN 66 (s.put f)).1.length with h0 | h0
    · omega
    · have := tellN_told 66 (s.put f) ((tellN 66 (s.put f)).1.length - 1) _ (List.getElem?_eq_getElem (by omega))
      have := (ha _ _ this).2.2.1
      omega
  refine ⟨by rw [t5, p5]; exact h.len, ⟨by rw [th, p8]; omega, hle⟩, by rw [t6, p6]; exact h.last, by rw [t5, p5]; exact h.age, by rw [t5, p5]; exact h.seq, ?_, by rw [t5, p5]; exact h.size⟩
  intro z d hz
  rw [tellN_ahead] at hz
  split at hz
  · cases hz
  · rename_i hc
    have h1 := ha z d hz
    have : z ≠ (tellN 66 (s.put f)).2.heard + 1 := by
      rintro rfl
      rw [tellN_ahead, if_neg (by omega)] at he
      rw [he] at hz
      cases hz
    exact ⟨by omega, by omega, h1.2.2.1, h1.2.2.2⟩

theorem Se.Ok.take (h : s.Ok N) (hN : 64 ≤ N) (f : Fr) (hs : f.seq ≤ N) (hd : f.data.size ≤ 3000) : (s.take f).2.Ok N := by
  unfold Se.take
  split
  · exact h
  · split
    · exact (h.up hN f).owe
    · split
      · exact (h.up hN f).ackd _
      · exact (((h.up hN f).ackd _).owe).tell f hs hd

/-- What a session sends has its numbers. -/
theorem Se.Ok.frames (h : s.Ok N) (hN : 0 ≤ N) : ∀ f ∈ s.outF, 0 ≤ f.seq ∧ f.seq ≤ N ∧ f.data.size ≤ 3000 := by
  intro f hf
  unfold Se.outF at hf
  split at hf
  · simp only [List.mem_singleton] at hf
    subst hf
    exact ⟨Int.le_refl _, hN, Nat.zero_le _⟩
  · unfold Se.sends at hf
    obtain ⟨z, hz, rfl⟩ := List.mem_map.1 hf
    have hz' := (List.mem_filter.1 hz).1
    exact ⟨(h.seq z hz').1, (h.seq z hz').2, h.size z hz'⟩

/-! ### the measure -/
def wtF (f : Fr) : Nat := if f.fr = 1 then 17 else if f.has then 18 else 16
def cW (x : Wt) : Nat := if x.sent then 5 * x.age.toNat else 18
def wts (l : List Fr) : Nat := (l.map wtF).sum
def cWs (l : List Wt) : Nat := (l.map cW).sum
def pot (s : Se) : Nat := cWs s.out + if s.yours = 0 then 18 * s.out.length else 0

theorem wts_append (l m : List Fr) : wts (l ++ m) = wts l + wts m := by simp [wts]
theorem wts_cons (f : Fr) (l : List Fr) : wts (f :: l) = wtF f + wts l := by simp [wts]
theorem cWs_append (l m : List Wt) : cWs (l ++ m) = cWs l + cWs m := by simp [cWs]
theorem cWs_cons (f : Wt) (l : List Wt) : cWs (f :: l) = cW f + cWs l := by simp [cWs]
theorem wts_le : ∀ l : List Fr, 16 * l.length ≤ wts l
  | [] => by simp [wts]
  | f :: l => by
    have := wts_le l
    rw [wts_cons]
    have : 16 ≤ wtF f := by unfold wtF; split; omega; split <;> omega
    simp only [List.length_cons]
    omega
theorem wtF_le (f : Fr) : wtF f ≤ 18 := by unfold wtF; split; omega; split <;> omega
theorem wts_take_drop (l : List Fr) (k : Nat) (h : k < l.length) : wts (l.take k ++ l.drop (k + 1)) + wtF l[k] = wts l := by
  conv => rhs; rw [← List.take_append_drop k l, List.drop_eq_getElem_cons h]
  rw [wts_append, wts_append, wts_cons]
  omega

theorem pot_fresh (a b c : Int) : pot (Se.fresh a b c) = 0 := by simp [pot, Se.fresh, cWs]

theorem pot_send (d : ByteArray) : pot (s.send d).2 ≤ pot s + 36 ∧ (s.send d).2.out.length ≤ s.out.length + 1 := by
  unfold Se.send
  split
  · exact ⟨Nat.le_add_right _ _, Nat.le_succ _⟩
  · split
    · exact ⟨Nat.le_add_right _ _, Nat.le_succ _⟩
    · refine ⟨?_, by simp⟩
      unfold pot
      simp only [cWs_append, cWs_cons, List.length_append, List.length_singleton]
      have : cW ⟨s.last + 1, d, false, 0⟩ = 18 := rfl
      rw [this]
      have : cWs [] = 0 := rfl
      split <;> omega

theorem sends_cost : ∀ l : List Wt, wts (s.sends l) + cWs (l.map Wt.out) ≤ cWs l
  | [] => by simp [Se.sends, wts, cWs]
  | x :: l => by
    have h := sends_cost l
    rw [List.map_cons, cWs_cons, cWs_cons]
    unfold Se.sends at h ⊢
    cases hx : x.sent with
    | true =>
      rw [List.filter_cons, if_neg (by simp [hx])]
      have e : x.out = x := by unfold Wt.out; rw [if_pos hx]
      rw [e]
      omega
    | false =>
      rw [List.filter_cons, if_pos (by simp [hx]), List.map_cons, wts_cons]
      have e : cW x.out = 0 := by simp [Wt.out, cW, hx]
      have e2 : cW x = 18 := by unfold cW; rw [if_neg (by simp [hx])]
      have := wtF_le (s.frameOf x)
      omega

theorem pot_out : wts s.outF + pot s.outS ≤ pot s + (if s.owed = true then (if s.self = 1 then 17 else 16) else 0) := by
  have h := sends_cost (s := s) s.out
  have e : pot s.outS = cWs (s.out.map Wt.out) + if s.yours = 0 then 18 * s.out.length else 0 := by simp [pot, Se.outS]
  rw [e]
  unfold Se.outF pot
  split
  · rename_i hc
    rw [if_pos hc.1]
    rw [hc.2] at h
    have : wts [s.frame] = if s.self = 1 then 17 else 16 := by simp [wts, wtF, Se.frame]
    rw [this]
    have : wts [] = 0 := rfl
    omega
  · omega

theorem pot_tick (h : s.Ok N) : pot s.tick ≤ pot s + 5 * s.out.length := by
  have key : ∀ l : List Wt, (∀ x ∈ l, 0 ≤ x.age ∧ x.age ≤ 4 ∧ (x.sent = true → x.age ≤ 3)) → cWs (l.map Wt.tick) ≤ cWs l + 5 * l.length := by
    intro l
    induction l with
    | nil => intro _; simp [cWs]
    | cons x l ih =>
      intro hl
      have h1 := ih (fun x hx => hl x (by simp [hx]))
      have h2 := hl x (by simp)
      rw [List.map_cons, cWs_cons, cWs_cons]
      simp only [List.length_cons]
      have : cW x.tick ≤ cW x + 5 := by
        unfold Wt.tick cW
        split
        · have := h2.2.2 (by assumption)
          simp only
          split
          · omega
          · rename_i hn
            simp only [decide_eq_true_eq] at hn
            omega
        · omega
      omega
  have := key s.out h.age
  unfold pot Se.tick
  simp only [List.length_map]
  split <;> omega

theorem cWs_drop : ∀ (l : List Wt) (d : Nat), cWs (l.drop d) ≤ cWs l
  | [], d => by simp
  | x :: l, 0 => by simp
  | x :: l, d + 1 => by
    have := cWs_drop l d
    rw [List.drop_succ_cons, cWs_cons]
    omega

theorem cWs_number : ∀ (l : List Wt) (k : Int), cWs (number k l) = 18 * l.length
  | [], k => rfl
  | x :: l, k => by
    rw [number, cWs_cons, cWs_number l]
    have : cW ⟨k + 1, x.data, false, x.age⟩ = 18 := rfl
    rw [this]
    simp only [List.length_cons]
    omega

theorem pot_up (f : Fr) (h0 : 0 ≤ s.yours) : pot (s.up f) ≤ pot s := by
  unfold Se.up
  split
  · rename_i hg
    unfold pot
    have hne : ¬ f.mine = 0 := by omega
    simp only [Se.greater, if_neg hne, cWs_number]
    split
    · simp
    · rw [if_pos (by omega)]
      omega
  · omega

theorem pot_ackd (a : Int) : pot (s.ackd a) ≤ pot s := by
  obtain ⟨d, d1, d2, d3, d4⟩ := ackd_drop s.out a
  unfold pot
  simp only [Se.ackd, d1, List.length_drop]
  have := cWs_drop s.out d
  split <;> omega

theorem pot_take (f : Fr) (h0 : 0 ≤ s.yours) : pot (s.take f).2 ≤ pot s := by
  have h1 := pot_up f h0
  have h2 := pot_ackd (s := s.up f) f.ack
  unfold Se.take
  split
  · exact Nat.le_refl _
  · split
    · exact h1
    · split
      · exact Nat.le_trans h2 h1
      · obtain ⟨p1, p2, p3, p4, p5, p6, p7, p8⟩ := ((s.up f).ackd f.ack).owe.put_fields f
        obtain ⟨t1, t2, t3, t4, t5, t6, t7⟩ := tellN_keeps 66 (((s.up f).ackd f.ack).owe.put f)
        have e : pot (tellN 66 (((s.up f).ackd f.ack).owe.put f)).2 = pot ((s.up f).ackd f.ack) := by
          unfold pot
          rw [t5, p5, t4, p4]
          rfl
        simp only
        omega

/-- Whether an answer is owed behind a frame. -/
theorem take_owed (f : Fr) (h : (s.take f).2.owed = true) : s.owed = true ∨ (s.bad f = false ∧ (f.has = true ∨ f.yours ≠ s.mine)) := by
  unfold Se.take at h
  split at h
  · exact .inl h
  · rename_i hb
    have hb : s.bad f = false := by simpa using hb
    split at h
    · rename_i hy
      exact .inr ⟨hb, .inr hy⟩
    · split at h
      · exact .inl (by rw [← (s.up_fields f).2.2.2]; exact h)
      · rename_i hh
        exact .inr ⟨hb, .inl (by simpa using hh)⟩

theorem take_keeps (f : Fr) : (s.take f).2.self = s.self ∧ (s.take f).2.peer = s.peer ∧ (s.take f).2.mine = s.mine := by
  obtain ⟨u1, u2, u3, u4⟩ := s.up_fields f
  unfold Se.take
  split
  · exact ⟨rfl, rfl, rfl⟩
  · split
    · exact ⟨u1, u2, u3⟩
    · split
      · exact ⟨u1, u2, u3⟩
      · obtain ⟨p1, p2, p3, p4, p5, p6, p7, p8⟩ := ((s.up f).ackd f.ack).owe.put_fields f
        obtain ⟨t1, t2, t3, t4, t5, t6, t7⟩ := tellN_keeps 66 (((s.up f).ackd f.ack).owe.put f)
        exact ⟨(t1.trans p1).trans u1, (t2.trans p2).trans u2, (t3.trans p3).trans u3⟩

/-- What a session knows of its peer, behind a frame. -/
theorem take_yours (f : Fr) : (s.take f).2.yours = if s.bad f = true then s.yours else f.mine := by
  unfold Se.take
  split
  · rfl
  · rename_i hb
    have hm : ¬ f.mine < s.yours := fun e => hb (Se.bad_iff.2 (by omega))
    have huy := s.up_yours f hm
    split
    · exact huy
    · split
      · exact huy
      · obtain ⟨p1, p2, p3, p4, p5, p6, p7, p8⟩ := ((s.up f).ackd f.ack).owe.put_fields f
        obtain ⟨t1, t2, t3, t4, t5, t6, t7⟩ := tellN_keeps 66 (((s.up f).ackd f.ack).owe.put f)
        exact (t4.trans p4).trans huy

theorem dropWhile_len (l : List Wt) (p : Wt → Bool) : (l.dropWhile p).length ≤ l.length := by
  induction l with
  | nil => simp
  | cons x l ih =>
    rw [List.dropWhile_cons]
    split
    · simp only [List.length_cons]; omega
    · exact Nat.le_refl _

/-- No more wait behind a frame. -/
theorem take_len (f : Fr) : (s.take f).2.out.length ≤ s.out.length := by
  have hu : (s.up f).out.length ≤ s.out.length := by
    unfold Se.up
    split
    · simp only [Se.greater, number_length]
      split <;> simp
    · exact Nat.le_refl _
  have ha : ((s.up f).ackd f.ack).out.length ≤ s.out.length := Nat.le_trans (dropWhile_len _ _) hu
  unfold Se.take
  split
  · exact Nat.le_refl _
  · split
    · exact hu
    · split
      · exact ha
      · obtain ⟨p1, p2, p3, p4, p5, p6, p7, p8⟩ := ((s.up f).ackd f.ack).owe.put_fields f
        obtain ⟨t1, t2, t3, t4, t5, t6, t7⟩ := tellN_keeps 66 (((s.up f).ackd f.ack).owe.put f)
        rw [t5, p5]
        exact ha
end

end Go.Proofs.YtpbmclaglkcmoaaDoor
