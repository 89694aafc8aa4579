import Derived.Test.YtpbmclaglkcmoaaSessQ
namespace Go.Proofs.Ytpbmclaglkcmoaa
set_option linter.unusedVariables false
set_option linter.unusedSimpArgs false

/-! One end sends to the other, round by round, with nothing lost. -/
def runT : Se → List Fr → Se × List ByteArray
  | s, [] => (s, [])
  | s, f :: l => ((runT (s.take f).2 l).1, (s.take f).1.1 ++ (runT (s.take f).2 l).2)

theorem runT_snoc : ∀ (s : Se) (l : List Fr) (f : Fr), runT s (l ++ [f]) = (((runT s l).1.take f).2, (runT s l).2 ++ ((runT s l).1.take f).1.1)
  | s, [], f => by simp [runT]
  | s, g :: l, f => by
    simp only [List.cons_append, runT]
    rw [runT_snoc (s.take g).2 l f]
    simp

theorem runT_ok {N : Int} (hN : 64 ≤ N) : ∀ (l : List Fr) (s : Se), s.Ok N → (∀ f ∈ l, f.seq ≤ N ∧ f.data.size ≤ 3000) → (runT s l).1.Ok N
  | [], s, h, _ => h
  | f :: l, s, h, hf => runT_ok hN l _ (h.take hN f (hf f (by simp)).1 (hf f (by simp)).2) (fun g hg => hf g (by simp [hg]))

/-- One round: a ticks, b takes all, b tells what is to be sent, a takes all. -/
def roundR (a b : Se) : Se × Se × List ByteArray :=
  ((runT a.tick.outS (runT b a.tick.outF).1.outF).1, (runT b a.tick.outF).1.outS, (runT b a.tick.outF).2)

/-! the states -/
def wl (t : Bool) : Nat → List ByteArray → List Wt
  | _, [] => []
  | k, d :: l => ⟨(k : Int) + 1, d, t, 0⟩ :: wl t (k + 1) l
def frs (y : Int) : Nat → List ByteArray → List Fr
  | _, [] => []
  | k, d :: l => ⟨1, 2, 1, y, (k : Int) + 1, 0, d, true⟩ :: frs y (k + 1) l
def sA (y : Int) (W : List ByteArray) (o : List Wt) : Se := ⟨1, 2, 1, y, o, W.length, 0, noAhead, false⟩
def sB (y : Int) (h : Nat) (o : Bool) : Se := ⟨2, 1, 1, y, [], 0, h, noAhead, o⟩

theorem wl_length (t : Bool) : ∀ (l : List ByteArray) (k : Nat), (wl t k l).length = l.length
  | [], k => rfl
  | d :: l, k => by simp [wl, wl_length t l]
theorem wl_tick : ∀ (l : List ByteArray) (k : Nat), (wl false k l).map Wt.tick = wl false k l
  | [], k => rfl
  | d :: l, k => by simp [wl, wl_tick l, Wt.tick]
theorem wl_out : ∀ (l : List ByteArray) (k : Nat), (wl false k l).map Wt.out = wl true k l
  | [], k => rfl
  | d :: l, k => by simp [wl, wl_out l, Wt.out]
theorem wl_sends (y : Int) (W : List ByteArray) (o : List Wt) : ∀ (l : List ByteArray) (k : Nat), (sA y W o).sends (wl false k l) = frs y k l
  | [], k => rfl
  | d :: l, k => by
    have := wl_sends y W o l (k + 1)
    unfold Se.sends at this ⊢
    simp only [wl, List.filter_cons, Bool.not_false, if_true, List.map_cons, frs]
    rw [this]
    rfl
theorem wl_number (t : Bool) : ∀ (l : List ByteArray) (k : Nat), number (k : Int) (wl t k l) = wl false k l
  | [], k => rfl
  | d :: l, k => by
    have := wl_number t l (k + 1)
    simp only [wl, number]
    rw [show ((k : Int) + 1) = ((k + 1 : Nat) : Int) by omega, this]
theorem wl_ack0 (t : Bool) (l : List ByteArray) (k : Nat) : (wl t k l).dropWhile (fun x => decide (x.seq ≤ 0)) = wl t k l := by
  cases l with
  | nil => rfl
  | cons d l =>
    simp only [wl, List.dropWhile_cons]
    rw [if_neg (by simp only [decide_eq_true_eq]; omega)]
theorem wl_ackall (t : Bool) : ∀ (l : List ByteArray) (k : Nat) (a : Int), ((k : Int) + l.length ≤ a) → (wl t k l).dropWhile (fun x => decide (x.seq ≤ a)) = []
  | [], k, a, h => rfl
  | d :: l, k, a, h => by
    simp only [List.length_cons] at h
    simp only [wl, List.dropWhile_cons]
    rw [if_pos (by simp only [decide_eq_true_eq]; omega)]
    exact wl_ackall t l (k + 1) a (by omega)
theorem wl_snoc (t : Bool) : ∀ (l : List ByteArray) (k : Nat) (d : ByteArray), wl t k (l ++ [d]) = wl t k l ++ [⟨((k + l.length : Nat) : Int) + 1, d, t, 0⟩]
  | [], k, d => by simp [wl]
  | e :: l, k, d => by
    have := wl_snoc t l (k + 1) d
    simp only [List.cons_append, wl, List.length_cons]
    rw [this, show k + 1 + l.length = k + (l.length + 1) by omega]

/-- What is sent is told in its order: of an end that knows the other's life. -/
theorem take_next (h : Nat) (o : Bool) (d : ByteArray) : (sB 1 h o).take ⟨1, 2, 1, 1, (h : Int) + 1, 0, d, true⟩ = (([d], true), sB 1 (h + 1) true) := by
  have u : (sB 1 h o).up ⟨1, 2, 1, 1, (h : Int) + 1, 0, d, true⟩ = sB 1 h o := by
    unfold Se.up
    rw [if_neg (by simp [sB])]
  have a : (sB 1 h o).ackd 0 = sB 1 h o := rfl
  have w : (sB 1 h o).owe = sB 1 h true := rfl
  have p : (sB 1 h true).put ⟨1, 2, 1, 1, (h : Int) + 1, 0, d, true⟩ = ⟨2, 1, 1, 1, [], 0, h, putAhead noAhead ((h : Int) + 1) d, true⟩ := by
    unfold Se.put
    have e0 : (sB 1 h true).heard = (h : Int) := rfl
    rw [if_pos ⟨rfl, by rw [e0]; show (h : Int) < (h : Int) + 1; omega, by rw [e0]; show (h : Int) + 1 - (h : Int) - 1 ≤ 64; omega⟩]
    rfl
  have e1 : (((sB 1 h o).up ⟨1, 2, 1, 1, (h : Int) + 1, 0, d, true⟩).ackd 0).owe.put ⟨1, 2, 1, 1, (h : Int) + 1, 0, d, true⟩ = ⟨2, 1, 1, 1, [], 0, h, putAhead noAhead ((h : Int) + 1) d, true⟩ := by
    rw [u, a, w, p]
  have e2 : delAhead (putAhead noAhead ((h : Int) + 1) d) ((h : Int) + 1) = noAhead := by
    funext x
    simp only [delAhead, putAhead, noAhead]
    split <;> rfl
  have e3 : tellN 66 ⟨2, 1, 1, 1, [], 0, h, putAhead noAhead ((h : Int) + 1) d, true⟩ = ([d], sB 1 (h + 1) true) := by
    have a1 : putAhead noAhead ((h : Int) + 1) d ((h : Int) + 1) = some d := by simp [putAhead]
    rw [tellN]
    simp only [a1, e2]
    rw [tellN]
    simp only [noAhead]
    rfl
  unfold Se.take
  rw [if_neg (by simp [Se.bad, sB]), if_neg (by simp [sB]), if_neg (by simp)]
  simp only
  rw [e1, e3]

theorem run_told : ∀ (l : List ByteArray) (h : Nat) (o : Bool), runT (sB 1 h o) (frs 1 h l) = (sB 1 (h + l.length) (o || !l.isEmpty), l)
  | [], h, o => by simp [runT, frs]
  | d :: l, h, o => by
    have := run_told l (h + 1) true
    simp only [frs, runT]
    rw [take_next h o d]
    simp only
    rw [this]
    simp only [List.length_cons, List.isEmpty_cons, Bool.not_false, Bool.or_true, Bool.true_or, List.singleton_append, Prod.mk.injEq, and_true]
    rw [show h + 1 + l.length = h + (l.length + 1) by omega]

/-- Before it knows the life nothing is told. -/
theorem run_first : ∀ (l : List ByteArray) (k : Nat), runT (sB 1 0 true) (frs 0 k l) = (sB 1 0 true, [])
  | [], k => rfl
  | d :: l, k => by
    have e : (sB 1 0 true).take ⟨1, 2, 1, 0, (k : Int) + 1, 0, d, true⟩ = (([], true), sB 1 0 true) := by
      unfold Se.take
      rw [if_neg (by simp [Se.bad, sB]), if_pos (by simp [sB])]
      unfold Se.up
      rw [if_neg (by simp [sB])]
      rfl
    simp only [frs, runT]
    rw [e]
    simp only [List.nil_append]
    exact run_first l (k + 1)
theorem run_first0 (d : ByteArray) (l : List ByteArray) : runT (sB 0 0 false) (frs 0 0 (d :: l)) = (sB 1 0 true, []) := by
  have e : (sB 0 0 false).take ⟨1, 2, 1, 0, ((0 : Nat) : Int) + 1, 0, d, true⟩ = (([], true), sB 1 0 true) := by
    unfold Se.take
    rw [if_neg (by simp [Se.bad, sB]), if_pos (by simp [sB])]
    unfold Se.up
    rw [if_pos (by simp [sB])]
    rfl
  simp only [frs, runT]
  rw [e]
  simp only [List.nil_append]
  exact run_first l 1

theorem sA_tick (y : Int) (W : List ByteArray) : (sA y W (wl false 0 W)).tick = sA y W (wl false 0 W) := by
  show sA y W ((wl false 0 W).map Wt.tick) = _
  rw [wl_tick]
theorem sA_outF (y : Int) (W : List ByteArray) : (sA y W (wl false 0 W)).outF = frs y 0 W := by
  unfold Se.outF
  rw [if_neg (by simp [sA])]
  exact wl_sends y W _ W 0
theorem sA_outS (y : Int) (W : List ByteArray) : (sA y W (wl false 0 W)).outS = sA y W (wl true 0 W) := by
  show sA y W ((wl false 0 W).map Wt.out) = _
  rw [wl_out]

/-- The first round: they come to know each other. -/
theorem round_first (d : ByteArray) (l : List ByteArray) : roundR (sA 0 (d :: l) (wl false 0 (d :: l))) (sB 0 0 false) = (sA 1 (d :: l) (wl false 0 (d :: l)), sB 1 0 false, []) := by
  unfold roundR
  rw [sA_tick, sA_outF, sA_outS, run_first0]
  have e1 : (sB 1 0 true).outF = [⟨2, 1, 1, 1, 0, 0, ⟨#[]⟩, false⟩] := rfl
  have e2 : (sB 1 0 true).outS = sB 1 0 false := rfl
  have e3 : (sA 0 (d :: l) (wl true 0 (d :: l))).take ⟨2, 1, 1, 1, 0, 0, ⟨#[]⟩, false⟩ = (([], true), sA 1 (d :: l) (wl false 0 (d :: l))) := by
    have u : (sA 0 (d :: l) (wl true 0 (d :: l))).up ⟨2, 1, 1, 1, 0, 0, ⟨#[]⟩, false⟩ = sA 1 (d :: l) (wl false 0 (d :: l)) := by
      unfold Se.up
      rw [if_pos (by simp [sA])]
      have hn := wl_number true (d :: l) 0
      have h2 := wl_length true (d :: l) 0
      have h0 : ¬ 0 < (sA 0 (d :: l) (wl true 0 (d :: l))).yours := by simp [sA]
      unfold Se.greater
      rw [if_neg h0]
      show Se.mk 1 2 1 1 (number 0 (wl true 0 (d :: l))) ((wl true 0 (d :: l)).length : Int) 0 noAhead false = Se.mk 1 2 1 1 (wl false 0 (d :: l)) ((d :: l).length : Int) 0 noAhead false
      rw [h2, show (0 : Int) = ((0 : Nat) : Int) from rfl, hn]
    unfold Se.take
    rw [if_neg (by simp [Se.bad, sA]), if_neg (by simp [sA]), if_pos rfl]
    rw [u]
    show _ = (([], true), sA 1 (d :: l) (wl false 0 (d :: l)))
    have a := wl_ack0 false (d :: l) 0
    simp only [Se.ackd, sA]
    rw [a]
  simp only [e1, e2, runT, e3]

/-- The second round: all is told, and acked. -/
theorem round_second (d : ByteArray) (l : List ByteArray) : roundR (sA 1 (d :: l) (wl false 0 (d :: l))) (sB 1 0 false) = (sA 1 (d :: l) [], sB 1 (d :: l).length false, d :: l) := by
  unfold roundR
  rw [sA_tick, sA_outF, sA_outS, run_told]
  have e1 : (sB 1 (0 + (d :: l).length) (false || !(d :: l).isEmpty)).outF = [⟨2, 1, 1, 1, 0, ((d :: l).length : Int), ⟨#[]⟩, false⟩] := by
    simp only [Nat.zero_add, List.isEmpty_cons, Bool.not_false, Bool.false_or]
    rfl
  have e2 : (sB 1 (0 + (d :: l).length) (false || !(d :: l).isEmpty)).outS = sB 1 (d :: l).length false := by
    simp only [Nat.zero_add]
    rfl
  have e3 : (sA 1 (d :: l) (wl true 0 (d :: l))).take ⟨2, 1, 1, 1, 0, ((d :: l).length : Int), ⟨#[]⟩, false⟩ = (([], true), sA 1 (d :: l) []) := by
    have u : (sA 1 (d :: l) (wl true 0 (d :: l))).up ⟨2, 1, 1, 1, 0, ((d :: l).length : Int), ⟨#[]⟩, false⟩ = sA 1 (d :: l) (wl true 0 (d :: l)) := by
      unfold Se.up
      rw [if_neg (by simp [sA])]
    unfold Se.take
    rw [if_neg (by simp [Se.bad, sA]), if_neg (by simp [sA]), if_pos rfl, u]
    have a := wl_ackall true (d :: l) 0 ((d :: l).length : Int) (by omega)
    simp only [Se.ackd, sA]
    rw [a]
  simp only [e1, e2, runT, e3]

/-- Then nothing more is said. -/
theorem round_still (y yb : Int) (W : List ByteArray) (h : Nat) : roundR (sA y W []) (sB yb h false) = (sA y W [], sB yb h false, []) := by
  have e1 : (sA y W []).tick.outF = [] := rfl
  have e2 : (sA y W []).tick.outS = sA y W [] := rfl
  have e3 : (sB yb h false).outF = [] := rfl
  have e4 : (sB yb h false).outS = sB yb h false := rfl
  unfold roundR
  rw [e1, e2]
  simp only [runT, e3, e4]

/-- k rounds. -/
def stR (W : List ByteArray) (k : Nat) : Se × Se × List ByteArray :=
  if W = [] then (sA 0 [] [], sB 0 0 false, [])
  else if k = 0 then (sA 0 W (wl false 0 W), sB 0 0 false, [])
  else if k = 1 then (sA 1 W (wl false 0 W), sB 1 0 false, [])
  else (sA 1 W [], sB 1 W.length false, W)

theorem stR_next (W : List ByteArray) (k : Nat) : roundR (stR W k).1 (stR W k).2.1 = ((stR W (k + 1)).1, (stR W (k + 1)).2.1, if W ≠ [] ∧ k = 1 then W else []) ∧ (stR W (k + 1)).2.2 = (stR W k).2.2 ++ (if W ≠ [] ∧ k = 1 then W else []) := by
  cases W with
  | nil =>
    simp only [stR, if_true, ne_eq, not_true_eq_false, false_and, if_false, List.append_nil, and_true]
    exact round_still 0 0 [] 0
  | cons d l =>
    match k with
    | 0 => simp [stR, round_first]
    | 1 => simp [stR, round_second]
    | k + 2 => simp [stR, round_still]

theorem stR_end (W : List ByteArray) : (stR W 12).2.2 = W ∧ (stR W 12).1.out = [] := by
  cases W <;> simp [stR, sA]

/-- A send. -/
theorem sA_send (W : List ByteArray) (d : ByteArray) (hd : d.size ≤ 3000) : (sA 0 W (wl false 0 W)).send d = if W.length = 64 then (10, sA 0 W (wl false 0 W)) else (0, sA 0 (W ++ [d]) (wl false 0 (W ++ [d]))) := by
  unfold Se.send
  rw [if_neg (by omega)]
  simp only [sA, wl_length]
  split
  · rfl
  · rw [wl_snoc]
    simp

theorem sA_fresh : Se.fresh 1 2 1 = sA 0 [] (wl false 0 []) := rfl
theorem sB_fresh : Se.fresh 2 1 1 = sB 0 0 false := rfl

theorem wl_mem (t : Bool) : ∀ (l : List ByteArray) (k : Nat) (x : Wt), x ∈ wl t k l → (k : Int) < x.seq ∧ x.seq ≤ k + l.length ∧ x.data ∈ l ∧ x.age = 0
  | [], k, x, h => by cases h
  | d :: l, k, x, h => by
    simp only [wl, List.mem_cons] at h
    rcases h with rfl | h
    · simp only [List.length_cons]
      exact ⟨by omega, by omega, by simp, trivial⟩
    · have := wl_mem t l (k + 1) x h
      simp only [List.length_cons]
      exact ⟨by omega, by omega, by simp [this.2.2.1], this.2.2.2⟩

theorem sA_ok (y : Int) (t : Bool) (W : List ByteArray) (hl : W.length ≤ 64) (hd : ∀ d ∈ W, d.size ≤ 3000) : (sA y W (wl t 0 W)).Ok 64 := by
  refine ⟨by simp [sA, wl_length, hl], by simp [sA], by simp [sA]; omega, ?_, ?_, by simp [sA, noAhead], ?_⟩
  · intro x hx
    have := wl_mem t W 0 x hx
    omega
  · intro x hx
    have := wl_mem t W 0 x hx
    omega
  · intro x hx
    exact hd _ (wl_mem t W 0 x hx).2.2.1
theorem sA_ok0 (y : Int) (W : List ByteArray) (hl : W.length ≤ 64) : (sA y W []).Ok 64 :=
  ⟨by simp [sA], by simp [sA], by simp [sA]; omega, by simp [sA], by simp [sA], by simp [sA, noAhead], by simp [sA]⟩
theorem sB_ok (y : Int) (h : Nat) (o : Bool) (hh : h ≤ 64) : (sB y h o).Ok 64 :=
  ⟨by simp [sB], by simp [sB]; omega, by simp [sB], by simp [sB], by simp [sB], by simp [sB, noAhead], by simp [sB]⟩
theorem stR_ok (W : List ByteArray) (hl : W.length ≤ 64) (hd : ∀ d ∈ W, d.size ≤ 3000) (k : Nat) : (stR W k).1.Ok 64 ∧ (stR W k).2.1.Ok 64 := by
  unfold stR
  split
  · exact ⟨sA_ok0 0 [] (by decide), sB_ok _ _ _ (by decide)⟩
  · split
    · exact ⟨sA_ok 0 false W hl hd, sB_ok _ _ _ (by decide)⟩
    · split
      · exact ⟨sA_ok 1 false W hl hd, sB_ok _ _ _ (by decide)⟩
      · exact ⟨sA_ok0 1 W hl, sB_ok _ _ _ hl⟩

end Go.Proofs.Ytpbmclaglkcmoaa
