import Derived.Test.YtpbmclaglkcmoaaDoorMsgPut
import Derived.Deep.AppendLies
import Derived.KernelRfl
namespace Go.Proofs.YtpbmclaglkcmoaaDoor
open Go.RowKit
set_option linter.unusedVariables false
set_option linter.unusedSimpArgs false

/-! msg: Get, what it reads. -/
theorem rnum_lt (l : List UInt8) (err : Int) (n : Nat) (h1 : 1 ≤ n) (h8 : n ≤ 8) : (rnumR l err n).1 < 256 ^ n := by
  unfold rnumR
  rw [if_neg (by omega)]
  have h1 := take_len l err (n : Int).toNat
  have h2 := leV_lt (takeR l err (n : Int).toNat).1
  have h3 : (256 : Nat) ^ (takeR l err (n : Int).toNat).1.length ≤ 256 ^ n := Nat.pow_le_pow_right (by decide) (by simpa using h1)
  show leV (takeR l err (n : Int).toNat).1 < _
  omega
theorem rnum1_lt (l : List UInt8) (err : Int) : (rnumR l err 1).1 < 256 := rnum_lt l err 1 (by decide) (by decide)
theorem rnum4_lt (l : List UInt8) (err : Int) : (rnumR l err 4).1 < 4294967296 := rnum_lt l err 4 (by decide) (by decide)
theorem rnum8_lt (l : List UInt8) (err : Int) : (rnumR l err 8).1 < 18446744073709551616 := rnum_lt l err 8 (by decide) (by decide)
theorem count_le (l : List UInt8) (err : Int) : (countR l err 200).1 ≤ 200 := by
  unfold countR
  split
  · simp
  · rename_i h
    by_cases he : (rnumR l err 2).2.2 = 0
    · have : ¬ (200 : Int) < ((rnumR l err 2).1 : Int) := fun hh => h ⟨he, hh⟩
      omega
    · have : (rnumR l err 2).1 = 0 := by
        revert he
        unfold rnumR takeR
        rw [if_neg (by omega)]
        split
        · intro _; rfl
        · split
          · intro _; rfl
          · intro he; exact absurd rfl he
      omega

abbrev RS := List UInt8 × Int
def rsN (s : RS) (n : Int) : Nat := (rnumR s.1 s.2 n).1
def rsS (s : RS) (n : Int) : RS := (rnumR s.1 s.2 n).2
def sq (s : RS) : Nat → RS
  | 0 => s
  | k + 1 => rsS (sq s k) 4
def lockD (s : RS) : LockR := ⟨rsN s 4, rsN (rsS s 4) 4, rsN (rsS (rsS s 4) 4) 1⟩
def lockS (s : RS) : RS := rsS (rsS (rsS s 4) 4) 1
def lq (s : RS) : Nat → RS
  | 0 => s
  | k + 1 => lockS (lq s k)
def locksD (s : RS) : Nat → List LockR
  | 0 => []
  | k + 1 => locksD s k ++ [lockD (lq s k)]
theorem locksD_length (s : RS) : ∀ k, (locksD s k).length = k
  | 0 => rfl
  | k + 1 => by simp [locksD, locksD_length s k]
/-- What is left behind kind, four numbers, error, epoch. -/
def s1 (l : List UInt8) : RS := rsS (l, 0) 1
def s5 (l : List UInt8) : RS := sq (s1 l) 4
def s6 (l : List UInt8) : RS := rsS (s5 l) 4
def s7 (l : List UInt8) : RS := rsS (s6 l) 8
def cN (l : List UInt8) : Nat := (countR (s7 l).1 (s7 l).2 200).1
def s8 (l : List UInt8) : RS := (countR (s7 l).1 (s7 l).2 200).2
def s9 (l : List UInt8) : RS := lq (s8 l) (cN l)
def rawD (l : List UInt8) : MsgR := ⟨rsN (l, 0) 1, rsN (s1 l) 4, rsN (sq (s1 l) 1) 4, rsN (sq (s1 l) 2) 4, rsN (sq (s1 l) 3) 4, rsN (s6 l) 8, rsN (s5 l) 4, locksD (s8 l) (cN l)⟩
def zeroM : MsgR := ⟨0, 0, 0, 0, 0, 0, 0, []⟩
def endE (l : List UInt8) : Int := endR (s9 l).1 (s9 l).2
open Classical in
noncomputable def getD (l : List UInt8) : MsgR × Int :=
  if endE l ≠ 0 then (zeroM, endE l) else if msgOk (rawD l) = true ∧ encM (rawD l) = l then (rawD l, 0) else (zeroM, 4)

theorem take_left (l : List UInt8) (err : Int) (n : Nat) : (takeR l err n).2.1.length ≤ l.length := by
  unfold takeR
  split
  · simp
  · split
    · simp
    · simp
theorem rsS_len (s : RS) (n : Int) : (rsS s n).1.length ≤ s.1.length := by
  unfold rsS rnumR
  split
  · simp
  · exact take_left _ _ _
theorem sq_len (s : RS) : ∀ k, (sq s k).1.length ≤ s.1.length
  | 0 => Nat.le_refl _
  | k + 1 => Nat.le_trans (rsS_len _ _) (sq_len s k)
theorem lq_len (s : RS) : ∀ k, (lq s k).1.length ≤ s.1.length
  | 0 => Nat.le_refl _
  | k + 1 => Nat.le_trans (rsS_len _ _) (Nat.le_trans (rsS_len _ _) (Nat.le_trans (rsS_len _ _) (lq_len s k)))
theorem s8_len (l : List UInt8) : (s8 l).1.length ≤ (s7 l).1.length := by
  unfold s8 countR
  split
  · exact rsS_len _ 2
  · exact rsS_len _ 2
theorem s9_len (l : List UInt8) : (s9 l).1.length ≤ l.length := by
  refine Nat.le_trans (lq_len _ _) (Nat.le_trans (s8_len l) (Nat.le_trans (rsS_len _ _) (Nat.le_trans (rsS_len _ _) (Nat.le_trans (sq_len _ _) ?_))))
  exact rsS_len (l, 0) 1

theorem getD_end {l : List UInt8} (h : endE l ≠ 0) : getD l = (zeroM, endE l) := by unfold getD; rw [if_pos h]
theorem getD_ok {l : List UInt8} (h : endE l = 0) (h2 : msgOk (rawD l) = true) (h3 : encM (rawD l) = l) : getD l = (rawD l, 0) := by unfold getD; rw [if_neg (not_not_intro h), if_pos ⟨h2, h3⟩]
theorem getD_bad {l : List UInt8} (h : endE l = 0) (h2 : ¬ (msgOk (rawD l) = true ∧ encM (rawD l) = l)) : getD l = (zeroM, 4) := by unfold getD; rw [if_neg (not_not_intro h), if_neg h2]

theorem sc {B b : Nat} {a w : World} (h : Below B a w) (hb : B ≤ b) (o : Nat) (v : Value) : Below B a (w.setCell ⟨b, o, none⟩ v) := h.setCell (p := ⟨b, o, none⟩) hb v

/-- The cells of locks. -/
def lockC : List LockR → List Value
  | [] => []
  | x :: l => .int .i64 x.f :: .int .i64 x.t :: .int .i64 x.m :: lockC l
theorem lockC_snoc (x : LockR) : ∀ l : List LockR, lockC (l ++ [x]) = lockC l ++ [.int .i64 x.f, .int .i64 x.t, .int .i64 x.m]
  | [] => rfl
  | y :: l => by simp [lockC, lockC_snoc x l]
theorem lockC_get : ∀ (l : List LockR) (j : Nat) (h : j < l.length), (lockC l)[j * 3]? = some (.int .i64 l[j].f) ∧ (lockC l)[j * 3 + 1]? = some (.int .i64 l[j].t) ∧ (lockC l)[j * 3 + 2]? = some (.int .i64 l[j].m)
  | [], j, h => absurd h (Nat.not_lt_zero _)
  | x :: l, 0, h => ⟨rfl, rfl, rfl⟩
  | x :: l, j + 1, h => by
    have := lockC_get l j (by simpa using h)
    rw [show (j + 1) * 3 = j * 3 + 3 by omega]
    simpa [lockC] using this
theorem addr_add0 (g j : Nat) : (⟨g, 0, none⟩ : Addr).add j = ⟨g, j, none⟩ := by unfold Addr.add; split <;> simp_all
theorem ownB_keep {w w' : World} {B e size n : Nat} {v : Value} {xs : List Value} (h : w.ownsRow B e size v n xs) (hk : ∀ k, v.ownBlock = some k → w'.heap[k]? = w.heap[k]?) : w'.ownsRow B e size v n xs := by
  rcases h with ⟨h1, h2⟩
  refine ⟨h1, ?_⟩
  rcases h2 with h2 | ⟨g, cap, cur, hv, hg, hh, r⟩
  · exact Or.inl h2
  · exact Or.inr ⟨g, cap, cur, hv, hg, by rw [hk g (by rw [hv]; rfl)]; exact hh, r⟩
theorem ownB_ge {w : World} {base : Nat} {e : TypeId} {size n : Nat} {v : Value} {xs : List Value} (h : w.ownsRow base e size v n xs) (k : Nat) (hk : v.ownBlock = some k) : base ≤ k ∧ k < w.heap.size := by
  rcases h.2 with ⟨rfl, _⟩ | ⟨g, cap, cur, rfl, hb, hh, _⟩
  · simp [Value.ownBlock] at hk
  · have : g = k := by simpa [Value.ownBlock] using hk
    subst this
    exact ⟨hb, lt_of_heap hh⟩
theorem ownB_below {w w' : World} {B e size n : Nat} {v : Value} {xs : List Value} (h : w.ownsRow B e size v n xs) (hb : Below w.heap.size w w') : w'.ownsRow B e size v n xs :=
  ownB_keep h (fun k hk => hb.block k (ownB_ge h k hk).2)
theorem ownB_slice {w : World} {base : Nat} {e : TypeId} {size n : Nat} {v : Value} {xs : List Value} (h : w.ownsRow base e size v n xs) : ∃ A c, v = .slice A n c := by
  rcases h.2 with ⟨rfl, h0⟩ | ⟨g, cap, cur, rfl, _⟩
  · exact ⟨none, 0, by rw [h0]⟩
  · exact ⟨_, _, rfl⟩
theorem Tryd.infoLock : (Tryd.prog.info? 101).map (fun i => (i.zero, i.size, i.bytes)) = some (some (.agg #[.int .i64 0, .int .i64 0, .int .i64 0]), 3, 24) := by kernel_rfl
theorem lockC_length : ∀ l : List LockR, (lockC l).length = l.length * 3
  | [] => rfl
  | x :: l => by simp [lockC, lockC_length l]; omega
theorem Locks.own {w : World} {B : Nat} {v : Value} {l : List LockR} (h : w.ownsRow B 101 3 v l.length (lockC l)) : ∃ A c, v = .slice A l.length c ∧ l.length ≤ c ∧ Locks w A l ∧ ∀ ad : Addr, A = some ad → B ≤ ad.block := by
  rcases h.2 with ⟨rfl, h0⟩ | ⟨g, cap, cur, rfl, hBg, _, hc, _⟩
  · refine ⟨none, 0, ?_, by omega, ?_, fun ad h => by cases h⟩
    · rw [h0]
    · intro j hj
      omega
  · refine ⟨_, cap, rfl, hc, ?_, fun ad h => by cases h; exact hBg⟩
    intro j hj
    obtain ⟨e0, e1, e2⟩ := lockC_get l j hj
    have hcell := h.cells (g := g) rfl
    refine ⟨g, 0, rfl, ?_, ?_, ?_⟩
    all_goals simp only [Nat.zero_add]
    · have := hcell _ _ e0; rwa [addr_add0] at this
    · have := hcell _ _ e1; rwa [addr_add0] at this
    · have := hcell _ _ e2; rwa [addr_add0] at this
theorem Locks.nil (w : World) (A : Option Addr) : Locks w A [] := fun j hj => absurd hj (Nat.not_lt_zero _)

/-- What stands while Get reads: its result's block B, its reader's b, its message's M. -/
def GS (B b M : Nat) (w0 : World) (s : RS) (K : Array Value) (W : World) : Prop :=
  Rd b s.1 s.2 W ∧ W.heap[M]? = some (.cells K 53 (0, 0)) ∧ W.heap[B]? = some (.cells #[.int .i64 0, .int .i64 0, .int .i64 0, .int .i64 0, .int .i64 0, .int .u64 0, .int .i64 0, .slice none 0 0] 53 (0, 0)) ∧ Below B w0 W ∧ B < b ∧ b < M

theorem GS.alloc {B b M : Nat} {w0 : World} {s : RS} {K : Array Value} {W : World} (h : GS B b M w0 s K W) (ob : Obj) : GS B b M w0 s K (W.alloc ob) := by
  obtain ⟨h1, h2, h3, h4, h5, h6⟩ := h
  have hs : B ≤ W.heap.size := Nat.le_of_lt (lt_of_heap h3)
  exact ⟨(Lib.alloc_old W _ b h1.lt).trans h1, (Lib.alloc_old W _ M (lt_of_heap h2)).trans h2, (Lib.alloc_old W _ B (lt_of_heap h3)).trans h3, h4.alloc hs ob, h5, h6⟩
theorem GS.below {B b M : Nat} {w0 : World} {s : RS} {K : Array Value} {W W' : World} (h : GS B b M w0 s K W) (hb : Below W.heap.size W W') : GS B b M w0 s K W' := by
  obtain ⟨h1, h2, h3, h4, h5, h6⟩ := h
  have hs : B ≤ W.heap.size := Nat.le_of_lt (lt_of_heap h3)
  exact ⟨h1.below hb, (hb.block M (lt_of_heap h2)).trans h2, (hb.block B (lt_of_heap h3)).trans h3, h4.trans (hb.mono hs), h5, h6⟩
theorem GS.kept {B b M : Nat} {w0 : World} {s s' : RS} {K : Array Value} {W W' : World} (h : GS B b M w0 s K W) (hr : Rd b s'.1 s'.2 W') (hb : KeptB b W W') : GS B b M w0 s' K W' := by
  obtain ⟨h1, h2, h3, h4, h5, h6⟩ := h
  have hs : B ≤ W.heap.size := Nat.le_of_lt (lt_of_heap h3)
  exact ⟨hr, (hb.block M (lt_of_heap h2) (by omega)).trans h2, (hb.block B (lt_of_heap h3) (by omega)).trans h3, h4.trans (hb.below hs (fun k h e => by omega)), h5, h6⟩
theorem GS.set {B b M : Nat} {w0 : World} {s : RS} {K : Array Value} {W : World} (h : GS B b M w0 s K W) (i : Nat) (v : Value) : GS B b M w0 s (K.setIfInBounds i v) (W.setCell ⟨M, i, none⟩ v) := by
  obtain ⟨h1, h2, h3, h4, h5, h6⟩ := h
  refine ⟨(Below.heap_setCell W ⟨M, i, none⟩ v b (by show b ≠ M; omega)).trans h1, ?_, (Below.heap_setCell W ⟨M, i, none⟩ v B (by show B ≠ M; omega)).trans h3, h4.setCell (p := ⟨M, i, none⟩) (by show B ≤ M; omega) v, h5, h6⟩
  simp [World.setCell, Array.getElem?_modify, h2]
theorem GS.num {B b M : Nat} {w0 : World} {s : RS} {K : Array Value} {W : World} (h : GS B b M w0 s K W) (n : Int) :
    Calls Tryd.prog 43 #[.pointer (some ⟨b, 0, none⟩), .int .i64 n] W fun r w' => r = .returned (.int .u64 (rsN s n)) ∧ Hid (GS B b M w0 (rsS s n) K w') ∧ KeptB b W w' := by
  refine (rnum_calls b s.1 s.2 n W h.1).mono ?_
  rintro r w' ⟨e, h1, k1⟩
  exact ⟨e, h.kept (s' := rsS s n) h1 k1, k1⟩
theorem GS.cell {B b M : Nat} {w0 : World} {s : RS} {K : Array Value} {W : World} (h : GS B b M w0 s K W) (i : Nat) : W.cell? ⟨M, i, none⟩ = K[i]? := by
  rw [Lib.cell_of_heap h.2.1]
theorem GS.free {B b M : Nat} {w0 : World} {s : RS} {K : Array Value} {W : World} (h : GS B b M w0 s K W) (i : Nat) : W.frozen? ⟨M, i, none⟩ = false := Lib.frozen_of_heap h.2.1 i
theorem GS.cell0 {B b M : Nat} {w0 : World} {s : RS} {K : Array Value} {W : World} (h : GS B b M w0 s K W) (i : Nat) : W.cell? ⟨B, i, none⟩ = (#[.int .i64 0, .int .i64 0, .int .i64 0, .int .i64 0, .int .i64 0, .int .u64 0, .int .i64 0, .slice none 0 0] : Array Value)[i]? := by
  rw [Lib.cell_of_heap h.2.2.1]
theorem GS.free0 {B b M : Nat} {w0 : World} {s : RS} {K : Array Value} {W : World} (h : GS B b M w0 s K W) (i : Nat) : W.frozen? ⟨B, i, none⟩ = false := Lib.frozen_of_heap h.2.2.1 i
theorem GS.grown {B b M : Nat} {w0 : World} {s : RS} {K : Array Value} {W W' : World} {row : Option Nat} (h : GS B b M w0 s K W) (hg : W.grownBy W' row) (hr : ∀ k, row = some k → M < k) : GS B b M w0 s K W' := by
  obtain ⟨h1, h2, h3, h4, h5, h6⟩ := h
  have l1 := h1.lt
  have l2 := lt_of_heap h2
  have l3 := lt_of_heap h3
  exact ⟨(hg.block b l1 (fun e => by have := hr b e.symm; omega)).trans h1, (hg.block M l2 (fun e => by have := hr M e.symm; omega)).trans h2, (hg.block B l3 (fun e => by have := hr B e.symm; omega)).trans h3, h4.grown hg (by omega) (fun k ek => by have := hr k ek; omega), h5, h6⟩
theorem GS.drewN {B b M : Nat} {w0 : World} {s : RS} {K : Array Value} {W : World} (h : GS B b M w0 s K W) (m : Nat) : GS B b M w0 s K (W.drewN m) := by
  obtain ⟨h1, h2, h3, h4, h5, h6⟩ := h
  exact ⟨h1, h2, h3, ⟨h4.os, h4.tape, h4.output, h4.size, h4.block⟩, h5, h6⟩
theorem GS.lt {B b M : Nat} {w0 : World} {s : RS} {K : Array Value} {W : World} (h : GS B b M w0 s K W) : B < b ∧ b < M ∧ M < W.heap.size := ⟨h.2.2.2.2.1, h.2.2.2.2.2, lt_of_heap h.2.1⟩

def put8 (W : World) (B : Nat) (v0 v1 v2 v3 v4 v5 v6 v7 : Value) : World := (((((((W.setCell ⟨B, 0, none⟩ v0).setCell ⟨B, 1, none⟩ v1).setCell ⟨B, 2, none⟩ v2).setCell ⟨B, 3, none⟩ v3).setCell ⟨B, 4, none⟩ v4).setCell ⟨B, 5, none⟩ v5).setCell ⟨B, 6, none⟩ v6).setCell ⟨B, 7, none⟩ v7
theorem set_heap {W : World} {B i : Nat} {K : Array Value} {t : TypeId} {v : Value} (h : W.heap[B]? = some (.cells K t (0, 0))) : (W.setCell ⟨B, i, none⟩ v).heap[B]? = some (.cells (K.setIfInBounds i v) t (0, 0)) := by
  simp [World.setCell, Array.getElem?_modify, h]
theorem put8_heap {W : World} {B : Nat} {k0 k1 k2 k3 k4 k5 k6 k7 : Value} {t : TypeId} (v0 v1 v2 v3 v4 v5 v6 v7 : Value) (h : W.heap[B]? = some (.cells #[k0, k1, k2, k3, k4, k5, k6, k7] t (0, 0))) : (put8 W B v0 v1 v2 v3 v4 v5 v6 v7).heap[B]? = some (.cells #[v0, v1, v2, v3, v4, v5, v6, v7] t (0, 0)) :=
  (set_heap (i := 7) (v := v7) (set_heap (i := 6) (v := v6) (set_heap (i := 5) (v := v5) (set_heap (i := 4) (v := v4) (set_heap (i := 3) (v := v3) (set_heap (i := 2) (v := v2) (set_heap (i := 1) (v := v1) (set_heap (i := 0) (v := v0) h)))))))).trans (by simp)
theorem put8_below {B : Nat} {a W : World} (h : Below B a W) (v0 v1 v2 v3 v4 v5 v6 v7 : Value) : Below B a (put8 W B v0 v1 v2 v3 v4 v5 v6 v7) :=
  sc (sc (sc (sc (sc (sc (sc (sc h (Nat.le_refl _) _ _) (Nat.le_refl _) _ _) (Nat.le_refl _) _ _) (Nat.le_refl _) _ _) (Nat.le_refl _) _ _) (Nat.le_refl _) _ _) (Nat.le_refl _) _ _) (Nat.le_refl _) _ _
theorem put8_locks {W : World} {A : Option Addr} {l : List LockR} {B : Nat} (h : Locks W A l) (hA : ∀ ad : Addr, A = some ad → B < ad.block) (v0 v1 v2 v3 v4 v5 v6 v7 : Value) : Locks (put8 W B v0 v1 v2 v3 v4 v5 v6 v7) A l := by
  intro j hj
  obtain ⟨b, o, hb, h0, h1, h2⟩ := h j hj
  have hn := hA _ hb
  have hk : (put8 W B v0 v1 v2 v3 v4 v5 v6 v7).heap[b]? = W.heap[b]? := by
    unfold put8
    have hne : b ≠ B := by simp at hn; omega
    rw [Below.heap_setCell _ _ _ _ hne, Below.heap_setCell _ _ _ _ hne, Below.heap_setCell _ _ _ _ hne, Below.heap_setCell _ _ _ _ hne, Below.heap_setCell _ _ _ _ hne, Below.heap_setCell _ _ _ _ hne, Below.heap_setCell _ _ _ _ hne, Below.heap_setCell _ _ _ _ hne]
  exact ⟨b, o, hb, (World.cell?_of_block (a := ⟨b, _, none⟩) hk).trans h0, (World.cell?_of_block (a := ⟨b, _, none⟩) hk).trans h1, (World.cell?_of_block (a := ⟨b, _, none⟩) hk).trans h2⟩

end Go.Proofs.YtpbmclaglkcmoaaDoor
