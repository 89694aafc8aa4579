import Derived.Test.YtpbmclaglkcmoaaDoorMsgGet
namespace Go.Proofs.YtpbmclaglkcmoaaDoor
open Go.RowKit
set_option linter.unusedVariables false
set_option linter.unusedSimpArgs false

/-! What is put is got. -/
theorem rs_le (n : Nat) (v : Int) (rest : List UInt8) (h1 : 1 ≤ n) (h8 : n ≤ 8) (h0 : 0 ≤ v) (hv : v < 256 ^ n) : (rsN (leB n v ++ rest, 0) n : Int) = v ∧ rsS (leB n v ++ rest, 0) n = (rest, 0) := by
  unfold rsN rsS
  simp only [rnum_le n v rest h1 h8 h0 hv]
  exact ⟨by omega, trivial⟩
theorem rs1 (v : Int) (rest : List UInt8) (h0 : 0 ≤ v) (hv : v < 256) : (rsN (leB 1 v ++ rest, 0) 1 : Int) = v ∧ rsS (leB 1 v ++ rest, 0) 1 = (rest, 0) := rs_le 1 v rest (by decide) (by decide) h0 hv
theorem rs4 (v : Int) (rest : List UInt8) (h0 : 0 ≤ v) (hv : v < 4294967296) : (rsN (leB 4 v ++ rest, 0) 4 : Int) = v ∧ rsS (leB 4 v ++ rest, 0) 4 = (rest, 0) := rs_le 4 v rest (by decide) (by decide) h0 hv
theorem rs8 (v : Int) (rest : List UInt8) (h0 : 0 ≤ v) (hv : v < 18446744073709551616) : (rsN (leB 8 v ++ rest, 0) 8 : Int) = v ∧ rsS (leB 8 v ++ rest, 0) 8 = (rest, 0) := rs_le 8 v rest (by decide) (by decide) h0 hv
theorem cnt_le (n : Nat) (rest : List UInt8) (h : n ≤ 200) : countR (leB 2 (n : Int) ++ rest) 0 200 = (n, rest, 0) := by
  have := rnum_le 2 (n : Int) rest (by decide) (by decide) (Int.natCast_nonneg _) (by show (n : Int) < 65536; omega)
  unfold countR
  rw [show ((2 : Nat) : Int) = 2 from rfl] at this
  rw [this]
  rw [if_neg (by simp; omega)]
  simp

def lockB (x : LockR) : Prop := 0 ≤ x.f ∧ x.f < x.t ∧ x.t ≤ 4096 ∧ 0 ≤ x.m ∧ x.m ≤ 2
theorem lock_enc (x : LockR) (h : lockB x) (rest : List UInt8) : lockD (encL x ++ rest, 0) = x ∧ lockS (encL x ++ rest, 0) = (rest, 0) := by
  obtain ⟨h1, h2, h3, h4, h5⟩ := h
  obtain ⟨f, t, m⟩ := x
  simp only at h1 h2 h3 h4 h5
  have e : encL ⟨f, t, m⟩ ++ rest = leB 4 f ++ (leB 4 t ++ (leB 1 m ++ rest)) := by simp [encL, List.append_assoc]
  have a := rs4 f (leB 4 t ++ (leB 1 m ++ rest)) (by omega) (by omega)
  have b := rs4 t (leB 1 m ++ rest) (by omega) (by omega)
  have c := rs1 m rest (by omega) (by omega)
  unfold lockD lockS
  rw [e, a.2, b.2, c.2, a.1, b.1, c.1]
  exact ⟨rfl, rfl⟩
theorem locks_enc (L : List LockR) (h : ∀ x ∈ L, lockB x) : ∀ k, k ≤ L.length → lq (L.flatMap encL, 0) k = ((L.drop k).flatMap encL, 0) ∧ locksD (L.flatMap encL, 0) k = L.take k
  | 0, _ => ⟨rfl, rfl⟩
  | k + 1, hk => by
    obtain ⟨i1, i2⟩ := locks_enc L h k (by omega)
    have hd : (L.drop k).flatMap encL = encL L[k] ++ (L.drop (k + 1)).flatMap encL := by
      rw [List.drop_eq_getElem_cons (by omega), List.flatMap_cons]
    have hx := lock_enc L[k] (h _ (List.getElem_mem _)) ((L.drop (k + 1)).flatMap encL)
    rw [lq, locksD, i1, i2, hd, hx.1, hx.2]
    exact ⟨rfl, (List.take_succ_eq_append_getElem (by omega)).symm⟩

theorem msgOk_parts {m : MsgR} (h : msgOk m = true) : 1 ≤ m.kind ∧ m.kind ≤ 15 ∧ m.locks.length ≤ 200 ∧ (numsM m).all numOk = true ∧ m.locks.all lockOk = true := by
  unfold msgOk at h
  simp only [Bool.and_eq_true, decide_eq_true_eq] at h
  exact ⟨h.1.1.1.1, h.1.1.1.2, h.1.1.2, h.1.2, h.2⟩

theorem raw_enc (m : MsgR) (h : msgOk m = true) (he : 0 ≤ m.epoch ∧ m.epoch < 18446744073709551616) : rawD (encM m) = m ∧ endE (encM m) = 0 := by
  obtain ⟨h1, h2, h3, h4, h5⟩ := msgOk_parts h
  have hl : ∀ x ∈ m.locks, lockB x := fun x hx => by
    have := List.all_eq_true.1 h5 x hx
    simp [lockOk] at this
    unfold lockB
    omega
  have hn : ∀ x ∈ numsM m, 0 ≤ x ∧ x ≤ 2147483647 := fun x hx => by
    have := List.all_eq_true.1 h4 x hx
    simpa [numOk] using this
  clear h h4 h5
  obtain ⟨kind, id, node, gen, stamp, epoch, err, locks⟩ := m
  simp only [numsM, List.mem_cons, List.not_mem_nil, or_false, forall_eq_or_imp, forall_eq] at h1 h2 h3 hl hn he
  obtain ⟨⟨i0, i1⟩, ⟨n0, n1⟩, ⟨g0, g1⟩, ⟨t0, t1⟩, ⟨r0, r1⟩⟩ := hn
  obtain ⟨T8, e8⟩ : ∃ t, t = locks.flatMap encL := ⟨_, rfl⟩
  obtain ⟨T7, e7⟩ : ∃ t, t = leB 2 (locks.length : Int) ++ T8 := ⟨_, rfl⟩
  obtain ⟨T6, e6⟩ : ∃ t, t = leB 8 epoch ++ T7 := ⟨_, rfl⟩
  obtain ⟨T5, e5⟩ : ∃ t, t = leB 4 err ++ T6 := ⟨_, rfl⟩
  obtain ⟨T4, e4⟩ : ∃ t, t = leB 4 stamp ++ T5 := ⟨_, rfl⟩
  obtain ⟨T3, e3⟩ : ∃ t, t = leB 4 gen ++ T4 := ⟨_, rfl⟩
  obtain ⟨T2, e2⟩ : ∃ t, t = leB 4 node ++ T3 := ⟨_, rfl⟩
  obtain ⟨T1, e1⟩ : ∃ t, t = leB 4 id ++ T2 := ⟨_, rfl⟩
  have e : encM ⟨kind, id, node, gen, stamp, epoch, err, locks⟩ = leB 1 kind ++ T1 := by
    rw [e1, e2, e3, e4, e5, e6, e7, e8]
    simp [encM, encN, numsM, List.append_assoc]
  generalize encM ⟨kind, id, node, gen, stamp, epoch, err, locks⟩ = X at e
  have a1 := rs1 kind T1 (by omega) (by omega)
  have a2 := rs4 id T2 (by omega) (by omega)
  have a3 := rs4 node T3 (by omega) (by omega)
  have a4 := rs4 gen T4 (by omega) (by omega)
  have a5 := rs4 stamp T5 (by omega) (by omega)
  have a6 := rs4 err T6 (by omega) (by omega)
  have a7 := rs8 epoch T7 he.1 he.2
  have a8 := cnt_le locks.length T8 h3
  have a9 := locks_enc locks hl locks.length (Nat.le_refl _)
  rw [← e] at a1
  rw [← e1] at a2
  rw [← e2] at a3
  rw [← e3] at a4
  rw [← e4] at a5
  rw [← e5] at a6
  rw [← e6] at a7
  rw [← e7] at a8
  rw [← e8] at a9
  have q1 : s1 X = (T1, 0) := a1.2
  have q2 : sq (s1 X) 1 = (T2, 0) := by rw [sq, sq, q1]; exact a2.2
  have k2 : (rsN (s1 X) 4 : Int) = id := by rw [q1]; exact a2.1
  have q3 : sq (s1 X) 2 = (T3, 0) := by rw [sq, q2]; exact a3.2
  have k3 : (rsN (sq (s1 X) 1) 4 : Int) = node := by rw [q2]; exact a3.1
  have q4 : sq (s1 X) 3 = (T4, 0) := by rw [sq, q3]; exact a4.2
  have k4 : (rsN (sq (s1 X) 2) 4 : Int) = gen := by rw [q3]; exact a4.1
  have q5 : s5 X = (T5, 0) := by rw [s5, sq, q4]; exact a5.2
  have k5 : (rsN (sq (s1 X) 3) 4 : Int) = stamp := by rw [q4]; exact a5.1
  have q6 : s6 X = (T6, 0) := by rw [s6, q5]; exact a6.2
  have k6 : (rsN (s5 X) 4 : Int) = err := by rw [q5]; exact a6.1
  have q7 : s7 X = (T7, 0) := by rw [s7, q6]; exact a7.2
  have k7 : (rsN (s6 X) 8 : Int) = epoch := by rw [q6]; exact a7.1
  have q8 : s8 X = (T8, 0) := by rw [s8, q7, a8]
  have k8 : cN X = locks.length := by rw [cN, q7, a8]
  have q9 : s9 X = ([], 0) := by rw [s9, q8, k8, a9.1, List.drop_length]; rfl
  have k9 : locksD (s8 X) (cN X) = locks := by rw [q8, k8, a9.2, List.take_length]
  refine ⟨?_, ?_⟩
  · unfold rawD
    rw [a1.1, k2, k3, k4, k5, k6, k7, k9]
  · unfold endE
    rw [q9]
    rfl

theorem getD_enc (m : MsgR) (h : msgOk m = true) (he : 0 ≤ m.epoch ∧ m.epoch < 18446744073709551616) : getD (encM m) = (m, 0) := by
  obtain ⟨h1, h2⟩ := raw_enc m h he
  rw [getD_ok h2 (by rw [h1]; exact h) (by rw [h1]), h1]

theorem getD_zero (l : List UInt8) (h : (getD l).2 = 0) : msgOk (rawD l) = true ∧ encM (rawD l) = l := by
  by_cases he : endE l = 0
  · by_cases h2 : msgOk (rawD l) = true ∧ encM (rawD l) = l
    · exact h2
    · rw [getD_bad he h2] at h
      exact absurd h (by decide)
  · rw [getD_end he] at h
    exact absurd h he

theorem encM_len (m : MsgR) : (encM m).length = 31 + 9 * m.locks.length := by
  have : (numsM m).length = 5 := rfl
  simp only [encM, List.length_append, leB_length, encN_len, encLs_len, this]
theorem encM_cnt (m : MsgR) : ((encM m).drop 29).take 2 = leB 2 m.locks.length := by
  have h : (leB 1 m.kind ++ encN (numsM m) ++ leB 8 m.epoch).length = 29 := by
    have : (numsM m).length = 5 := rfl
    simp only [List.length_append, leB_length, encN_len, this]
  have e : encM m = (leB 1 m.kind ++ encN (numsM m) ++ leB 8 m.epoch) ++ (leB 2 m.locks.length ++ m.locks.flatMap encL) := by
    simp [encM, List.append_assoc]
  rw [e, List.drop_left' h, List.take_left' (leB_length _ _)]

/-- Bytes that are cut are refused. -/
theorem getD_cut (m : MsgR) (h : msgOk m = true) (c : Nat) (hc : c < (encM m).length) : (getD ((encM m).take c)).2 ≠ 0 := by
  intro h0
  obtain ⟨h1, h2⟩ := getD_zero _ h0
  generalize rawD ((encM m).take c) = m' at h1 h2
  have l1 := encM_len m
  have l2 := encM_len m'
  rw [h2, List.length_take, l1] at l2
  rw [l1] at hc
  have e := encM_cnt m'
  rw [h2, List.drop_take, List.take_take, show min 2 (c - 29) = 2 by omega, encM_cnt] at e
  have b1 := (msgOk_parts h).2.2.1
  have b2 := (msgOk_parts h1).2.2.1
  have v1 := leV_leB 2 (m.locks.length : Int) (by omega) (by show (_ : Int) < 65536; omega)
  have v2 := leV_leB 2 (m'.locks.length : Int) (by omega) (by show (_ : Int) < 65536; omega)
  rw [e] at v1
  omega

end Go.Proofs.YtpbmclaglkcmoaaDoor
