import Derived.Test.YtpbmclaglkcmoaaDoorWriter
import Derived.Test.YtpbmclaglkcmoaaDoorBytes
import Derived.Test.YtpbmclaglkcmoaaDoorLib
namespace Go.Proofs.YtpbmclaglkcmoaaDoor
open Go.RowKit
set_option linter.unusedVariables false

/-- A wire.Reader at block b: what is left, its error. -/
def Rd (b : Nat) (l : List UInt8) (err : Int) (w : World) : Prop :=
  w.heap[b]? = some (.cells #[.string (bstr l), .int .i64 err] 71 (0, 0))

theorem Rd.lt {b : Nat} {l : List UInt8} {err : Int} {w : World} (h : Rd b l err w) : b < w.heap.size := lt_of_heap h
theorem Rd.cells {b : Nat} {l : List UInt8} {err : Int} {w : World} (h : Rd b l err w) : w.cell? ⟨b, 0, none⟩ = some (.string (bstr l)) ∧ w.cell? ⟨b, 1, none⟩ = some (.int .i64 err) ∧ w.frozen? ⟨b, 0, none⟩ = false ∧ w.frozen? ⟨b, 1, none⟩ = false :=
  ⟨by rw [Lib.cell_of_heap h]; rfl, by rw [Lib.cell_of_heap h]; rfl, Lib.frozen_of_heap h 0, Lib.frozen_of_heap h 1⟩
theorem Rd.set0 {b : Nat} {l : List UInt8} {err : Int} {w : World} (h : Rd b l err w) (s : ByteArray) : Rd b s.data.toList err (w.setCell ⟨b, 0, none⟩ (.string s)) := by
  unfold Rd at h ⊢
  simp [World.setCell, Array.getElem?_modify, h]
  rfl
theorem Rd.set1 {b : Nat} {l : List UInt8} {err : Int} {w : World} (h : Rd b l err w) (e : Int) : Rd b l e (w.setCell ⟨b, 1, none⟩ (.int .i64 e)) := by
  unfold Rd at h ⊢
  simp [World.setCell, Array.getElem?_modify, h]
theorem Rd.keep {b : Nat} {l : List UInt8} {err : Int} {w w' : World} {G : Nat → Prop} (h : Rd b l err w) (hk : KeptF G w w') (hn : ¬ G b) : Rd b l err w' := (hk.block b h.lt hn).trans h
theorem Rd.below {b : Nat} {l : List UInt8} {err : Int} {w w' : World} (h : Rd b l err w) (hk : Below w.heap.size w w') : Rd b l err w' := (hk.block b h.lt).trans h

/-- Only block b has changed, beside what is new. -/
abbrev KeptB (b : Nat) (w w' : World) : Prop := KeptF (fun k => k = b) w w'

theorem KeptB.set (b i : Nat) (w : World) (v : Value) : KeptB b w (w.setCell ⟨b, i, none⟩ v) := (KeptF.refl (fun k => k = b) w).setCell (p := ⟨b, i, none⟩) (.inl rfl) v

theorem rerr_calls (b : Nat) (l : List UInt8) (err : Int) (w : World) (h : Rd b l err w) :
    Calls Tryd.prog 20 #[.pointer (some ⟨b, 0, none⟩)] w fun r w' => r = .returned (.int .i64 err) ∧ w = w' := by
  obtain ⟨c0, c1, f0, f1⟩ := h.cells
  clear h
  go_enter Tryd.func20, Tryd.ntmps20
  go_wp2
  go_ret
  exact ⟨rfl, rfl⟩

theorem rfail_calls (b : Nat) (l : List UInt8) (err e : Int) (w : World) (h : Rd b l err w) :
    Calls Tryd.prog 63 #[.pointer (some ⟨b, 0, none⟩), .int .i64 e] w fun r w' => r = .returned (.tuple #[]) ∧ Rd b l (failErr err e) w' ∧ KeptB b w w' := by
  obtain ⟨c0, c1, f0, f1⟩ := h.cells
  by_cases he : err = 0
  · subst he
    have hs := Lib.hid (h.set1 e)
    clear h
    go_enter Tryd.func63, Tryd.ntmps63
    go_wp2
    go_end0
    exact ⟨rfl, hs.out, KeptB.set _ _ _ _⟩
  · have he1 : (err == 0) = false := beq_eq_false_iff_ne.2 he
    have hs := Lib.hid h
    clear h
    go_enter Tryd.func63, Tryd.ntmps63
    go_wp2
    go_end0
    exact ⟨rfl, by simpa [failErr, he] using hs.out, KeptF.refl _ w⟩

/-- take: what it tells, and what is left. -/
def takeR (l : List UInt8) (err : Int) (n : Nat) : List UInt8 × List UInt8 × Int :=
  if err ≠ 0 then ([], l, err) else if l.length < n then ([], l, 5) else (l.take n, l.drop n, 0)

set_option maxHeartbeats 1000000 in
theorem take_calls (b : Nat) (l : List UInt8) (err : Int) (n : Nat) (w : World) (h : Rd b l err w) (hn : n ≤ 70000) :
    Calls Tryd.prog 72 #[.pointer (some ⟨b, 0, none⟩), .int .i64 n] w fun r w' => r = .returned (.string (bstr (takeR l err n).1)) ∧ Rd b (takeR l err n).2.1 (takeR l err n).2.2 w' ∧ KeptB b w w' := by
  by_cases he : err = 0
  · subst he
    by_cases hs : l.length < n
    · have ht : takeR l 0 n = ([], l, 5) := by simp [takeR, hs]
      have HT := Lib.hid ht
      have HH := Lib.hid h
      obtain ⟨c0, c1, f0, f1⟩ := h.cells
      have hsz : (bstr l).size < n := hs
      clear h ht
      go_enter Tryd.func72, Tryd.ntmps72
      go_wp2_with fail
      refine (rerr_calls b l 0 _ HH.out).mono ?_
      rintro e w1 ⟨rfl, rfl⟩
      go_wp2_with fail
      refine (rfail_calls b l 0 5 _ HH.out).mono ?_
      rintro e w1 ⟨rfl, h1, k1⟩
      go_wp2
      go_ret
      rw [HT.out]
      exact ⟨rfl, h1, k1⟩
    · have ht : takeR l 0 n = (l.take n, l.drop n, 0) := by simp [takeR, hs]
      have HT := Lib.hid ht
      have HH := Lib.hid h
      obtain ⟨c0, c1, f0, f1⟩ := h.cells
      have hsz : n ≤ (bstr l).size := by rw [bstr_size]; omega
      have hsz2 : (n : Int) ≤ ((bstr l).size : Int) := by omega
      have H1 := Lib.hid (h.set0 ((bstr l).extract n (bstr l).size))
      clear h ht
      go_enter Tryd.func72, Tryd.ntmps72
      go_wp2_with fail
      refine (rerr_calls b l 0 _ HH.out).mono ?_
      rintro e w1 ⟨rfl, rfl⟩
      go_wp2
      go_ret
      rw [HT.out]
      refine ⟨?_, ?_, KeptB.set _ _ _ _⟩
      · have := bstr_eq _ _ (ext_take (bstr l) n)
        rw [bstr_toList] at this
        exact congrArg (fun x => Ending.returned (Value.string x)) this
      · have := H1.out
        rw [ext_drop, bstr_toList] at this
        exact this
  · have ht : takeR l err n = ([], l, err) := by simp [takeR, he]
    have he2 : (err != 0) = true := bne_iff_ne.2 he
    have HT := Lib.hid ht
    have HH := Lib.hid h
    clear h ht
    go_enter Tryd.func72, Tryd.ntmps72
    go_wp2_with fail
    refine (rerr_calls b l err _ HH.out).mono ?_
    rintro e w1 ⟨rfl, rfl⟩
    go_wp2
    go_ret
    rw [HT.out]
    exact ⟨rfl, HH.out, KeptF.refl _ w⟩

/-- The number that bytes make, the lowest first. -/
def leV : List UInt8 → Nat
  | [] => 0
  | c :: l => c.toNat + 256 * leV l

theorem leV_lt : ∀ (l : List UInt8), leV l < 256 ^ l.length
  | [] => by simp [leV]
  | c :: l => by
    have h1 := leV_lt l
    have h2 := c.toNat_lt
    simp only [leV, List.length_cons, Nat.pow_succ]
    omega

theorem leV_snoc : ∀ (l : List UInt8) (c : UInt8), leV (l ++ [c]) = leV l + c.toNat * 256 ^ l.length
  | [], c => by simp [leV]
  | d :: l, c => by
    simp only [List.cons_append, leV, leV_snoc l c, List.length_cons, Nat.pow_succ]
    generalize 256 ^ l.length = P
    rw [Nat.mul_add, Nat.mul_left_comm, Nat.mul_comm P 256, Nat.add_assoc]

theorem wraps_u64 (n : Int) (h0 : 0 ≤ n) (h1 : n < 2 ^ 64) : IntKind.u64.wrap n = n := by
  simp only [IntKind.wrap, IntKind.bits, IntKind.signed]
  simp
  omega

theorem or_shl (i v c : Nat) (hi : i < 8) (hv : v < 256 ^ i) (hc : c < 256) : Go.bits .or .u64 (v : Int) (IntKind.u64.wrap ((c : Int) * 2 ^ (8 * (i : Int)).toNat)) = ((v + c * 256 ^ i : Nat) : Int) := by
  have e1 : (8 * (i : Int)).toNat = 8 * i := by omega
  have e2 : (256 : Nat) ^ i = 2 ^ (8 * i) := by rw [Nat.pow_mul]
  have hp : (2 : Nat) ^ (8 * i) * 256 ≤ 2 ^ 64 := by
    have : (256 : Nat) = 2 ^ 8 := rfl
    rw [this, ← Nat.pow_add]
    exact Nat.pow_le_pow_right (by decide) (by omega)
  have hcb : c * 2 ^ (8 * i) < 2 ^ 64 := by
    have h1 : c * 2 ^ (8 * i) < 256 * 2 ^ (8 * i) := Nat.mul_lt_mul_of_pos_right hc (Nat.two_pow_pos _)
    have h2 : 256 * 2 ^ (8 * i) = 2 ^ (8 * i) * 256 := Nat.mul_comm _ _
    omega
  rw [e2] at hv
  have hvb : v < 2 ^ 64 := by omega
  have ec : ((c : Int) * 2 ^ (8 * i)) = ((c * 2 ^ (8 * i) : Nat) : Int) := by simp
  rw [e1, ec, wraps_u64 _ (Int.natCast_nonneg _) (by exact_mod_cast hcb), (bits_nat .u64 64 (by decide) wraps_u64 v _ hvb hcb).2, e2]
  congr 1
  rw [Nat.or_comm, Nat.mul_comm c, ← Nat.two_pow_add_eq_or_of_lt hv c, Nat.add_comm]

/-- Num: what it tells, and what is left. -/
def rnumR (l : List UInt8) (err : Int) (n : Int) : Nat × List UInt8 × Int :=
  if n < 1 ∨ 8 < n then (0, l, failErr err 1) else (leV (takeR l err n.toNat).1, (takeR l err n.toNat).2)

theorem takeR_len (l : List UInt8) (err : Int) (n : Nat) : (takeR l err n).1.length ≤ n := by
  unfold takeR
  split
  · simp
  · split
    · simp
    · simp; omega

set_option maxHeartbeats 2000000 in
theorem rnum_calls (b : Nat) (l : List UInt8) (err n : Int) (w : World) (h : Rd b l err w) :
    Calls Tryd.prog 43 #[.pointer (some ⟨b, 0, none⟩), .int .i64 n] w fun r w' => r = .returned (.int .u64 (rnumR l err n).1) ∧ Rd b (rnumR l err n).2.1 (rnumR l err n).2.2 w' ∧ KeptB b w w' := by
  by_cases hn : n < 1 ∨ 8 < n
  · have hw : wrongN 0 n = 1 := by simp [wrongN, hn]
    have ht : rnumR l err n = (0, l, failErr err 1) := by simp [rnumR, hn]
    have HT := Lib.hid ht
    have HW := Lib.hid hw
    have HH := Lib.hid h
    clear h ht hw
    go_enter Tryd.func43, Tryd.ntmps43
    go_wp2_with fail
    refine (wrongNum_calls 0 n _ (by decide) (by decide)).mono ?_
    rintro e w1 ⟨rfl, rfl⟩
    rw [HW.out]
    go_wp2_with fail
    refine (rfail_calls b l err 1 _ HH.out).mono ?_
    rintro e w1 ⟨rfl, h1, k1⟩
    go_wp2
    go_ret
    rw [HT.out]
    exact ⟨rfl, h1, k1⟩
  · have hn1 : 1 ≤ n := by omega
    have hn8 : n ≤ 8 := by omega
    obtain ⟨k, rfl⟩ := Int.eq_ofNat_of_zero_le (show 0 ≤ n by omega)
    have hw : wrongN 0 (k : Int) = 0 := by simp [wrongN, hn]
    have ht : rnumR l err k = (leV (takeR l err k).1, (takeR l err k).2) := by simp [rnumR, hn]
    have htl := takeR_len l err k
    have HT := Lib.hid ht
    have HW := Lib.hid hw
    have HH := Lib.hid h
    have HTK := Lib.hid (fun W hW => take_calls b l err k W hW (by omega))
    generalize takeR l err k = t at HT HTK htl
    obtain ⟨t1, t2⟩ := t
    clear h ht hw hn
    go_enter Tryd.func43, Tryd.ntmps43
    go_wp2_with fail
    refine (wrongNum_calls 0 k _ (by decide) (by decide)).mono ?_
    rintro e w1 ⟨rfl, rfl⟩
    rw [HW.out]
    go_wp2_with fail
    refine (HTK.out _ HH.out).mono ?_
    rintro e w1 ⟨rfl, h1, k1⟩
    obtain ⟨W1, cap1, hc1, ba1, bl1, sz1⟩ := conv_bytes (P := Tryd.prog) w1 9 24 5 (bstr t1) Tryd.underlying9 Tryd.underlying24 Tryd.underlying5
    rw [bstr_toList] at ba1
    have BA1 := Lib.hid ba1
    have R1 := Lib.hid (h1.below bl1)
    have K1 : Hid (KeptB b w W1) := k1.trans ((KeptF.ofBelow bl1).mono (fun k hk h => Or.inl h))
    have htl1 : (bstr t1).size ≤ 8 := by have : t1.length ≤ k := htl; rw [bstr_size]; omega
    have hts : (bstr t1).size = t1.length := rfl
    have HTS := Lib.hid hts
    clear ba1 bl1 sz1 h1 k1 hts
    go_wp2_with fail
    clear hc1
    go_loop [6, 21] (fun s6 s21 => ∃ i : Nat, i ≤ (bstr t1).size ∧ s21 = .int .i64 i ∧ s6 = .int .u64 (leV (t1.take i))) (fun _ s21 => (bstr t1).size - (intOf s21).toNat)
    case atStart => exact ⟨0, Nat.zero_le _, rfl, rfl⟩
    case round =>
      obtain ⟨i, hi, rfl, rfl⟩ := hrel
      by_cases hlt : i < (bstr t1).size
      · have hlt2 : i < t1.length := by rw [← HTS.out]; exact hlt
        obtain ⟨c1, f1⟩ := BA1.out.2 i hlt2
        have hcl : t1[i].toNat < 256 := t1[i].toNat_lt
        have hcl2 : (t1[i].toNat : Int) < 18446744073709551616 := by omega
        have hval := or_shl i (leV (t1.take i)) t1[i].toNat (by omega) (by have := leV_lt (t1.take i); rwa [List.length_take, Nat.min_eq_left (by omega)] at this) hcl
        have hnext : leV (t1.take (i + 1)) = leV (t1.take i) + t1[i].toNat * 256 ^ i := by
          rw [List.take_succ_eq_append_getElem hlt2, leV_snoc, List.length_take, Nat.min_eq_left (by omega)]
        rw [← hnext] at hval
        have HV := Lib.hid hval
        clear hval hnext
        go_wp2_with fail
        go_round
        case rel => exact ⟨i + 1, by omega, by go_num, congrArg (Value.int .u64) HV.out⟩
        case measure => simp [intOf]; omega
      · go_wp2
        go_ret
        rw [HT.out]
        refine ⟨?_, R1.out, K1.out⟩
        have hii : t1.take i = t1 := List.take_of_length_le (by have := HTS.out; omega)
        simp only [hii]
        rfl

theorem leV_leB : ∀ (n : Nat) (v : Int), 0 ≤ v → v < 256 ^ n → (leV (leB n v) : Int) = v
  | 0, v, h0, h1 => by simp [leB, leV]; simp at h1; omega
  | n + 1, v, h0, h1 => by
    have ih := leV_leB n (v / 256) (by omega) (by rw [Int.pow_succ] at h1; omega)
    simp only [leB, leV, UInt8.toNat_ofNat']
    omega

/-- What Num put, Num reads. -/
theorem rnum_le (n : Nat) (v : Int) (rest : List UInt8) (h1 : 1 ≤ n) (h8 : n ≤ 8) (h0 : 0 ≤ v) (hv : v < 256 ^ n) : rnumR (leB n v ++ rest) 0 n = (v.toNat, rest, 0) := by
  have hl := leB_length n v
  unfold rnumR
  rw [if_neg (by omega)]
  unfold takeR
  rw [if_neg (by simp), if_neg (by simp; omega)]
  simp only [Int.toNat_natCast, List.take_left' hl, List.drop_left' hl]
  have := leV_leB n v h0 hv
  congr 1
  omega

/-- A reader at work: Num of what was put. -/
theorem rnum_good (b n : Nat) (v : Int) (rest : List UInt8) (w : World) (h : Rd b (leB n v ++ rest) 0 w) (h1 : 1 ≤ n) (h8 : n ≤ 8) (h0 : 0 ≤ v) (hv : v < 256 ^ n) :
    Calls Tryd.prog 43 #[.pointer (some ⟨b, 0, none⟩), .int .i64 n] w fun r w' => r = .returned (.int .u64 v) ∧ Rd b rest 0 w' ∧ KeptB b w w' := by
  have h2 := rnum_calls b _ 0 n w h
  rw [rnum_le n v rest h1 h8 h0 hv] at h2
  have e : ((v.toNat : Nat) : Int) = v := by omega
  simp only [e] at h2
  exact h2

end Go.Proofs.YtpbmclaglkcmoaaDoor
