import Derived.Test.YtpbmclaglkcmoaaDoorSum
import Derived.Test.YtpbmclaglkcmoaaDoorBytes
namespace Go.Proofs.YtpbmclaglkcmoaaDoor
open Go.RowKit
set_option linter.unusedVariables false

theorem xorL {a b c : Nat} (h : a ^^^ b = a ^^^ c) : b = c := by
  have := congrArg (fun n => a ^^^ n) h
  simpa [← Nat.xor_assoc] using this
theorem xorR {a b c : Nat} (h : b ^^^ a = c ^^^ a) : b = c := by
  rw [Nat.xor_comm b, Nat.xor_comm c] at h
  exact xorL h

theorem poly_bit : (3988292384 : Nat).testBit 31 = true := by decide

theorem half_bit (x : Nat) (h : x < 4294967296) : (x / 2).testBit 31 = false := Nat.testBit_lt_two_pow (by omega)

theorem crcStep_inj (x y : Nat) (hx : x < 4294967296) (hy : y < 4294967296) (h : crcStep x = crcStep y) : x = y := by
  unfold crcStep at h
  have b1 := half_bit x hx
  have b2 := half_bit y hy
  by_cases h1 : x % 2 = 1 <;> by_cases h2 : y % 2 = 1
  · rw [if_pos h1, if_pos h2] at h
    have := xorR h
    omega
  · rw [if_pos h1, if_neg h2] at h
    have := congrArg (fun n => Nat.testBit n 31) h
    simp only [Nat.testBit_xor, b1, b2, poly_bit] at this
    simp at this
  · rw [if_neg h1, if_pos h2] at h
    have := congrArg (fun n => Nat.testBit n 31) h
    simp only [Nat.testBit_xor, b1, b2, poly_bit] at this
    simp at this
  · rw [if_neg h1, if_neg h2] at h
    omega

theorem crcN_inj : ∀ (k x y : Nat), x < 4294967296 → y < 4294967296 → crcN k x = crcN k y → x = y
  | 0, _, _, _, _, h => h
  | k + 1, x, y, hx, hy, h => crcStep_inj x y hx hy (crcN_inj k _ _ (crcStep_lt x hx) (crcStep_lt y hy) h)

theorem crcByte_inj (x y : Nat) (c : UInt8) (hx : x < 4294967296) (hy : y < 4294967296) (h : crcByte x c = crcByte y c) : x = y := by
  have hc := c.toNat_lt
  exact xorR (crcN_inj 8 _ _ (xor_lt _ _ hx (by omega)) (xor_lt _ _ hy (by omega)) h)

theorem crcByte_ne (x : Nat) (c d : UInt8) (hx : x < 4294967296) (h : crcByte x c = crcByte x d) : c = d := by
  have hc := c.toNat_lt
  have hd := d.toNat_lt
  exact UInt8.toNat_inj.1 (xorL (crcN_inj 8 _ _ (xor_lt _ _ hx (by omega)) (xor_lt _ _ hx (by omega)) h))

theorem crcRun_inj : ∀ (l : List UInt8) (x y : Nat), x < 4294967296 → y < 4294967296 → crcRun x l = crcRun y l → x = y
  | [], _, _, _, _, h => h
  | c :: l, x, y, hx, hy, h => crcByte_inj x y c hx hy (crcRun_inj l _ _ (crcByte_lt x c hx) (crcByte_lt y c hy) h)

/-- One byte changed: another sum. -/
theorem crc_set_ne (l : List UInt8) (i : Nat) (hi : i < l.length) (c : UInt8) (hc : c ≠ l[i]) : crc (l.set i c) ≠ crc l := by
  intro h
  have h1 : crcRun 4294967295 (l.set i c) = crcRun 4294967295 l := xorL h
  have e1 : l.set i c = l.take i ++ c :: l.drop (i + 1) := by rw [List.set_eq_take_append_cons_drop, if_pos hi]
  have e2 : l = l.take i ++ l[i] :: l.drop (i + 1) := by simp
  have e3 : crcRun 4294967295 l = crcRun (crcRun 4294967295 (l.take i)) (l[i] :: l.drop (i + 1)) := by
    rw [← crcRun_append, ← e2]
  rw [e1, crcRun_append, e3] at h1
  have hx := crcRun_lt (l.take i) 4294967295 (by decide)
  exact hc (crcByte_ne _ _ _ hx (crcRun_inj _ _ _ (crcByte_lt _ _ hx) (crcByte_lt _ _ hx) h1))

theorem leB4_inj (x y : Nat) (hx : x < 4294967296) (hy : y < 4294967296) (h : leB 4 (x : Int) = leB 4 (y : Int)) : x = y := by
  simp only [leB, List.cons.injEq, and_true] at h
  obtain ⟨h1, h2, h3, h4⟩ := h
  replace h1 := congrArg UInt8.toNat h1
  replace h2 := congrArg UInt8.toNat h2
  replace h3 := congrArg UInt8.toNat h3
  replace h4 := congrArg UInt8.toNat h4
  rw [UInt8.toNat_ofNat', UInt8.toNat_ofNat'] at h1 h2 h3 h4
  omega

theorem seal4_set_ne (l : List UInt8) (i : Nat) (hi : i < l.length) (c : UInt8) (hc : c ≠ l[i]) : seal4 (l.set i c) ≠ seal4 l :=
  fun h => crc_set_ne l i hi c hc (leB4_inj _ _ (crc_lt _) (crc_lt _) h)

/-- A sealed text, one byte changed. -/
theorem openB_set (l : List UInt8) (i : Nat) (hi : i < (seal4 l ++ l).length) (c : UInt8) (hc : c ≠ (seal4 l ++ l)[i]) : openB ((seal4 l ++ l).set i c) = ([], 6) := by
  have h4 := seal4_length l
  unfold openB
  rw [if_neg (by simp; omega)]
  rw [if_neg]
  intro h
  by_cases hlt : i < 4
  · rw [List.drop_set_of_lt hlt, List.drop_left' h4, List.take_set, List.take_left' h4] at h
    rw [List.getElem_append_left (by omega)] at hc
    have := congrArg (fun q => q[i]?) h
    simp only [List.getElem?_set] at this
    rw [if_pos trivial, if_pos (by omega), List.getElem?_eq_getElem (by omega)] at this
    exact hc (Option.some.inj this)
  · have hi2 : i - 4 < l.length := by simp at hi; omega
    rw [List.getElem_append_right (by omega)] at hc
    rw [List.take_set_of_le (by omega), List.take_left' h4, List.drop_set, if_neg hlt, List.drop_left' h4] at h
    simp only [h4] at hc
    exact seal4_set_ne l (i - 4) hi2 c hc h.symm

end Go.Proofs.YtpbmclaglkcmoaaDoor
