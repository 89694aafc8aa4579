import Derived.Test.YtpbmclaglkcmoaaDoorFoot
import Derived.Laws.BitsLemmas
namespace Go.Proofs.YtpbmclaglkcmoaaDoor
open Go.RowKit
set_option linter.unusedVariables false

def crcStep (x : Nat) : Nat := if x % 2 = 1 then (x / 2) ^^^ 3988292384 else x / 2
def crcN : Nat → Nat → Nat
  | 0, x => x
  | k + 1, x => crcN k (crcStep x)
def crcByte (x : Nat) (c : UInt8) : Nat := crcN 8 (x ^^^ c.toNat)
def crcRun (x : Nat) (l : List UInt8) : Nat := l.foldl crcByte x
/-- The check sum of bytes. -/
def crc (l : List UInt8) : Nat := 4294967295 ^^^ crcRun 4294967295 l

theorem wraps_u32 (n : Int) (h0 : 0 ≤ n) (h1 : n < 2 ^ 32) : IntKind.u32.wrap n = n := by rw [IntKind.wrap_u32]; omega

theorem xor_u32 (a b : Nat) (ha : a < 4294967296) (hb : b < 4294967296) : Go.bits .xor .u32 (a : Int) (b : Int) = ((a ^^^ b : Nat) : Int) := by
  have ha' : a % 2 ^ IntKind.u32.bits = a := Nat.mod_eq_of_lt ha
  have hb' : b % 2 ^ IntKind.u32.bits = b := Nat.mod_eq_of_lt hb
  have hx : a ^^^ b < 4294967296 := Nat.xor_lt_two_pow (n := 32) ha hb
  simp only [bits, BitVec.ofInt_natCast, BitVec.toNat_xor, BitVec.toNat_ofNat, ha', hb']
  exact wraps_u32 _ (Int.natCast_nonneg _) (Int.ofNat_lt.2 hx)

theorem and_one_u32 (a : Nat) (ha : a < 4294967296) : Go.bits .and .u32 (a : Int) 1 = ((a % 2 : Nat) : Int) := by
  have h := (bits_nat .u32 32 (by decide) wraps_u32 a 1 ha (by decide)).1
  rw [Nat.and_one_is_mod] at h
  exact h

theorem xor_lt (a b : Nat) (ha : a < 4294967296) (hb : b < 4294967296) : a ^^^ b < 4294967296 := Nat.xor_lt_two_pow (n := 32) ha hb

theorem crcStep_lt (x : Nat) (h : x < 4294967296) : crcStep x < 4294967296 := by
  unfold crcStep
  split
  · exact xor_lt _ _ (by omega) (by decide)
  · omega

theorem crcN_lt : ∀ (k x : Nat), x < 4294967296 → crcN k x < 4294967296
  | 0, _, h => h
  | k + 1, x, h => crcN_lt k _ (crcStep_lt x h)

theorem crcByte_lt (x : Nat) (c : UInt8) (h : x < 4294967296) : crcByte x c < 4294967296 :=
  crcN_lt 8 _ (xor_lt _ _ h (by have := c.toNat_lt; omega))

theorem crcRun_lt : ∀ (l : List UInt8) (x : Nat), x < 4294967296 → crcRun x l < 4294967296
  | [], _, h => h
  | c :: l, x, h => crcRun_lt l _ (crcByte_lt x c h)

theorem crcRun_append (x : Nat) (a b : List UInt8) : crcRun x (a ++ b) = crcRun (crcRun x a) b := List.foldl_append

theorem crc_lt (l : List UInt8) : crc l < 4294967296 := xor_lt _ _ (by decide) (crcRun_lt l _ (by decide))

end Go.Proofs.YtpbmclaglkcmoaaDoor
