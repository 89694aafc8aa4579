import Derived.Test.YtpbmclaglkcmoaaDoorFoot
import Derived.Lib.ConvBytes
import Derived.Laws.BitsLemmas
namespace Go.Proofs.YtpbmclaglkcmoaaDoor
open Go.RowKit
set_option linter.unusedVariables false

/-- Bytes in a block, none frozen. -/
def BArr (b : Nat) (l : List UInt8) (w : World) : Prop :=
  b < w.heap.size ∧ ∀ j (h : j < l.length), w.cell? ⟨b, j, none⟩ = some (.int .u8 (l[j].toNat : Int)) ∧ w.frozen? ⟨b, j, none⟩ = false

theorem BArr.kept {b : Nat} {l : List UInt8} {w w' : World} (h : BArr b l w) (hb : w'.heap[b]? = w.heap[b]?) : BArr b l w' := by
  refine ⟨?_, fun j hj => ?_⟩
  · have h1 := h.1
    rw [Array.getElem?_eq_getElem h1] at hb
    exact lt_of_heap hb
  · obtain ⟨h1, h2⟩ := h.2 j hj
    exact ⟨(World.cell?_of_block (w := w) hb).trans h1, (World.frozen?_of_block (w := w) hb).trans h2⟩

theorem BArr.below {b : Nat} {l : List UInt8} {w w' : World} (h : BArr b l w) (hb : Below w.heap.size w w') : BArr b l w' := h.kept (hb.block b h.1)

theorem BArr.far {b : Nat} {l : List UInt8} {w : World} (h : BArr b l w) {a : Addr} (ha : b ≠ a.block) (v : Value) : BArr b l (w.setCell a v) :=
  h.kept (Below.heap_setCell _ _ _ _ ha)

theorem BArr.set {b : Nat} {l : List UInt8} {w : World} (h : BArr b l w) (i : Nat) (hi : i < l.length) (c : UInt8) : BArr b (l.set i c) (w.setCell ⟨b, i, none⟩ (.int .u8 (c.toNat : Int))) := by
  refine ⟨by simpa [World.setCell] using h.1, fun j hj => ?_⟩
  have hj' : j < l.length := by simpa using hj
  obtain ⟨h1, h2⟩ := h.2 j hj'
  obtain ⟨g1, g2⟩ := h.2 i hi
  rw [List.getElem_set]
  constructor
  · by_cases e : i = j
    · subst e
      rw [if_pos rfl]
      simp only [World.cell?, World.setCell, Array.getElem?_modify] at g1 ⊢
      simp only [if_true]
      cases hx : w.heap[b]? with
      | none => rw [hx] at g1; simp at g1
      | some o =>
        rw [hx] at g1
        cases o <;> simp_all
        rename_i cs t fr
        have hlt := (Array.getElem?_eq_some_iff.1 g1).1
        simp [hlt]
    · rw [if_neg e]
      simp only [World.cell?, World.setCell, Array.getElem?_modify] at h1 ⊢
      simp only [if_true]
      cases hx : w.heap[b]? with
      | none => rw [hx] at h1; simp at h1
      | some o =>
        rw [hx] at h1
        cases o <;> simp_all
  · simp only [World.frozen?, World.setCell, Array.getElem?_modify] at h2 ⊢
    simp only [if_true]
    cases hx : w.heap[b]? with
    | none => simp
    | some o =>
      rw [hx] at h2
      cases o <;> simp_all

theorem BArr.back {P : Program} {b : Nat} {l : List UInt8} {w : World} (h : BArr b l w) (src dst e : TypeId) (cap : Nat) (hs : P.underlying src = some (.slice e)) (he : P.underlying e = some (.int .u8)) (hd : P.underlying dst = some .string) :
    (convert src dst (.slice (some ⟨b, 0, none⟩) l.length cap)).run P w = .ok (.string ⟨l.toArray⟩) w := by
  refine run_convert_bytes_back w src dst e _ cap l hs he hd (fun j hj => ?_)
  rw [Addr.add_lit, Nat.zero_add]
  exact (h.2 j hj).1

/-- []byte(s). -/
theorem conv_bytes {P : Program} (w : World) (src dst e : TypeId) (s : ByteArray) (hs : P.underlying src = some .string) (hd : P.underlying dst = some (.slice e)) (he : P.underlying e = some (.int .u8)) :
    ∃ W cap, (convert src dst (.string s)).run P w = .ok (.slice (some ⟨w.heap.size, 0, none⟩) s.size cap) W ∧ BArr w.heap.size s.data.toList W ∧ Below w.heap.size w W ∧ W.heap.size = w.heap.size + 1 := by
  refine ⟨_, _, Lib.run_convert_string_bytes w src dst e s hs hd he, ⟨by rw [Lib.bytesWorld_size]; omega, fun j hj => ⟨?_, ?_⟩⟩, ⟨rfl, rfl, rfl, by rw [Lib.bytesWorld_size]; omega, fun k hk => Lib.bytesWorld_at_old w e s k hk⟩, Lib.bytesWorld_size w e s⟩
  · have hj' : j < s.size := by simpa using hj
    rw [Lib.bytesWorld_cell w e s j hj']
    simp [List.getD, hj']
  · have hj' : j < s.size := by simpa using hj
    have hc : j < (Lib.bytesCells w e s).size := by simp [Lib.bytesCells]; omega
    simp only [World.frozen?, Lib.bytesWorld_at_new]
    simp
    omega

theorem xor_u8 (a b : Nat) (ha : a < 256) (hb : b < 256) : Go.bits .xor .u8 (a : Int) (b : Int) = ((a ^^^ b : Nat) : Int) := by
  have ha' : a % 2 ^ IntKind.u8.bits = a := Nat.mod_eq_of_lt ha
  have hb' : b % 2 ^ IntKind.u8.bits = b := Nat.mod_eq_of_lt hb
  have hx : a ^^^ b < 256 := Nat.xor_lt_two_pow (n := 8) ha hb
  simp only [bits, BitVec.ofInt_natCast, BitVec.toNat_xor, BitVec.toNat_ofNat, ha', hb']
  exact wraps_u8 _ (Int.natCast_nonneg _) (Int.ofNat_lt.2 hx)

/-- A byte, changed by another one that is not 0. -/
def chg (c : UInt8) (m : Int) : UInt8 := c ^^^ UInt8.ofNat (m % 256).toNat

theorem chg_val (c : UInt8) (m : Int) : Go.bits .xor .u8 (c.toNat : Int) (m % 256) = ((chg c m).toNat : Int) := by
  have hm : (m % 256).toNat < 256 := by omega
  have e : ((m % 256).toNat : Int) = m % 256 := by omega
  have h := xor_u8 c.toNat (m % 256).toNat c.toNat_lt hm
  rw [e] at h
  rw [h, chg, UInt8.toNat_xor, UInt8.toNat_ofNat', Nat.mod_eq_of_lt hm]

theorem chg_ne (c : UInt8) (m : Int) (h : m % 256 ≠ 0) : chg c m ≠ c := by
  intro e
  have e2 : (chg c m) ^^^ c = 0 := by rw [e]; exact UInt8.xor_self
  have e3 : UInt8.ofNat (m % 256).toNat = 0 := by
    rw [chg, UInt8.xor_comm c, UInt8.xor_assoc, UInt8.xor_self, UInt8.xor_zero] at e2
    exact e2
  have e4 := congrArg UInt8.toNat e3
  rw [UInt8.toNat_ofNat'] at e4
  have : (0 : UInt8).toNat = 0 := rfl
  omega

end Go.Proofs.YtpbmclaglkcmoaaDoor
