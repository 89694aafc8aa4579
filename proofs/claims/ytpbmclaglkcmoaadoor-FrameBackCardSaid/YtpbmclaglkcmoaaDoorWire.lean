import Derived.Test.YtpbmclaglkcmoaaDoorReader
import Derived.Laws.OwnMore
import Derived.Test.YtpbmclaglkcmoaaDoorZeros
import Derived.Test.YtpbmclaglkcmoaaDoorShelf
import Derived.Deep.RegionLaw
namespace Go.Proofs.YtpbmclaglkcmoaaDoor
open Go.RowKit
set_option linter.unusedVariables false
set_option linter.unusedSimpArgs false

/-! wire.Writer: Text, Flag, Pad, Int. -/

def wrongR (room : Int) : Int := if room < 0 ∨ 60000 < room then 1 else 0

theorem wrongRoom_calls (room : Int) (w : World) :
    Calls Tryd.prog 66 #[.int .i64 room] w fun r w' => r = .returned (.int .i64 (wrongR room)) ∧ w = w' := by
  by_cases h1 : room < 0
  · go_enter Tryd.func66, Tryd.ntmps66
    go_wp2
    go_ret
    exact ⟨by simp [wrongR, h1], rfl⟩
  by_cases h2 : 60000 < room
  · go_enter Tryd.func66, Tryd.ntmps66
    go_wp2
    go_ret
    exact ⟨by simp [wrongR, h2], rfl⟩
  · go_enter Tryd.func66, Tryd.ntmps66
    go_wp2
    go_ret
    exact ⟨by simp [wrongR, h1, h2], rfl⟩

/-- Text, as what it makes of the bytes and the error. -/
def textW (s : List UInt8 × Int) (t : List UInt8) (room : Int) : List UInt8 × Int :=
  if failErr s.2 (wrongR room) = 0 then (if room < (t.length : Int) then (s.1, 2) else (s.1 ++ leB 2 t.length ++ t, 0)) else (s.1, failErr s.2 (wrongR room))

theorem failErr_zero {a b : Int} (h : failErr a b = 0) : a = 0 ∧ b = 0 := by
  unfold failErr at h
  split at h
  · exact ⟨‹_›, h⟩
  · contradiction

set_option maxHeartbeats 1000000 in
theorem text_calls (F : Nat → Prop) (b : Nat) (s : List UInt8 × Int) (t : ByteArray) (room : Int) (w : World) (h : Wr F b s.1 s.2 w) (hl : s.1.length ≤ 140737488000000) :
    Calls Tryd.prog 25 #[.pointer (some ⟨b, 0, none⟩), .string t, .int .i64 room] w fun r w' => r = .returned (.pointer (some ⟨b, 0, none⟩)) ∧ Wr (fun k => F k ∨ w.heap.size ≤ k) b (textW s t.data.toList room).1 (textW s t.data.toList room).2 w' ∧ KeptF F w w' := by
  obtain ⟨bs, err⟩ := s
  by_cases hf : failErr err (wrongR room) = 0
  · obtain ⟨h1, h2⟩ := failErr_zero hf
    simp only at h1 h2 h hl
    subst h1
    have hr0 : 0 ≤ room ∧ room ≤ 60000 := by
      unfold wrongR at h2
      split at h2
      · cases h2
      · omega
    by_cases hlong : room < (t.size : Int)
    · have hd : textW (bs, 0) t.data.toList room = (bs, 2) := by
        unfold textW
        rw [if_pos hf, toList_length, if_pos hlong]
      have HD := Lib.hid hd
      have H2 := Lib.hid h2
      have HH := Lib.hid h
      clear hd h2 hf h
      go_enter Tryd.func25, Tryd.ntmps25
      go_wp2_with fail
      refine (wrongRoom_calls room _).mono ?_
      rintro e w1 ⟨rfl, rfl⟩
      rw [H2.out]
      go_wp2_with fail
      refine (fails_calls F b bs 0 0 _ HH.out).mono ?_
      rintro e w1 ⟨rfl, h1, k1⟩
      have H1 := Lib.hid h1
      have K1 := Lib.hid k1
      clear h1 k1 HH
      have hz : (failErr 0 0 != 0) = false := rfl
      rw [hz]
      go_wp2_with fail
      refine (fails_calls F b bs 0 2 _ H1.out).mono ?_
      rintro e w2 ⟨rfl, h2, k2⟩
      go_wp2
      go_ret
      rw [HD.out]
      exact ⟨rfl, h2.mono (fun k hk => .inl hk), K1.out.trans (k2.mono (fun k _ hk => .inl hk))⟩
    · have hd : textW (bs, 0) t.data.toList room = (bs ++ leB 2 t.size ++ t.data.toList, 0) := by
        unfold textW
        rw [if_pos hf, toList_length, if_neg hlong]
      have hts : t.size ≤ 60000 := by omega
      have hwr : wrongN (t.size : Int) 2 = 0 := wrong2 _ (by omega) (by omega)
      have HD := Lib.hid hd
      have H2 := Lib.hid h2
      have HH := Lib.hid h
      have HWR := Lib.hid hwr
      clear hd h2 hf h hwr
      go_enter Tryd.func25, Tryd.ntmps25
      go_wp2_with fail
      refine (wrongRoom_calls room _).mono ?_
      rintro e w1 ⟨rfl, rfl⟩
      rw [H2.out]
      go_wp2_with fail
      refine (fails_calls F b bs 0 0 _ HH.out).mono ?_
      rintro e w1 ⟨rfl, h1, k1⟩
      have H1 := Lib.hid h1
      have K1 := Lib.hid k1
      clear h1 k1 HH
      have hz : (failErr 0 0 != 0) = false := rfl
      rw [hz]
      go_wp2_with fail
      refine (num_ok F b bs t.size 2 _ H1.out (by omega) (by omega) HWR.out (by omega)).mono ?_
      rintro e w2 ⟨rfl, h2, k2⟩
      have hll : (bs ++ leB (2 : Int).toNat t.size).length = bs.length + 2 := by rw [List.length_append, leB_length]; rfl
      obtain ⟨h3, cur, hb, ho, hFo⟩ := h2
      have c0 : w2.cell? ⟨b, 0, none⟩ = some cur := by rw [Lib.cell_of_heap hb]; rfl
      have f0 : w2.frozen? ⟨b, 0, none⟩ = false := Lib.frozen_of_heap hb 0
      obtain ⟨i0, hi, hz0, hz1, hz2⟩ := info_parts Tryd.info5w
      have HB := Lib.hid hb
      have HO := Lib.hid ho
      have HFO := Lib.hid hFo
      have H3 := Lib.hid h3
      have K2 := Lib.hid (K1.out.trans (k2.mono (fun k _ hk => .inl hk)))
      have HSZ : Hid (w.heap.size ≤ w1.heap.size) := K1.out.size
      have HLL := Lib.hid hll
      clear hb ho hFo h3 k2 hll
      go_wp2_with (at_builtin; refine wpList_append_own_string2 _ rfl _ _ 24 9 rfl 5 i0 Tryd.underlying24 Tryd.underlying9 hi hz0 hz1 hz2 cur _ _ rfl HO.out t rfl ?c1 ?c2 ?_)
      case c1 => rw [HLL.out]; unfold maxLen; omega
      case c2 => rw [HLL.out]; omega
      intro v' w3 hown' hgrow hwh
      have hbk2 : w3.heap[b]? = some (.cells #[cur, .int .i64 0] 27 (0, 0)) := by
        rw [hgrow.block b (lt_of_heap HB.out) (fun e => Lib.ownBlock_ne HO.out HB.out (by decide) e.symm)]
        exact HB.out
      have d0 : w3.cell? ⟨b, 0, none⟩ = some cur := by rw [Lib.cell_of_heap hbk2]; rfl
      have g0 : w3.frozen? ⟨b, 0, none⟩ = false := Lib.frozen_of_heap hbk2 0
      have HB2 := Lib.hid hbk2
      have HG := Lib.hid hgrow
      have HO2 := Lib.hid hown'
      have HWH := Lib.hid hwh
      obtain ⟨A', c', rfl⟩ := own_slice w3 hown'
      clear hbk2 hgrow hown' hi hz0 hz1 hz2 hwh
      go_wp2
      go_ret
      rw [HD.out]
      refine ⟨rfl, ?_, ?_⟩
      · refine Wr.put (.inl (by rcases H3.out with h | h; exact h; exact absurd h (by have := lt_of_heap HB.out; have := H1.out.lt; omega))) HB2.out ?_ ?_
        · have e := HO2.out
          rw [Lib.strCells_eq, ← Lib.byteCells_append] at e
          simp only [List.length_append, toList_length] at e ⊢
          exact e
        · intro j ej
          rcases HWH.out j ej with hj | hj
          · rcases HFO.out j hj with h | h
            · exact .inl h
            · exact .inr (by have := HSZ.out; omega)
          · exact .inr (by have := K2.out.size; omega)
      · refine KeptF.setCell (K2.out.grown HG.out ?_) ?_ _
        · intro k ek
          rcases HFO.out k ek with h | h
          · exact .inl h
          · exact .inr (by have := HSZ.out; omega)
        · rcases H3.out with h | h
          · exact .inl h
          · exact .inr (by have := HSZ.out; show w.heap.size ≤ b; omega)
  · have hd : textW (bs, err) t.data.toList room = (bs, failErr err (wrongR room)) := by
      unfold textW
      rw [if_neg hf]
    have hz : (failErr err (wrongR room) != 0) = true := bne_iff_ne.2 hf
    have HD := Lib.hid hd
    have HZ := Lib.hid hz
    have HH := Lib.hid h
    clear hd hz hf h
    go_enter Tryd.func25, Tryd.ntmps25
    go_wp2_with fail
    refine (wrongRoom_calls room _).mono ?_
    rintro e w1 ⟨rfl, rfl⟩
    go_wp2_with fail
    refine (fails_calls F b bs err (wrongR room) _ HH.out).mono ?_
    rintro e w1 ⟨rfl, h1, k1⟩
    have H1 := Lib.hid h1
    have K1 := Lib.hid k1
    clear h1 k1
    rw [HZ.out]
    go_wp2
    go_ret
    rw [HD.out]
    exact ⟨rfl, H1.out.mono (fun k hk => .inl hk), K1.out⟩

/-- Flag. -/
def flagW (s : List UInt8 × Int) (v : Bool) : List UInt8 × Int := numW s (if v then 1 else 0) 1

theorem flag_calls (F : Nat → Prop) (b : Nat) (s : List UInt8 × Int) (v : Bool) (w : World) (h : Wr F b s.1 s.2 w) (hl : s.1.length + 8 ≤ 140737488355328) :
    Calls Tryd.prog 27 #[.pointer (some ⟨b, 0, none⟩), .bool v] w fun r w' => r = .returned (.pointer (some ⟨b, 0, none⟩)) ∧ Wr (fun k => F k ∨ w.heap.size ≤ k) b (flagW s v).1 (flagW s v).2 w' ∧ KeptF F w w' := by
  cases v
  all_goals
    have HH := Lib.hid h
    clear h
    go_enter Tryd.func27, Tryd.ntmps27
    go_wp2_with fail
    refine (num_calls F b s _ 1 _ HH.out (by decide) (by decide) hl).mono ?_
    rintro e w1 ⟨rfl, h1, k1⟩
    go_wp2
    go_ret
    exact ⟨rfl, h1, k1⟩

/-- Int. -/
def intW (s : List UInt8 × Int) (v : Int) : List UInt8 × Int := numW s (IntKind.u64.wrap v) 8

theorem u64_bd (v : Int) : 0 ≤ IntKind.u64.wrap v ∧ IntKind.u64.wrap v < 18446744073709551616 := by
  simp only [IntKind.wrap, IntKind.bits, IntKind.signed]
  simp
  omega

theorem int_calls (F : Nat → Prop) (b : Nat) (s : List UInt8 × Int) (v : Int) (w : World) (h : Wr F b s.1 s.2 w) (hl : s.1.length + 8 ≤ 140737488355328) :
    Calls Tryd.prog 24 #[.pointer (some ⟨b, 0, none⟩), .int .i64 v] w fun r w' => r = .returned (.pointer (some ⟨b, 0, none⟩)) ∧ Wr (fun k => F k ∨ w.heap.size ≤ k) b (intW s v).1 (intW s v).2 w' ∧ KeptF F w w' := by
  have HH := Lib.hid h
  clear h
  go_enter Tryd.func24, Tryd.ntmps24
  go_wp2_with fail
  refine (num_calls F b s _ 8 _ HH.out (u64_bd v).1 (u64_bd v).2 hl).mono ?_
  rintro e w1 ⟨rfl, h1, k1⟩
  go_wp2
  go_ret
  exact ⟨rfl, h1, k1⟩


/-- Pad. -/
def padE (s : List UInt8 × Int) (n : Int) : Int := if 60000 < n then 1 else if n < (s.1.length : Int) then 2 else 0
def padW (s : List UInt8 × Int) (n : Int) : List UInt8 × Int :=
  if failErr s.2 (padE s n) = 0 then (s.1 ++ List.replicate (n.toNat - s.1.length) 0, 0) else (s.1, failErr s.2 (padE s n))

theorem pad_fails (F : Nat → Prop) (b : Nat) (bs : List UInt8) (err n : Int) (w : World) (h : Wr F b bs err w) (hf : failErr err (padE (bs, err) n) ≠ 0) :
    Calls Tryd.prog 29 #[.pointer (some ⟨b, 0, none⟩), .int .i64 n] w fun r w' => r = .returned (.pointer (some ⟨b, 0, none⟩)) ∧ Wr F b bs (failErr err (padE (bs, err) n)) w' ∧ KeptF F w w' := by
  obtain ⟨v, c0, c1, f0, f1⟩ := h.cells
  obtain ⟨A, c, hv⟩ : ∃ A c, v = .slice A bs.length c := by
    obtain ⟨h1, v', hb, ho, hF⟩ := h
    obtain ⟨A, c, e⟩ := own_slice w ho
    refine ⟨A, c, ?_⟩
    rw [Lib.cell_of_heap hb] at c0
    rw [← e]
    exact (Option.some.inj c0).symm
  subst hv
  have hz : (failErr err (padE (bs, err) n) != 0) = true := bne_iff_ne.2 hf
  by_cases h1 : 60000 < n
  · have he : padE (bs, err) n = 1 := by simp [padE, h1]
    rw [he] at hz ⊢
    have HZ := Lib.hid hz
    have HH := Lib.hid h
    clear h hz hf he c1
    go_enter Tryd.func29, Tryd.ntmps29
    go_wp2_with fail
    refine (fails_calls F b bs err 1 _ HH.out).mono ?_
    rintro e w1 ⟨rfl, h1, k1⟩
    rw [HZ.out]
    go_wp2
    go_ret
    exact ⟨rfl, h1, k1⟩
  by_cases h2 : n < (bs.length : Int)
  · have he : padE (bs, err) n = 2 := by simp [padE, h1, h2]
    rw [he] at hz ⊢
    have HZ := Lib.hid hz
    have HH := Lib.hid h
    clear h hz hf he c1
    go_enter Tryd.func29, Tryd.ntmps29
    go_wp2_with fail
    refine (fails_calls F b bs err 2 _ HH.out).mono ?_
    rintro e w1 ⟨rfl, h1, k1⟩
    rw [HZ.out]
    go_wp2
    go_ret
    exact ⟨rfl, h1, k1⟩
  · have he : padE (bs, err) n = 0 := by simp [padE, h1, h2]
    rw [he] at hz ⊢
    have HZ := Lib.hid hz
    have HH := Lib.hid h
    clear h hz hf he c1
    go_enter Tryd.func29, Tryd.ntmps29
    go_wp2_with fail
    refine (fails_calls F b bs err 0 _ HH.out).mono ?_
    rintro e w1 ⟨rfl, h1, k1⟩
    rw [HZ.out]
    go_wp2
    go_ret
    exact ⟨rfl, h1, k1⟩

theorem zeroCells_bytes (k : Nat) : Lib.byteCells (List.replicate k 0) = List.replicate k (.int .u8 0) := by simp [Lib.byteCells]

theorem Wr.grown_head {b n : Nat} {bs : List UInt8} {v : Value} {err : Int} {w w' : World} (hb : w.heap[b]? = some (.cells #[v, .int .i64 err] 27 (0, 0))) (ho : w.drew.ownsRow 0 5 1 v n (Lib.byteCells bs)) (hg : w.drew.grownBy w' v.ownBlock) :
    w'.heap[b]? = some (.cells #[v, .int .i64 err] 27 (0, 0)) := by
  have hb' : w.drew.heap[b]? = some (.cells #[v, .int .i64 err] 27 (0, 0)) := hb
  rw [hg.block b (lt_of_heap hb') (fun e => Lib.ownBlock_ne ho hb' (by decide) e.symm)]
  exact hb'
theorem Wr.head_cell {b : Nat} {v : Value} {err : Int} {w : World} (hb : w.heap[b]? = some (.cells #[v, .int .i64 err] 27 (0, 0))) : w.cell? ⟨b, 0, none⟩ = some v := by rw [Lib.cell_of_heap hb]; rfl
theorem Wr.head_free {b : Nat} {v : Value} {err : Int} {w : World} (hb : w.heap[b]? = some (.cells #[v, .int .i64 err] 27 (0, 0))) : w.frozen? ⟨b, 0, none⟩ = false := Lib.frozen_of_heap hb 0

set_option maxHeartbeats 1000000 in
theorem pad_ok (F : Nat → Prop) (b : Nat) (bs : List UInt8) (n : Int) (w : World) (h : Wr F b bs 0 w) (h1 : n ≤ 60000) (h2 : (bs.length : Int) ≤ n) :
    Calls Tryd.prog 29 #[.pointer (some ⟨b, 0, none⟩), .int .i64 n] w fun r w' => r = .returned (.pointer (some ⟨b, 0, none⟩)) ∧ Wr (fun k => F k ∨ w.heap.size ≤ k) b (bs ++ List.replicate (n.toNat - bs.length) 0) 0 w' ∧ KeptF F w w' := by
  obtain ⟨v, c0, c1, f0, f1⟩ := h.cells
  obtain ⟨A, c, hv⟩ : ∃ A c, v = .slice A bs.length c := by
    obtain ⟨h1, v', hb, ho, hF⟩ := h
    obtain ⟨A, c, e⟩ := own_slice w ho
    refine ⟨A, c, ?_⟩
    rw [Lib.cell_of_heap hb] at c0
    rw [← e]
    exact (Option.some.inj c0).symm
  subst hv
  obtain ⟨k, hk⟩ : ∃ k : Nat, n - (bs.length : Int) = (k : Int) := ⟨(n - bs.length).toNat, by omega⟩
  have hkk : n.toNat - bs.length = k := by omega
  rw [hkk]
  have HK := Lib.hid hk
  have HH := Lib.hid h
  clear h c1 hkk hk
  go_enter Tryd.func29, Tryd.ntmps29
  go_wp2_with fail
  refine (fails_calls F b bs 0 0 _ HH.out).mono ?_
  rintro e w1 ⟨rfl, h1, k1⟩
  have H1 := Lib.hid h1
  have K1 := Lib.hid k1
  clear h1 k1 c0 f0 f1
  have hz : (failErr 0 0 != 0) = false := rfl
  rw [hz]
  obtain ⟨h3, cur, hb, ho, hFo⟩ := H1.out
  have c0 : w1.cell? ⟨b, 0, none⟩ = some cur := by rw [Lib.cell_of_heap hb]; rfl
  have f0 : w1.frozen? ⟨b, 0, none⟩ = false := Lib.frozen_of_heap hb 0
  obtain ⟨A1, c1, rfl⟩ := own_slice w1 ho
  have hk' : n - (bs.length : Int) = (k : Int) := HK.out
  obtain ⟨i0, hi, hz0, hz1, hz2⟩ := info_parts Tryd.info5w
  have HB := Lib.hid hb
  have HO : Hid (w1.drew.ownsRow 0 5 1 (.slice A1 bs.length c1) bs.length (Lib.byteCells bs)) := ho
  have HFO := Lib.hid hFo
  have HFO' := Lib.hid h3
  have hbb : bs.length + k ≤ 140737488355328 := by omega
  have d0 : w1.drew.cell? ⟨b, 0, none⟩ = some (.slice A1 bs.length c1) := c0
  have e0 : w1.drew.frozen? ⟨b, 0, none⟩ = false := f0
  clear hb ho hFo h3
  go_wp2_with fail
  have hwk : IntKind.i64.wrap (k : Int) = (k : Int) := by rw [IntKind.wrap_i64]; omega
  have HWK := Lib.hid hwk
  clear hwk
  go_region_law (refine step_append_own_zeros2 _ (by rfl) _ _ 24 3 9 (by rfl) 5 i0 Tryd.underlying24 Tryd.underlying3 Tryd.underlying9 hi hz0 hz1 hz2 _ bs.length (Lib.byteCells bs) (by rfl) HO.out k (IntKind.i64.wrap (k : Int)) (by rfl) HWK.out hbb ?_; intro v' w2 hown' hgrow hwh; obtain ⟨A2, c2, rfl⟩ := own_slice w2 hown'; have hb2 := Wr.grown_head HB.out HO.out hgrow; have d2 := Wr.head_cell hb2; have e2 := Wr.head_free hb2; clear d0 e0 c0 f0)
  all_goals
    have HB2 := Lib.hid hb2
    have HG := Lib.hid hgrow
    have HO2 := Lib.hid hown'
    have HWH := Lib.hid hwh
    clear hb2 hgrow hown' hwh hi hz0 hz1 hz2
    go_wp2
    go_ret
    refine ⟨rfl, ?_, ?_⟩
    · refine Wr.put (.inl HFO'.out) HB2.out ?_ ?_
      · have e := HO2.out
        rw [← zeroCells_bytes, ← Lib.byteCells_append] at e
        simp only [List.length_append, List.length_replicate] at e ⊢
        exact e
      · intro j ej
        rcases HWH.out j ej with hj | hj
        · exact .inl (HFO.out j hj)
        · exact .inr (by have := K1.out.size; have h2 : w1.heap.size ≤ j := hj; omega)
    · refine KeptF.setCell (K1.out.drew.grown HG.out (fun j ej => .inl (HFO.out j ej))) (.inl HFO'.out) _

end Go.Proofs.YtpbmclaglkcmoaaDoor
