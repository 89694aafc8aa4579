import Derived.Test.YtpbmclaglkcmoaaDoorWireR
namespace Go.Proofs.YtpbmclaglkcmoaaDoor
open Go.RowKit
set_option linter.unusedVariables false
set_option linter.unusedSimpArgs false

/-! wire.Digits. -/
def dch (n : Nat) : UInt8 := UInt8.ofNat (48 + n)
def digs (n : Nat) : List UInt8 := if n < 10 then [dch n] else digs (n / 10) ++ [dch (n % 10)]
termination_by n
decreasing_by omega

theorem digs_lt {n : Nat} (h : n < 10) : digs n = [dch n] := by rw [digs, if_pos h]
theorem digs_ge {n : Nat} (h : 10 ≤ n) : digs n = digs (n / 10) ++ [dch (n % 10)] := by rw [digs, if_neg (by omega)]

def digitsL (v : Int) : List UInt8 := if v < 0 then 45 :: digs v.natAbs else digs v.natAbs

theorem pow_step {n i : Nat} (h : n < 10 ^ (i - 1)) (hi : 2 ≤ i) (hn : 1 ≤ n / 10) : 3 ≤ i ∧ n / 10 < 10 ^ (i - 1 - 1) := by
  obtain ⟨j, rfl⟩ : ∃ j, i = j + 2 := ⟨i - 2, by omega⟩
  have e1 : j + 2 - 1 = j + 1 := by omega
  have e2 : j + 2 - 1 - 1 = j := by omega
  rw [e1, Nat.pow_succ] at h
  rw [e2]
  refine ⟨?_, by omega⟩
  cases j with
  | zero => simp at h; omega
  | succ j => omega

theorem drop_set_self : ∀ (l : List UInt8) (i : Nat) (c : UInt8), i < l.length → (l.set i c).drop i = c :: l.drop (i + 1)
  | [], i, c, h => by simp at h
  | d :: l, 0, c, h => by simp
  | d :: l, i + 1, c, h => by
    simp only [List.set_cons_succ, List.drop_succ_cons]
    exact drop_set_self l i c (by simpa using h)


def zeros21 (w : World) : World := w.alloc (.cells #[.int .u8 0, .int .u8 0, .int .u8 0, .int .u8 0, .int .u8 0, .int .u8 0, .int .u8 0, .int .u8 0, .int .u8 0, .int .u8 0, .int .u8 0, .int .u8 0, .int .u8 0, .int .u8 0, .int .u8 0, .int .u8 0, .int .u8 0, .int .u8 0, .int .u8 0, .int .u8 0, .int .u8 0] 108)

theorem zeros21_arr (w : World) : BArr w.heap.size (List.replicate 21 0) (zeros21 w) := by
  have h : (zeros21 w).heap[w.heap.size]? = some (.cells #[.int .u8 0, .int .u8 0, .int .u8 0, .int .u8 0, .int .u8 0, .int .u8 0, .int .u8 0, .int .u8 0, .int .u8 0, .int .u8 0, .int .u8 0, .int .u8 0, .int .u8 0, .int .u8 0, .int .u8 0, .int .u8 0, .int .u8 0, .int .u8 0, .int .u8 0, .int .u8 0, .int .u8 0] 108 (0, 0)) := heap_alloc_new w _
  refine ⟨lt_of_heap h, fun j hj => ⟨?_, Lib.frozen_of_heap h j⟩⟩
  rw [Lib.cell_of_heap h]
  have hj' : j < 21 := hj
  have e : (#[Value.int .u8 0, .int .u8 0, .int .u8 0, .int .u8 0, .int .u8 0, .int .u8 0, .int .u8 0, .int .u8 0, .int .u8 0, .int .u8 0, .int .u8 0, .int .u8 0, .int .u8 0, .int .u8 0, .int .u8 0, .int .u8 0, .int .u8 0, .int .u8 0, .int .u8 0, .int .u8 0, .int .u8 0] : Array Value)[j]? = some (.int .u8 0) := by
    rw [show (#[Value.int .u8 0, .int .u8 0, .int .u8 0, .int .u8 0, .int .u8 0, .int .u8 0, .int .u8 0, .int .u8 0, .int .u8 0, .int .u8 0, .int .u8 0, .int .u8 0, .int .u8 0, .int .u8 0, .int .u8 0, .int .u8 0, .int .u8 0, .int .u8 0, .int .u8 0, .int .u8 0, .int .u8 0] : Array Value) = Array.replicate 21 (Value.int .u8 0) from rfl]
    simp [hj']
  rw [List.getElem_replicate]
  exact e

/-- string(b[i:]) of bytes in a block. -/
theorem BArr.back_from {P : Program} {b : Nat} {l : List UInt8} {w : World} (h : BArr b l w) (i : Nat) (hi : i ≤ l.length) (src dst e : TypeId) (n cap : Nat) (hn : n = l.length - i) (hs : P.underlying src = some (.slice e)) (he : P.underlying e = some (.int .u8)) (hd : P.underlying dst = some .string) :
    (convert src dst (.slice (some ⟨b, i, none⟩) n cap)).run P w = .ok (.string (bstr (l.drop i))) w := by
  have hn' : n = (l.drop i).length := by rw [List.length_drop]; exact hn
  subst hn'
  refine run_convert_bytes_back w src dst e _ cap (l.drop i) hs he hd (fun j hj => ?_)
  rw [Addr.add_lit]
  rw [List.length_drop] at hj
  have := (h.2 (i + j) (by omega)).1
  rw [this, List.getElem_drop]

theorem slice21 (W : World) (g k : Nat) (hk : k < 21) :
    (Instr.sliceAt 108 (.pointer (some ⟨g, 0, none⟩)) (some (.int .i64 (k : Int))) none none).run Tryd.prog W = .ok (.slice (some ⟨g, k, none⟩) (21 - k) (21 - k)) W := by
  have hl : Tryd.prog.arrayLen 108 = 21 := by kernel_rfl
  have he : Tryd.prog.elem 108 = 5 := by kernel_rfl
  have h := run_sliceAt_array_l (P := Tryd.prog) W 108 ⟨g, 0, none⟩ (by kernel_rfl) .i64 (k : Int) (by omega) (by rw [hl]; omega)
  rw [h, hl, he]
  have hs : (sizeOf 5).run Tryd.prog W = .ok 1 W := by kernel_rfl
  rw [hs]
  show Result.ok (slicedAt ⟨g, 0, none⟩ (k : Int).toNat 21 21 1) W = _
  unfold slicedAt
  rw [Int.toNat_natCast, if_neg (by omega), Addr.add_lit]
  simp

theorem digit_cell (n : Nat) : Value.int .u8 (48 + (n : Int) % 10) = Value.int .u8 ((dch (n % 10)).toNat : Int) := by
  congr 1
  unfold dch
  rw [UInt8.toNat_ofNat']
  omega

set_option maxHeartbeats 2000000 in
set_option maxRecDepth 100000 in
theorem digits_pos (m : Nat) (v : Int) (w : World) (hv : v = (m : Int)) (hm : m < 9223372036854775808) :
    Calls Tryd.prog 41 #[.int .i64 v] w fun r w' => r = .returned (.string (bstr (digs m))) ∧ Below w.heap.size w w' := by
  have hv0 : ¬ v < 0 := by omega
  have hwv : IntKind.u64.wrap v = v := wraps_u64 v (by omega) (by omega)
  have hB0 : Hid (Below w.heap.size w (zeros21 w)) := al (Below.refl _ w) _
  have hA0 := Lib.hid (zeros21_arr w)
  have HV := Lib.hid hv
  have HWV := Lib.hid hwv
  clear hv hwv
  go_enter Tryd.func41, Tryd.ntmps41
  go_wp2
  go_loopw [3, 5] (fun s3 s5 wr => ∃ (n i : Nat) (l : List UInt8), s3 = .int .u64 n ∧ s5 = .int .i64 i ∧ 2 ≤ i ∧ i ≤ 21 ∧ n < 18446744073709551616 ∧ Hid (n < 10 ^ (i - 1)) ∧ Hid (digs m = digs n ++ l.drop i) ∧ Hid (l.length = 21) ∧ Hid (BArr w.heap.size l wr) ∧ Hid (Below w.heap.size w wr)) (fun _ s5 _ => (intOf s5).toNat)
  case atStart => exact ⟨m, 21, List.replicate 21 0, by rw [HWV.out, HV.out], rfl, by omega, by omega, by omega, (by show m < 10 ^ 20; omega), (by show digs m = digs m ++ List.drop 21 (List.replicate 21 0); simp), List.length_replicate, hA0.out, hB0.out⟩
  case round =>
    obtain ⟨n, i, l, rfl, rfl, hi2, hi21, hn, HP, HD, HL, HA, HB⟩ := hrel
    obtain ⟨k, rfl⟩ : ∃ k, i = k + 1 := ⟨i - 1, by omega⟩
    have hA := (HA.out.2 k (by have := HL.out; omega))
    have hki : ((k + 1 : Nat) : Int) - 1 = (k : Int) := by omega
    obtain ⟨c0, f0⟩ := hA
    have hk21 : (k : Int) < 21 := by omega
    have hk0 : (0 : Int) ≤ (k : Int) := by omega
    have hsl := fun W => slice21 W w.heap.size k (by omega)
    have hset := HA.out.set k (by have := HL.out; omega) (dch (n % 10))
    rw [← digit_cell] at hset
    have hback := hset.back_from (P := Tryd.prog) k (by rw [List.length_set]; have := HL.out; omega) 24 9 5 (21 - k) (21 - k) (by rw [List.length_set, HL.out]) Tryd.underlying24 Tryd.underlying5 Tryd.underlying9
    rw [drop_set_self l k _ (by have := HL.out; omega)] at hback
    have HSET := Lib.hid hset
    have HBS := Lib.hid (show Below w.heap.size w (wr.setCell ⟨w.heap.size, k, none⟩ (.int .u8 (48 + (n : Int) % 10))) from HB.out.setCell (Nat.le_refl _) _)
    have HDS : Hid (List.drop k (l.set k (dch (n % 10))) = dch (n % 10) :: l.drop (k + 1)) := drop_set_self l k _ (by have := HL.out; omega)
    clear hset
    by_cases h10 : n / 10 = 0
    · have hq : ((n : Int) / 10 == 0) = true := by rw [beq_iff_eq]; omega
      have HF : Hid (digs m = dch (n % 10) :: l.drop (k + 1)) := by
        show _ = _
        rw [HD.out, digs_lt (by omega), show n % 10 = n by omega]
        rfl
      clear h10
      go_wp2
      go_ret
      exact ⟨congrArg (fun x => Ending.returned (Value.string (bstr x))) HF.out.symm, HBS.out⟩
    · have hq : ((n : Int) / 10 == 0) = false := by rw [beq_eq_false_iff_ne]; omega
      have hp := pow_step HP.out hi2 (by omega)
      have HP2 := Lib.hid hp.2
      have hk2 : 2 ≤ k := by have := hp.1; omega
      have HF : Hid (digs m = digs (n / 10) ++ (dch (n % 10) :: l.drop (k + 1))) := by
        show _ = _
        rw [HD.out, digs_ge (by omega), List.append_assoc]
        rfl
      clear h10 hp
      go_wp2
      go_roundw
      case rel =>
        refine ⟨n / 10, k, l.set k (dch (n % 10)), by go_num, rfl, hk2, by omega, by omega, HP2.out, ?_, ?_, HSET.out, HBS.out⟩
        · show _ = _
          rw [HDS.out]
          exact HF.out
        · show _ = _
          rw [List.length_set]
          exact HL.out
      case measure => simp [intOf]

set_option maxHeartbeats 2000000 in
set_option maxRecDepth 100000 in
theorem digits_neg (m : Nat) (v : Int) (w : World) (hv : v = -(m : Int)) (hm : m ≤ 9223372036854775808) (hm0 : 0 < m) :
    Calls Tryd.prog 41 #[.int .i64 v] w fun r w' => r = .returned (.string (bstr (45 :: digs m))) ∧ Below w.heap.size w w' := by
  have hv0 : v < 0 := by omega
  have hwv : IntKind.u64.wrap (-(IntKind.u64.wrap v)) = (m : Int) := by
    simp only [IntKind.wrap, IntKind.bits, IntKind.signed]
    simp
    omega
  have hB0 : Hid (Below w.heap.size w (zeros21 w)) := al (Below.refl _ w) _
  have hA0 := Lib.hid (zeros21_arr w)
  have HV := Lib.hid hv
  have HWV := Lib.hid hwv
  clear hv hwv
  go_enter Tryd.func41, Tryd.ntmps41
  go_wp2
  go_loopw [3, 5] (fun s3 s5 wr => ∃ (n i : Nat) (l : List UInt8), s3 = .int .u64 n ∧ s5 = .int .i64 i ∧ 2 ≤ i ∧ i ≤ 21 ∧ n < 18446744073709551616 ∧ Hid (n < 10 ^ (i - 1)) ∧ Hid (digs m = digs n ++ l.drop i) ∧ Hid (l.length = 21) ∧ Hid (BArr w.heap.size l wr) ∧ Hid (Below w.heap.size w wr)) (fun _ s5 _ => (intOf s5).toNat)
  case atStart => exact ⟨m, 21, List.replicate 21 0, by rw [HWV.out], rfl, by omega, by omega, by omega, (by show m < 10 ^ 20; omega), (by show digs m = digs m ++ List.drop 21 (List.replicate 21 0); simp), List.length_replicate, hA0.out, hB0.out⟩
  case round =>
    obtain ⟨n, i, l, rfl, rfl, hi2, hi21, hn, HP, HD, HL, HA, HB⟩ := hrel
    obtain ⟨k, rfl⟩ : ∃ k, i = k + 1 := ⟨i - 1, by omega⟩
    have hA := (HA.out.2 k (by have := HL.out; omega))
    have hki : ((k + 1 : Nat) : Int) - 1 = (k : Int) := by omega
    obtain ⟨c0, f0⟩ := hA
    have hk21 : (k : Int) < 21 := by omega
    have hk0 : (0 : Int) ≤ (k : Int) := by omega
    have hsl := fun W => slice21 W w.heap.size k (by omega)
    have hset := HA.out.set k (by have := HL.out; omega) (dch (n % 10))
    rw [← digit_cell] at hset
    have hback := hset.back_from (P := Tryd.prog) k (by rw [List.length_set]; have := HL.out; omega) 24 9 5 (21 - k) (21 - k) (by rw [List.length_set, HL.out]) Tryd.underlying24 Tryd.underlying5 Tryd.underlying9
    rw [drop_set_self l k _ (by have := HL.out; omega)] at hback
    have HSET := Lib.hid hset
    have HBS := Lib.hid (show Below w.heap.size w (wr.setCell ⟨w.heap.size, k, none⟩ (.int .u8 (48 + (n : Int) % 10))) from HB.out.setCell (Nat.le_refl _) _)
    have HDS : Hid (List.drop k (l.set k (dch (n % 10))) = dch (n % 10) :: l.drop (k + 1)) := drop_set_self l k _ (by have := HL.out; omega)
    clear hset
    by_cases h10 : n / 10 = 0
    · have hq : ((n : Int) / 10 == 0) = true := by rw [beq_iff_eq]; omega
      have HF : Hid (digs m = dch (n % 10) :: l.drop (k + 1)) := by
        show _ = _
        rw [HD.out, digs_lt (by omega), show n % 10 = n by omega]
        rfl
      clear h10
      obtain ⟨k', rfl⟩ : ∃ k', k = k' + 1 := ⟨k - 1, by omega⟩
      have hsl' := fun W => slice21 W w.heap.size k' (by omega)
      have hl2 : (l.set (k' + 1) (dch (n % 10))).length = 21 := by rw [List.length_set]; exact HL.out
      have hset2 := HSET.out.set k' (by omega) 45
      have h45 : Value.int .u8 (((45 : UInt8).toNat : Nat) : Int) = Value.int .u8 45 := rfl
      rw [h45] at hset2
      have hback2 := hset2.back_from (P := Tryd.prog) k' (by rw [List.length_set]; omega) 24 9 5 (21 - k') (21 - k') (by rw [List.length_set, hl2]) Tryd.underlying24 Tryd.underlying5 Tryd.underlying9
      rw [drop_set_self _ k' _ (by omega), drop_set_self l (k' + 1) _ (by have := HL.out; omega)] at hback2
      have hBS2 := Lib.hid (show Below w.heap.size w ((wr.setCell ⟨w.heap.size, k' + 1, none⟩ (.int .u8 (48 + (n : Int) % 10))).setCell ⟨w.heap.size, k', none⟩ (.int .u8 45)) from HBS.out.setCell (Nat.le_refl _) _)
      obtain ⟨z0, e0⟩ : ∃ z, (wr.setCell ⟨w.heap.size, k' + 1, none⟩ (.int .u8 (48 + (n : Int) % 10))).cell? ⟨w.heap.size, k', none⟩ = some z := ⟨_, (HSET.out.2 k' (by omega)).1⟩
      have e1 := (HSET.out.2 k' (by omega)).2
      have hki' : ((k' + 1 : Nat) : Int) - 1 = (k' : Int) := by omega
      have hk'21 : (k' : Int) < 21 := by omega
      have hk'0 : (0 : Int) ≤ (k' : Int) := by omega
      clear hset2 h45 hl2 hback hsl
      go_wp2
      go_ret
      exact ⟨congrArg (fun x => Ending.returned (Value.string (bstr (45 :: x)))) HF.out.symm, hBS2.out⟩
    · have hq : ((n : Int) / 10 == 0) = false := by rw [beq_eq_false_iff_ne]; omega
      have hp := pow_step HP.out hi2 (by omega)
      have HP2 := Lib.hid hp.2
      have hk2 : 2 ≤ k := by have := hp.1; omega
      have HF : Hid (digs m = digs (n / 10) ++ (dch (n % 10) :: l.drop (k + 1))) := by
        show _ = _
        rw [HD.out, digs_ge (by omega), List.append_assoc]
        rfl
      clear h10 hp
      go_wp2
      go_roundw
      case rel =>
        refine ⟨n / 10, k, l.set k (dch (n % 10)), by go_num, rfl, hk2, by omega, by omega, HP2.out, ?_, ?_, HSET.out, HBS.out⟩
        · show _ = _
          rw [HDS.out]
          exact HF.out
        · show _ = _
          rw [List.length_set]
          exact HL.out
      case measure => simp [intOf]

theorem digits_calls (v : Int) (w : World) (h0 : -9223372036854775808 ≤ v) (h1 : v ≤ 9223372036854775807) :
    Calls Tryd.prog 41 #[.int .i64 v] w fun r w' => r = .returned (.string (bstr (digitsL v))) ∧ Below w.heap.size w w' := by
  unfold digitsL
  by_cases h : v < 0
  · rw [if_pos h]
    exact digits_neg v.natAbs v w (by omega) (by omega) (by omega)
  · rw [if_neg h]
    exact digits_pos v.natAbs v w (by omega) (by omega)

end Go.Proofs.YtpbmclaglkcmoaaDoor
