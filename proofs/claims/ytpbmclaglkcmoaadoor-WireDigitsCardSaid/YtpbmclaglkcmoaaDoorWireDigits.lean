import Derived.Test.YtpbmclaglkcmoaaDoorNumberR
namespace Go.Proofs.YtpbmclaglkcmoaaDoor
open Go.RowKit
set_option linter.unusedVariables false
set_option linter.unusedSimpArgs false

theorem refNumber_calls (s : ByteArray) (w : World) (hs : s.size ≤ 9223372036854775807) :
    Calls Tryd.prog 40 #[.string s] w fun r w' => r = .returned (.tuple #[.int .i64 (numD (cutN s.data.toList).1 (cutN s.data.toList).2).1, .int .i64 (numD (cutN s.data.toList).1 (cutN s.data.toList).2).2]) ∧ w = w' := by
  by_cases h0 : 0 < s.size
  · have hh := head_of h0
    have hsplit : s.data.toList = s[0] :: s.data.toList.drop 1 := by
      cases hl : s.data.toList with
      | nil =>
        rw [hl] at hh
        cases hh
      | cons c l =>
        rw [hl] at hh
        simp only [List.head?_cons, Option.some.injEq] at hh
        rw [hh]
        rfl
    by_cases h45 : s[0] = 45
    · have hc : cutN s.data.toList = (s.data.toList.drop 1, true) := by
        rw [hsplit]
        unfold cutN
        simp [h45]
      rw [hc]
      have hex : (s.extract 1 s.size).data.toList = s.data.toList.drop 1 := ext_drop s 1
      have h := refNumber_neg s (s.extract 1 s.size) hs h0 (beq_iff_eq.2 (by rw [h45]; rfl)) rfl (by rw [ByteArray.size_extract]; omega) w
      rw [hex] at h
      exact h
    · have hc : cutN s.data.toList = (s.data.toList, false) := by
        rw [hsplit]
        unfold cutN
        simp [h45]
      rw [hc]
      refine refNumber_pos s hs (fun _ => beq_eq_false_iff_ne.2 (fun e => h45 (UInt8.toNat_inj.1 ?_))) hs w
      have : s[0].toNat = 45 := by omega
      rw [this]
      rfl
  · have hn : s.data.toList = [] := List.eq_nil_of_length_eq_zero (by rw [toList_length]; omega)
    have hc : cutN s.data.toList = (s.data.toList, false) := by rw [hn]; rfl
    rw [hc]
    exact refNumber_pos s hs (fun h => absurd h h0) hs w

theorem tdiv_neg (k : Nat) : (-(k : Int)).tdiv 10 = -((k / 10 : Nat) : Int) := by
  rw [Int.neg_tdiv]
  congr 1
theorem tmod_neg (k : Nat) : (-(k : Int)).tmod 10 = -((k % 10 : Nat) : Int) := by
  rw [Int.neg_tmod]
  congr 1

theorem one_back (w : World) (k : Nat) :
    (convert 24 9 (.slice (some ⟨w.heap.size, 0, none⟩) 1 1)).run Tryd.prog (w.alloc (.cells #[.int .u8 (48 + (k : Int) % 10)] 5)) = .ok (.string (bstr [dch (k % 10)])) (w.alloc (.cells #[.int .u8 (48 + (k : Int) % 10)] 5)) := by
  refine run_convert_bytes_back (P := Tryd.prog) _ 24 9 5 ⟨w.heap.size, 0, none⟩ 1 [dch (k % 10)] Tryd.underlying24 Tryd.underlying5 Tryd.underlying9 (fun j hj => ?_)
  obtain rfl : j = 0 := by simp at hj; omega
  rw [Addr.add_lit, Lib.cell_of_heap (heap_alloc_new w _)]
  show some (Value.int .u8 (48 + (k : Int) % 10)) = _
  rw [digit_cell]
  rfl

theorem len_bd {k n : Nat} (h : k * 10 ^ n ≤ 9223372036854775808) (hk : 1 ≤ k) : n ≤ 18 := by
  rcases Nat.lt_or_ge 18 n with h1 | h1
  · exfalso
    have h2 : 10 ^ 19 ≤ 10 ^ n := Nat.pow_le_pow_right (by decide) h1
    have h3 : 10 ^ n ≤ k * 10 ^ n := Nat.le_mul_of_pos_left _ hk
    omega
  · exact h1

theorem len_step {k n : Nat} (h : k * 10 ^ n ≤ 9223372036854775808) : k / 10 * 10 ^ (n + 1) ≤ 9223372036854775808 := by
  have h1 : k / 10 * 10 ≤ k := Nat.div_mul_le_self k 10
  have h2 : k / 10 * 10 * 10 ^ n ≤ k * 10 ^ n := Nat.mul_le_mul_right _ h1
  rw [Nat.pow_succ, Nat.mul_comm (10 ^ n) 10, ← Nat.mul_assoc]
  omega

set_option maxHeartbeats 2000000 in
set_option maxRecDepth 100000 in
theorem digits1_calls (m : Nat) (v : Int) (w : World) (hv : v = -(m : Int)) (hm : m ≤ 9223372036854775808) :
    Calls Tryd.prog 71 #[.int .i64 v] w fun r w' => r = .returned (.string (bstr (digs m))) ∧ Below w.heap.size w w' := by
  have HV := Lib.hid hv
  clear hv
  go_enter Tryd.func71, Tryd.ntmps71
  go_wp2
  go_loopw [0, 3] (fun s0 s3 wr => ∃ (k : Nat) (l : List UInt8), s0 = .int .i64 (-(k : Int)) ∧ s3 = .string (bstr l) ∧ k ≤ 9223372036854775808 ∧ Hid (digs m = digs k ++ l) ∧ l.length ≤ 30 ∧ Hid (k * 10 ^ l.length ≤ 9223372036854775808) ∧ Hid (Below w.heap.size w wr)) (fun s0 _ _ => (-(intOf s0)).toNat)
  case atStart => exact ⟨m, [], by rw [HV.out], rfl, hm, (by show _ = _; simp), by simp, (by show m * 10 ^ 0 ≤ _; simpa using hm), Below.refl _ _⟩
  case round =>
    obtain ⟨k, l, rfl, rfl, hk, HD, hl, HP, HB⟩ := hrel
    have htm := tmod_neg k
    have htd := tdiv_neg k
    have hconv := one_back wr k
    have hap : bstr [dch (k % 10)] ++ bstr l = bstr (dch (k % 10) :: l) := bapp2 _ _
    have hs1 : (bstr [dch (k % 10)]).size = 1 := rfl
    have hs2 : (bstr l).size = l.length := rfl
    have hfit : ¬ 9223372036854775807 < (bstr [dch (k % 10)]).size + (bstr l).size := by omega
    by_cases h10 : k / 10 = 0
    · have hq : (-((k : Int) / 10) == 0) = true := by rw [beq_iff_eq]; omega
      have HF : Hid (digs m = dch (k % 10) :: l) := by
        show _ = _
        rw [HD.out, digs_lt (by omega), show k % 10 = k by omega]
        rfl
      clear h10 hs1 hs2
      go_wp2
      go_ret
      exact ⟨congrArg (fun x => Ending.returned (Value.string (bstr x))) HF.out.symm, al HB.out _⟩
    · have hq : (-((k : Int) / 10) == 0) = false := by rw [beq_eq_false_iff_ne]; omega
      have hl18 := len_bd (len_step HP.out) (by omega)
      have HF : Hid (digs m = digs (k / 10) ++ (dch (k % 10) :: l)) := by
        show _ = _
        rw [HD.out, digs_ge (by omega), List.append_assoc]
        rfl
      have HP2 := Lib.hid (len_step HP.out)
      clear h10 hs1 hs2
      go_wp2
      go_roundw
      case rel => exact ⟨k / 10, dch (k % 10) :: l, by go_num, rfl, by omega, HF.out, by simp only [List.length_cons]; omega, HP2.out, al HB.out _⟩
      case measure =>
        clear htm htd
        have hk10 : 10 ≤ k := by rcases Nat.lt_or_ge k 10 with h | h; exact absurd (beq_eq_false_iff_ne.1 hq) (fun h2 => h2 (by omega)); exact h
        clear hq
        simp [intOf]
        omega

theorem digs_len : ∀ (m : Nat), m < 18446744073709551616 → (digs m).length ≤ 20 := by
  have key : ∀ (j m : Nat), m < 10 ^ (j + 1) → (digs m).length ≤ j + 1 := by
    intro j
    induction j with
    | zero =>
      intro m hm
      rw [digs_lt (by simpa using hm)]
      simp
    | succ j ih =>
      intro m hm
      by_cases h : m < 10
      · rw [digs_lt h]
        simp
      · rw [digs_ge (by omega), List.length_append]
        have := ih (m / 10) (by rw [Nat.pow_succ] at hm; omega)
        simp
        omega
  intro m hm
  exact key 19 m (by omega)

/-- The document's own Digits. -/
theorem refDigits_calls (v : Int) (w : World) (h0 : -9223372036854775808 ≤ v) (h1 : v ≤ 9223372036854775807) :
    Calls Tryd.prog 42 #[.int .i64 v] w fun r w' => r = .returned (.string (bstr (digitsL v))) ∧ Below w.heap.size w w' := by
  by_cases h : v < 0
  · have HD : Hid (({ data := #[45] } : ByteArray) ++ bstr (digs v.natAbs) = bstr (digitsL v)) := by
      show _ = _
      unfold digitsL
      rw [if_pos h]
      exact bapp2 _ _
    have hlen := digs_len v.natAbs (by omega)
    have hfit : ¬ 9223372036854775807 < (({ data := #[45] } : ByteArray)).size + (bstr (digs v.natAbs)).size := by
      have : (({ data := #[45] } : ByteArray)).size = 1 := rfl
      rw [this, bstr_size]
      omega
    have HC := Lib.hid (fun W => digits1_calls v.natAbs v W (by omega) (by omega))
    generalize v.natAbs = m at HD hlen hfit HC
    clear hlen
    go_enter Tryd.func42, Tryd.ntmps42
    go_wp2_with fail
    refine (HC.out _).mono ?_
    rintro e w1 ⟨rfl, b1⟩
    go_wp2
    go_ret
    exact ⟨congrArg (fun x => Ending.returned (Value.string x)) HD.out, b1⟩
  · have HD : Hid (digs v.natAbs = digitsL v) := by
      show _ = _
      unfold digitsL
      rw [if_neg h]
    have HC := Lib.hid (fun W => digits1_calls v.natAbs (-v) W (by omega) (by omega))
    generalize v.natAbs = m at HD HC
    go_enter Tryd.func42, Tryd.ntmps42
    go_wp2_with fail
    refine (HC.out _).mono ?_
    rintro e w1 ⟨rfl, b1⟩
    go_wp2
    go_ret
    exact ⟨congrArg (fun x => Ending.returned (Value.string (bstr x))) HD.out, b1⟩

set_option maxHeartbeats 2000000 in
set_option maxRecDepth 100000 in
theorem wireDigits_calls (v : Int) (s : ByteArray) (w : World) (hv : (Lit.int .i64 v).wf = true) (hs : s.size ≤ 140737488351232) :
    Calls Tryd.prog 7 #[.int .i64 v, .string s] w fun r w' => r = .returned (.bool true) ∧ Below w.heap.size w w' := by
  have hv0 := Go.bounds_i64 hv
  clear hv
  by_cases h1 : 300 < (s.size : Int)
  · go_enter Tryd.func7, Tryd.ntmps7
    go_wp2_with fail
    refine (wireAlive_calls _).mono ?_
    rintro e w1 ⟨rfl, b1⟩
    go_wp2
    go_ret
    exact ⟨rfl, b1⟩
  · have H1 := Lib.hid (fun W => number_calls s W (by omega))
    have H2 := Lib.hid (fun W => refNumber_calls s W (by omega))
    have H3 := Lib.hid (fun W => digits_calls v W hv0.1 hv0.2)
    have H4 := Lib.hid (fun W => refDigits_calls v W hv0.1 hv0.2)
    generalize numD (cutN s.data.toList).1 (cutN s.data.toList).2 = t at H1 H2
    obtain ⟨a, e⟩ := t
    generalize bstr (digitsL v) = D at H3 H4
    go_enter Tryd.func7, Tryd.ntmps7
    go_wp2_with fail
    refine (H1.out _).mono ?_
    rintro r w1 ⟨rfl, rfl⟩
    go_wp2_with fail
    refine (H2.out _).mono ?_
    rintro r w1 ⟨rfl, rfl⟩
    go_wp2_with fail
    refine (wireAlive_calls _).mono ?_
    rintro r w1 ⟨rfl, b1⟩
    go_wp2_with fail
    refine (H3.out _).mono ?_
    rintro r w2 ⟨rfl, b2⟩
    go_wp2_with fail
    refine (H4.out _).mono ?_
    rintro r w3 ⟨rfl, b3⟩
    go_wp2
    go_ret
    exact ⟨rfl, bl (bl b1 b2) b3⟩

end Go.Proofs.YtpbmclaglkcmoaaDoor
