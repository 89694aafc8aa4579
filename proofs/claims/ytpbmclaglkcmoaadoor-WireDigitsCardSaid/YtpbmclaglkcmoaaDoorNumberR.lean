import Derived.Test.YtpbmclaglkcmoaaDoorNumber
namespace Go.Proofs.YtpbmclaglkcmoaaDoor
open Go.RowKit
set_option linter.unusedVariables false
set_option linter.unusedSimpArgs false

/-! The document's own Number. -/
set_option maxHeartbeats 4000000 in
set_option maxRecDepth 100000 in
theorem refNumber_neg (s d : ByteArray) (hs : s.size ≤ 9223372036854775807) (hp : 0 < s.size) (h45 : ((s[0].toNat : Int) == 45) = true) (hex : s.extract 1 s.size = d) (hds : d.size ≤ 9223372036854775807) (w : World) :
    Calls Tryd.prog 40 #[.string s] w fun r w' => r = .returned (.tuple #[.int .i64 (numD d.data.toList true).1, .int .i64 (numD d.data.toList true).2]) ∧ w = w' := by
  have hp1 : (0 : Int) < (s.size : Int) := by omega
  have hp2 : (1 : Int) ≤ (s.size : Int) := by omega
  by_cases h0 : d.size = 0
  · have HD : Hid (numD d.data.toList true = (0, 1)) := by
      show _ = _
      unfold numD
      rw [if_pos (.inl (by rw [toList_length]; exact h0))]
    have h0i : (d.size : Int) < 1 := by omega
    clear h0
    go_enter Tryd.func40, Tryd.ntmps40
    go_wp2
    go_ret2
    rw [HD.out]
    exact ⟨rfl, rfl⟩
  have h0' : 0 < d.size := by omega
  have h0i : ¬ (d.size : Int) < 1 := by omega
  by_cases h18 : 18 < d.size
  · have HD : Hid (numD d.data.toList true = (0, 1)) := by
      show _ = _
      unfold numD
      rw [if_pos (.inr (.inl (by rw [toList_length]; exact h18)))]
    clear h0
    have h18i : (18 : Int) < (d.size : Int) := by omega
    go_enter Tryd.func40, Tryd.ntmps40
    go_wp2
    go_ret2
    rw [HD.out]
    exact ⟨rfl, rfl⟩
  have h18i : (d.size : Int) ≤ 18 := by omega
  have hhead := head_of h0'
  by_cases hz : d[0].toNat = 48
  · have hz1 : ((d[0].toNat : Int) == 48) = true := beq_iff_eq.2 (by omega)
    have hz48 : d[0] = 48 := UInt8.toNat_inj.1 hz
    have HD : Hid (numD d.data.toList true = (0, 1)) := by
      show _ = _
      unfold numD
      rw [if_pos (.inr (.inr ⟨by rw [hhead, hz48], .inr rfl⟩))]
    clear h0 hhead hz hz48
    by_cases hb1 : 1 < d.size
    · have hb1i : (1 : Int) < (d.size : Int) := by omega
      go_enter Tryd.func40, Tryd.ntmps40
      go_wp2
      go_ret2
      rw [HD.out]
      exact ⟨rfl, rfl⟩
    · have hb1i : ¬ (1 : Int) < (d.size : Int) := by omega
      go_enter Tryd.func40, Tryd.ntmps40
      go_wp2
      go_ret2
      rw [HD.out]
      exact ⟨rfl, rfl⟩
  · have HNB : Hid (¬ numBad d.data.toList true) := by
      show ¬ _
      unfold numBad
      rw [toList_length, hhead]
      rintro (h | h | ⟨h, _⟩)
      · exact h0 h
      · exact h18 h
      · have := Option.some.inj h
        rw [this] at hz
        exact hz rfl
    have hz1 : ((d[0].toNat : Int) == 48) = false := beq_eq_false_iff_ne.2 (by omega)
    clear h0 h18 hhead hz
    all_goals
      go_enter Tryd.func40, Tryd.ntmps40
      go_wp2_with fail
      go_loop [5, 6] (fun sn si => ∃ k : Nat, k ≤ d.size ∧ si = .int .i64 k ∧ sn = .int .i64 (valL (d.data.toList.take k)) ∧ valL (d.data.toList.take k) < 1000000000000000000 ∧ Hid ((d.data.toList.take k).all dgB = true)) (fun _ si => d.size - (intOf si).toNat)
      case atStart => exact ⟨0, Nat.zero_le _, rfl, rfl, by rw [List.take_zero]; decide, rfl⟩
      case round =>
        obtain ⟨k, hk, rfl, rfl, hvl, HA⟩ := hrel
        by_cases hlt : k < d.size
        · have hc256 : d[k].toNat < 256 := d[k].toNat_lt
          by_cases hdg : dgB d[k] = true
          · have hdg2 : 48 ≤ d[k].toNat ∧ d[k].toNat ≤ 57 := by simpa [dgB] using hdg
            obtain ⟨hd1, hd2⟩ := hdg2
            have hd1i : (48 : Int) ≤ (d[k].toNat : Int) := by omega
            have hd2i : (d[k].toNat : Int) ≤ 57 := by omega
            have hv17 := valL_lt (d.data.toList.take k) HA.out
            have hlen17 : (d.data.toList.take k).length = k := by rw [List.length_take, toList_length]; omega
            have hpow17 : 10 ^ k ≤ 10 ^ 17 := Nat.pow_le_pow_right (by decide) (by omega)
            rw [hlen17] at hv17
            have hv17' : valL (d.data.toList.take k) < 100000000000000000 := by omega
            have HA2 := Lib.hid (all_snoc d k hlt HA.out hdg)
            have hv2 := valL_lt (d.data.toList.take (k + 1)) HA2.out
            have hlen : (d.data.toList.take (k + 1)).length = k + 1 := by rw [List.length_take, toList_length]; omega
            rw [hlen] at hv2
            have hpow : 10 ^ (k + 1) ≤ 10 ^ 18 := Nat.pow_le_pow_right (by decide) (by omega)
            have hv3 : valL (d.data.toList.take (k + 1)) < 1000000000000000000 := by omega
            have HSN : Hid (valL (d.data.toList.take (k + 1)) = 10 * valL (d.data.toList.take k) + (d[k].toNat - 48)) := by show _ = _; rw [take_snoc8 d k hlt, valL_snoc]
            have HV3 := Lib.hid hv3
            clear hdg hv2 hlen hpow hv3 hv17 hlen17 hpow17
            generalize valL (d.data.toList.take k) = V at hvl HSN hv17'
            have hV0 : (0 : Int) ≤ (V : Int) := Int.natCast_nonneg _
            have hV1 : (V : Int) ≤ 99999999999999999 := by omega
            go_wp2
            go_round
            case rel => exact ⟨k + 1, by omega, by go_num, (by rw [HSN.out]; exact congrArg (Value.int .i64) (by omega)), HV3.out, HA2.out⟩
            case measure => simp [intOf]; omega
          · have hdg1 : dgB d[k] = false := by simpa using hdg
            have HD : Hid (numD d.data.toList true = (0, 1)) := by
              show _ = _
              unfold numD
              rw [if_neg HNB.out, if_neg (by rw [all_not d k hlt hdg1]; decide)]
            have hdg2 : d[k].toNat < 48 ∨ 57 < d[k].toNat := by
              simp only [dgB, decide_eq_false_iff_not] at hdg1
              omega
            clear hdg hdg1
            rcases hdg2 with hd1 | hd1
            · have hd1i : (d[k].toNat : Int) < 48 := by omega
              go_wp2
              go_ret2
              rw [HD.out]
              exact ⟨rfl, rfl⟩
            · have hd1i : (57 : Int) < (d[k].toNat : Int) := by omega
              have hd2i : ¬ (d[k].toNat : Int) < 48 := by omega
              go_wp2
              go_ret2
              rw [HD.out]
              exact ⟨rfl, rfl⟩
        · have hkk : d.data.toList.take k = d.data.toList := List.take_of_length_le (by rw [toList_length]; omega)
          have HD : Hid (numD d.data.toList true = (if true then -(valL d.data.toList : Int) else valL d.data.toList, 0)) := by
            show _ = _
            unfold numD
            rw [if_neg HNB.out, if_pos (by have := HA.out; rw [hkk] at this; exact this)]
          rw [hkk] at hvl ⊢
          clear hkk
          go_wp2
          go_ret2
          rw [HD.out]
          exact ⟨rfl, rfl⟩

set_option maxHeartbeats 4000000 in
set_option maxRecDepth 100000 in
theorem refNumber_pos (d : ByteArray) (hs : d.size ≤ 9223372036854775807) (h45 : ∀ h : 0 < d.size, ((d[0].toNat : Int) == 45) = false) (hds : d.size ≤ 9223372036854775807) (w : World) :
    Calls Tryd.prog 40 #[.string d] w fun r w' => r = .returned (.tuple #[.int .i64 (numD d.data.toList false).1, .int .i64 (numD d.data.toList false).2]) ∧ w = w' := by
  by_cases h0 : d.size = 0
  · have HD : Hid (numD d.data.toList false = (0, 1)) := by
      show _ = _
      unfold numD
      rw [if_pos (.inl (by rw [toList_length]; exact h0))]
    have h0i : (d.size : Int) < 1 := by omega
    have h00 : ¬ (0 : Int) < (d.size : Int) := by omega
    clear h0
    go_enter Tryd.func40, Tryd.ntmps40
    go_wp2
    go_ret2
    rw [HD.out]
    exact ⟨rfl, rfl⟩
  have h0' : 0 < d.size := by omega
  have h0i : ¬ (d.size : Int) < 1 := by omega
  have h00 : (0 : Int) < (d.size : Int) := by omega
  have h45' := h45 h0'
  clear h45
  by_cases h18 : 18 < d.size
  · have HD : Hid (numD d.data.toList false = (0, 1)) := by
      show _ = _
      unfold numD
      rw [if_pos (.inr (.inl (by rw [toList_length]; exact h18)))]
    clear h0
    have h18i : (18 : Int) < (d.size : Int) := by omega
    go_enter Tryd.func40, Tryd.ntmps40
    go_wp2
    go_ret2
    rw [HD.out]
    exact ⟨rfl, rfl⟩
  have h18i : (d.size : Int) ≤ 18 := by omega
  have hhead := head_of h0'
  by_cases hz : d[0].toNat = 48
  · have hz1 : ((d[0].toNat : Int) == 48) = true := beq_iff_eq.2 (by omega)
    have hz48 : d[0] = 48 := UInt8.toNat_inj.1 hz
    by_cases hb1 : 1 < d.size
    · have HD : Hid (numD d.data.toList false = (0, 1)) := by
        show _ = _
        unfold numD
        rw [if_pos (.inr (.inr ⟨by rw [hhead, hz48], .inl (by rw [toList_length]; exact hb1)⟩))]
      clear h0 hhead hz hz48
      have hb1i : (1 : Int) < (d.size : Int) := by omega
      go_enter Tryd.func40, Tryd.ntmps40
      go_wp2
      go_ret2
      rw [HD.out]
      exact ⟨rfl, rfl⟩
    · have HNB : Hid (¬ numBad d.data.toList false) := by
        show ¬ _
        unfold numBad
        rw [toList_length]
        rintro (h | h | ⟨_, h⟩)
        · exact h0 h
        · exact h18 h
        · rcases h with h | h
          · exact hb1 h
          · cases h
      have hb1i : ¬ (1 : Int) < (d.size : Int) := by omega
      all_goals
        clear hb1 h0 h18 hhead hz hz48
        go_enter Tryd.func40, Tryd.ntmps40
        go_wp2_with fail
        go_loop [5, 6] (fun sn si => ∃ k : Nat, k ≤ d.size ∧ si = .int .i64 k ∧ sn = .int .i64 (valL (d.data.toList.take k)) ∧ valL (d.data.toList.take k) < 1000000000000000000 ∧ Hid ((d.data.toList.take k).all dgB = true)) (fun _ si => d.size - (intOf si).toNat)
        case atStart => exact ⟨0, Nat.zero_le _, rfl, rfl, by rw [List.take_zero]; decide, rfl⟩
        case round =>
          obtain ⟨k, hk, rfl, rfl, hvl, HA⟩ := hrel
          by_cases hlt : k < d.size
          · have hc256 : d[k].toNat < 256 := d[k].toNat_lt
            by_cases hdg : dgB d[k] = true
            · have hdg2 : 48 ≤ d[k].toNat ∧ d[k].toNat ≤ 57 := by simpa [dgB] using hdg
              obtain ⟨hd1, hd2⟩ := hdg2
              have hd1i : (48 : Int) ≤ (d[k].toNat : Int) := by omega
              have hd2i : (d[k].toNat : Int) ≤ 57 := by omega
              have hv17 := valL_lt (d.data.toList.take k) HA.out
              have hlen17 : (d.data.toList.take k).length = k := by rw [List.length_take, toList_length]; omega
              have hpow17 : 10 ^ k ≤ 10 ^ 17 := Nat.pow_le_pow_right (by decide) (by omega)
              rw [hlen17] at hv17
              have hv17' : valL (d.data.toList.take k) < 100000000000000000 := by omega
              have HA2 := Lib.hid (all_snoc d k hlt HA.out hdg)
              have hv2 := valL_lt (d.data.toList.take (k + 1)) HA2.out
              have hlen : (d.data.toList.take (k + 1)).length = k + 1 := by rw [List.length_take, toList_length]; omega
              rw [hlen] at hv2
              have hpow : 10 ^ (k + 1) ≤ 10 ^ 18 := Nat.pow_le_pow_right (by decide) (by omega)
              have hv3 : valL (d.data.toList.take (k + 1)) < 1000000000000000000 := by omega
              have HSN : Hid (valL (d.data.toList.take (k + 1)) = 10 * valL (d.data.toList.take k) + (d[k].toNat - 48)) := by show _ = _; rw [take_snoc8 d k hlt, valL_snoc]
              have HV3 := Lib.hid hv3
              clear hdg hv2 hlen hpow hv3 hv17 hlen17 hpow17
              generalize valL (d.data.toList.take k) = V at hvl HSN hv17'
              have hV0 : (0 : Int) ≤ (V : Int) := Int.natCast_nonneg _
              have hV1 : (V : Int) ≤ 99999999999999999 := by omega
              go_wp2
              go_round
              case rel => exact ⟨k + 1, by omega, by go_num, (by rw [HSN.out]; exact congrArg (Value.int .i64) (by omega)), HV3.out, HA2.out⟩
              case measure => simp [intOf]; omega
            · have hdg1 : dgB d[k] = false := by simpa using hdg
              have HD : Hid (numD d.data.toList false = (0, 1)) := by
                show _ = _
                unfold numD
                rw [if_neg HNB.out, if_neg (by rw [all_not d k hlt hdg1]; decide)]
              have hdg2 : d[k].toNat < 48 ∨ 57 < d[k].toNat := by
                simp only [dgB, decide_eq_false_iff_not] at hdg1
                omega
              clear hdg hdg1
              rcases hdg2 with hd1 | hd1
              · have hd1i : (d[k].toNat : Int) < 48 := by omega
                go_wp2
                go_ret2
                rw [HD.out]
                exact ⟨rfl, rfl⟩
              · have hd1i : (57 : Int) < (d[k].toNat : Int) := by omega
                have hd2i : ¬ (d[k].toNat : Int) < 48 := by omega
                go_wp2
                go_ret2
                rw [HD.out]
                exact ⟨rfl, rfl⟩
          · have hkk : d.data.toList.take k = d.data.toList := List.take_of_length_le (by rw [toList_length]; omega)
            have HD : Hid (numD d.data.toList false = (if false then -(valL d.data.toList : Int) else valL d.data.toList, 0)) := by
              show _ = _
              unfold numD
              rw [if_neg HNB.out, if_pos (by have := HA.out; rw [hkk] at this; exact this)]
            rw [hkk] at hvl ⊢
            clear hkk
            go_wp2
            go_ret2
            rw [HD.out]
            exact ⟨rfl, rfl⟩
  · have HNB : Hid (¬ numBad d.data.toList false) := by
      show ¬ _
      unfold numBad
      rw [toList_length, hhead]
      rintro (h | h | ⟨h, _⟩)
      · exact h0 h
      · exact h18 h
      · have := Option.some.inj h
        rw [this] at hz
        exact hz rfl
    have hz1 : ((d[0].toNat : Int) == 48) = false := beq_eq_false_iff_ne.2 (by omega)
    clear h0 h18 hhead hz
    all_goals
      go_enter Tryd.func40, Tryd.ntmps40
      go_wp2_with fail
      go_loop [5, 6] (fun sn si => ∃ k : Nat, k ≤ d.size ∧ si = .int .i64 k ∧ sn = .int .i64 (valL (d.data.toList.take k)) ∧ valL (d.data.toList.take k) < 1000000000000000000 ∧ Hid ((d.data.toList.take k).all dgB = true)) (fun _ si => d.size - (intOf si).toNat)
      case atStart => exact ⟨0, Nat.zero_le _, rfl, rfl, by rw [List.take_zero]; decide, rfl⟩
      case round =>
        obtain ⟨k, hk, rfl, rfl, hvl, HA⟩ := hrel
        by_cases hlt : k < d.size
        · have hc256 : d[k].toNat < 256 := d[k].toNat_lt
          by_cases hdg : dgB d[k] = true
          · have hdg2 : 48 ≤ d[k].toNat ∧ d[k].toNat ≤ 57 := by simpa [dgB] using hdg
            obtain ⟨hd1, hd2⟩ := hdg2
            have hd1i : (48 : Int) ≤ (d[k].toNat : Int) := by omega
            have hd2i : (d[k].toNat : Int) ≤ 57 := by omega
            have hv17 := valL_lt (d.data.toList.take k) HA.out
            have hlen17 : (d.data.toList.take k).length = k := by rw [List.length_take, toList_length]; omega
            have hpow17 : 10 ^ k ≤ 10 ^ 17 := Nat.pow_le_pow_right (by decide) (by omega)
            rw [hlen17] at hv17
            have hv17' : valL (d.data.toList.take k) < 100000000000000000 := by omega
            have HA2 := Lib.hid (all_snoc d k hlt HA.out hdg)
            have hv2 := valL_lt (d.data.toList.take (k + 1)) HA2.out
            have hlen : (d.data.toList.take (k + 1)).length = k + 1 := by rw [List.length_take, toList_length]; omega
            rw [hlen] at hv2
            have hpow : 10 ^ (k + 1) ≤ 10 ^ 18 := Nat.pow_le_pow_right (by decide) (by omega)
            have hv3 : valL (d.data.toList.take (k + 1)) < 1000000000000000000 := by omega
            have HSN : Hid (valL (d.data.toList.take (k + 1)) = 10 * valL (d.data.toList.take k) + (d[k].toNat - 48)) := by show _ = _; rw [take_snoc8 d k hlt, valL_snoc]
            have HV3 := Lib.hid hv3
            clear hdg hv2 hlen hpow hv3 hv17 hlen17 hpow17
            generalize valL (d.data.toList.take k) = V at hvl HSN hv17'
            have hV0 : (0 : Int) ≤ (V : Int) := Int.natCast_nonneg _
            have hV1 : (V : Int) ≤ 99999999999999999 := by omega
            go_wp2
            go_round
            case rel => exact ⟨k + 1, by omega, by go_num, (by rw [HSN.out]; exact congrArg (Value.int .i64) (by omega)), HV3.out, HA2.out⟩
            case measure => simp [intOf]; omega
          · have hdg1 : dgB d[k] = false := by simpa using hdg
            have HD : Hid (numD d.data.toList false = (0, 1)) := by
              show _ = _
              unfold numD
              rw [if_neg HNB.out, if_neg (by rw [all_not d k hlt hdg1]; decide)]
            have hdg2 : d[k].toNat < 48 ∨ 57 < d[k].toNat := by
              simp only [dgB, decide_eq_false_iff_not] at hdg1
              omega
            clear hdg hdg1
            rcases hdg2 with hd1 | hd1
            · have hd1i : (d[k].toNat : Int) < 48 := by omega
              go_wp2
              go_ret2
              rw [HD.out]
              exact ⟨rfl, rfl⟩
            · have hd1i : (57 : Int) < (d[k].toNat : Int) := by omega
              have hd2i : ¬ (d[k].toNat : Int) < 48 := by omega
              go_wp2
              go_ret2
              rw [HD.out]
              exact ⟨rfl, rfl⟩
        · have hkk : d.data.toList.take k = d.data.toList := List.take_of_length_le (by rw [toList_length]; omega)
          have HD : Hid (numD d.data.toList false = (if false then -(valL d.data.toList : Int) else valL d.data.toList, 0)) := by
            show _ = _
            unfold numD
            rw [if_neg HNB.out, if_pos (by have := HA.out; rw [hkk] at this; exact this)]
          rw [hkk] at hvl ⊢
          clear hkk
          go_wp2
          go_ret2
          rw [HD.out]
          exact ⟨rfl, rfl⟩

end Go.Proofs.YtpbmclaglkcmoaaDoor
