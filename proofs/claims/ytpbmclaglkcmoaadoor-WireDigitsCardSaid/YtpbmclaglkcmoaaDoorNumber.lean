import Derived.Test.YtpbmclaglkcmoaaDoorWireCounts
namespace Go.Proofs.YtpbmclaglkcmoaaDoor
open Go.RowKit
set_option linter.unusedVariables false
set_option linter.unusedSimpArgs false

/-! wire.Number, and the document's own. -/
def valL (l : List UInt8) : Nat := l.foldl (fun a c => 10 * a + (c.toNat - 48)) 0
def dgB (c : UInt8) : Bool := decide (48 ≤ c.toNat ∧ c.toNat ≤ 57)

theorem valL_snoc (l : List UInt8) (c : UInt8) : valL (l ++ [c]) = 10 * valL l + (c.toNat - 48) := by simp [valL, List.foldl_append]
theorem valL_fold : ∀ (l : List UInt8) (a : Nat), l.all dgB = true → l.foldl (fun a c => 10 * a + (c.toNat - 48)) a < (a + 1) * 10 ^ l.length
  | [], a, _ => by simp
  | c :: l, a, h => by
    rw [List.all_cons, Bool.and_eq_true] at h
    have h1 := valL_fold l (10 * a + (c.toNat - 48)) h.2
    have h3 : 48 ≤ c.toNat ∧ c.toNat ≤ 57 := by simpa [dgB] using h.1
    simp only [List.foldl_cons, List.length_cons, Nat.pow_succ]
    refine Nat.lt_of_lt_of_le h1 ?_
    rw [Nat.mul_comm (10 ^ l.length) 10, ← Nat.mul_assoc]
    exact Nat.mul_le_mul_right _ (by omega)

theorem valL_lt (l : List UInt8) (h : l.all dgB = true) : valL l < 10 ^ l.length := by
  have := valL_fold l 0 h
  rw [Nat.zero_add, Nat.one_mul] at this
  exact this

def numBad (d : List UInt8) (below : Bool) : Prop := d.length = 0 ∨ 18 < d.length ∨ (d.head? = some 48 ∧ (1 < d.length ∨ below = true))
instance (d : List UInt8) (below : Bool) : Decidable (numBad d below) := by unfold numBad; infer_instance
def numD (d : List UInt8) (below : Bool) : Int × Int :=
  if numBad d below then (0, 1) else if d.all dgB then (if below then -(valL d : Int) else valL d, 0) else (0, 1)

def cutN (s : List UInt8) : List UInt8 × Bool := match s with
  | c :: l => if c = 45 then (l, true) else (c :: l, false)
  | [] => ([], false)

theorem cut_len (l : List UInt8) : (cutN l).1.length ≤ l.length := by
  unfold cutN
  cases l with
  | nil => exact Nat.le_refl _
  | cons c l =>
    simp only
    split
    · simp
    · exact Nat.le_refl _

theorem cut_lib (s : List UInt8) : Lib.trimPrefix s [45] = (cutN s).1 ∧ Lib.hasPrefix s [45] = (cutN s).2 := by
  cases s with
  | nil => exact ⟨rfl, rfl⟩
  | cons c l =>
    have h1 : Lib.hasPrefix (c :: l) [45] = (45 == c) := by simp [Lib.hasPrefix, List.isPrefixOf]
    unfold Lib.trimPrefix cutN
    rw [h1]
    by_cases h : c = 45
    · subst h
      simp
    · have h2 : ((45 : UInt8) == c) = false := beq_eq_false_iff_ne.2 (fun e => h e.symm)
      rw [h2]
      simp [h]

theorem cutPrefix_calls (s : ByteArray) (w : World) :
    Calls Tryd.prog 70 #[.string s, .string { data := #[45] }] w fun r w' => r = .returned (.tuple #[.string (bstr (cutN s.data.toList).1), .bool (cutN s.data.toList).2]) ∧ w = w' := by
  refine (Tryd.strings_CutPrefix s { data := #[45] } w).mono ?_
  rintro r w' ⟨h1, h2⟩
  obtain ⟨c1, c2⟩ := cut_lib s.data.toList
  have e : (({ data := #[45] } : ByteArray)).data.toList = [45] := rfl
  rw [e, c1, c2] at h1
  exact ⟨h1, h2.symm⟩

theorem head_of {d : ByteArray} (h : 0 < d.size) : d.data.toList.head? = some (d[0]'h) := by
  rw [List.head?_eq_getElem?]
  have hl : 0 < d.data.toList.length := by rw [toList_length]; exact h
  rw [List.getElem?_eq_getElem hl]
  rfl

theorem all_snoc (d : ByteArray) (k : Nat) (h : k < d.size) (ha : (d.data.toList.take k).all dgB = true) (hc : dgB d[k] = true) : (d.data.toList.take (k + 1)).all dgB = true := by
  rw [take_snoc8 d k h, List.all_append, ha]
  simp [hc]

theorem all_not (d : ByteArray) (k : Nat) (h : k < d.size) (hc : dgB d[k] = false) : d.data.toList.all dgB = false := by
  rw [Bool.eq_false_iff]
  intro ha
  have hl : k < d.data.toList.length := by rw [toList_length]; exact h
  have := List.all_eq_true.1 ha d.data.toList[k] (List.getElem_mem hl)
  have e : d.data.toList[k] = d[k] := rfl
  rw [e, hc] at this
  cases this

set_option maxHeartbeats 4000000 in
set_option maxRecDepth 100000 in
theorem number_calls (s : ByteArray) (w : World) (hs : s.size ≤ 9223372036854775807) :
    Calls Tryd.prog 39 #[.string s] w fun r w' => r = .returned (.tuple #[.int .i64 (numD (cutN s.data.toList).1 (cutN s.data.toList).2).1, .int .i64 (numD (cutN s.data.toList).1 (cutN s.data.toList).2).2]) ∧ w = w' := by
  have hdl : (cutN s.data.toList).1.length ≤ s.size := by rw [← toList_length s]; exact cut_len _
  have HCUT := Lib.hid (fun W => cutPrefix_calls s W)
  generalize hcut : cutN s.data.toList = t at HCUT hdl
  obtain ⟨dl, below⟩ := t
  clear hcut
  simp only at hdl
  obtain ⟨d, hd⟩ : ∃ d, d = bstr dl := ⟨_, rfl⟩
  have hdd : d.data.toList = dl := by rw [hd]; rfl
  have hsz : d.size = dl.length := by rw [hd]; rfl
  have HCUT2 : Hid (∀ W, Calls Tryd.prog 70 #[.string s, .string { data := #[45] }] W fun r w' => r = .returned (.tuple #[.string d, .bool below]) ∧ W = w') := by rw [hd]; exact HCUT.out
  clear HCUT hd
  subst hdd
  have hds : d.size ≤ 9223372036854775807 := by omega
  clear hdl hsz
  by_cases h0 : d.size = 0
  · have HD : Hid (numD d.data.toList below = (0, 1)) := by
      show _ = _
      unfold numD
      rw [if_pos (.inl (by rw [toList_length]; exact h0))]
    have he : d.toList.isEmpty = true := by rw [Lib.toList_data]; simpa [toList_length] using (List.eq_nil_of_length_eq_zero (by rw [toList_length]; exact h0) : d.data.toList = [])
    have he2 : d.toList = [] := by simpa using he
    clear h0
    go_enter Tryd.func39, Tryd.ntmps39
    go_wp2_with fail
    refine (HCUT2.out _).mono ?_
    rintro e w1 ⟨rfl, rfl⟩
    go_wp2
    go_ret2
    rw [HD.out]
    exact ⟨rfl, rfl⟩
  have h0' : 0 < d.size := by omega
  have he : d.toList.isEmpty = false := by
    rw [Lib.toList_data, Bool.eq_false_iff]
    intro h
    have := List.isEmpty_iff.1 h
    have h2 := toList_length d
    rw [this] at h2
    exact h0 h2.symm
  by_cases h18 : 18 < d.size
  · have HD : Hid (numD d.data.toList below = (0, 1)) := by
      show _ = _
      unfold numD
      rw [if_pos (.inr (.inl (by rw [toList_length]; exact h18)))]
    clear h0
    have h18i : (18 : Int) < (d.size : Int) := by omega
    go_enter Tryd.func39, Tryd.ntmps39
    go_wp2_with fail
    refine (HCUT2.out _).mono ?_
    rintro e w1 ⟨rfl, rfl⟩
    go_wp2
    go_ret2
    rw [HD.out]
    exact ⟨rfl, rfl⟩
  have h18i : (d.size : Int) ≤ 18 := by omega
  have hhead := head_of h0'
  by_cases hz : d[0].toNat = 48
  · have hz1 : ((d[0].toNat : Int) == 48) = true := beq_iff_eq.2 (by omega)
    have hz48 : d[0] = 48 := UInt8.toNat_inj.1 hz
    by_cases hb : 1 < d.size ∨ below = true
    · have HD : Hid (numD d.data.toList below = (0, 1)) := by
        show _ = _
        unfold numD
        rw [if_pos (.inr (.inr ⟨by rw [hhead, hz48], by rw [toList_length]; exact hb⟩))]
      clear h0 hhead hz hz48
      by_cases hb1 : 1 < d.size
      · have hb1i : (1 : Int) < (d.size : Int) := by omega
        go_enter Tryd.func39, Tryd.ntmps39
        go_wp2_with fail
        refine (HCUT2.out _).mono ?_
        rintro e w1 ⟨rfl, rfl⟩
        go_wp2
        go_ret2
        rw [HD.out]
        exact ⟨rfl, rfl⟩
      · have hb1i : ¬ (1 : Int) < (d.size : Int) := by omega
        obtain rfl : below = true := by rcases hb with h | h; exact absurd h hb1; exact h
        clear hb
        go_enter Tryd.func39, Tryd.ntmps39
        go_wp2_with fail
        refine (HCUT2.out _).mono ?_
        rintro e w1 ⟨rfl, rfl⟩
        go_wp2
        go_ret2
        rw [HD.out]
        exact ⟨rfl, rfl⟩
    · have HNB : Hid (¬ numBad d.data.toList below) := by
        show ¬ _
        unfold numBad
        rw [toList_length]
        rintro (h | h | ⟨_, h⟩)
        · exact h0 h
        · exact h18 h
        · exact hb h
      have hb1 : ¬ (1 : Int) < (d.size : Int) := by omega
      cases below with
      | true => exact absurd (.inr rfl) hb
      | false =>
        clear hb h0 h18 hhead hz hz48
        go_enter Tryd.func39, Tryd.ntmps39
        go_wp2_with fail
        refine (HCUT2.out _).mono ?_
        rintro e w1 ⟨rfl, rfl⟩
        go_wp2_with fail
        go_loop [6, 35] (fun sn si => ∃ k : Nat, k ≤ d.size ∧ si = .int .i64 k ∧ sn = .int .i64 (valL (d.data.toList.take k)) ∧ valL (d.data.toList.take k) < 1000000000000000000 ∧ Hid ((d.data.toList.take k).all dgB = true)) (fun _ si => d.size - (intOf si).toNat)
        case atStart => exact ⟨0, Nat.zero_le _, rfl, rfl, by rw [List.take_zero]; decide, rfl⟩
        case round =>
          obtain ⟨k, hk, rfl, rfl, hvl, HA⟩ := hrel
          by_cases hlt : k < d.size
          · have hc256 : d[k].toNat < 256 := d[k].toNat_lt
            by_cases hdg : dgB d[k] = true
            · have hdg2 : 48 ≤ d[k].toNat ∧ d[k].toNat ≤ 57 := by simpa [dgB] using hdg
              obtain ⟨hd1, hd2⟩ := hdg2
              have hd1i : (48 : Int) ≤ (d[k].toNat : Int) := by omega
              have hd2i : (d[k].toNat : Int) ≤ 57 := by omega
              have hv17 := valL_lt (d.data.toList.take k) HA.out
              have hlen17 : (d.data.toList.take k).length = k := by rw [List.length_take, toList_length]; omega
              have hpow17 : 10 ^ k ≤ 10 ^ 17 := Nat.pow_le_pow_right (by decide) (by omega)
              rw [hlen17] at hv17
              have hv17' : valL (d.data.toList.take k) < 100000000000000000 := by omega
              have HA2 := Lib.hid (all_snoc d k hlt HA.out hdg)
              have hv2 := valL_lt (d.data.toList.take (k + 1)) HA2.out
              have hlen : (d.data.toList.take (k + 1)).length = k + 1 := by rw [List.length_take, toList_length]; omega
              rw [hlen] at hv2
              have hpow : 10 ^ (k + 1) ≤ 10 ^ 18 := Nat.pow_le_pow_right (by decide) (by omega)
              have hv3 : valL (d.data.toList.take (k + 1)) < 1000000000000000000 := by omega
              have HSN : Hid (valL (d.data.toList.take (k + 1)) = 10 * valL (d.data.toList.take k) + (d[k].toNat - 48)) := by show _ = _; rw [take_snoc8 d k hlt, valL_snoc]
              have HV3 := Lib.hid hv3
              clear hdg hv2 hlen hpow hv3 hv17 hlen17 hpow17
              generalize valL (d.data.toList.take k) = V at hvl HSN hv17'
              have hV0 : (0 : Int) ≤ (V : Int) := Int.natCast_nonneg _
              have hV1 : (V : Int) ≤ 99999999999999999 := by omega
              go_wp2
              go_round
              case rel => exact ⟨k + 1, by omega, by go_num, (by rw [HSN.out]; exact congrArg (Value.int .i64) (by omega)), HV3.out, HA2.out⟩
              case measure => simp [intOf]; omega
            · have hdg1 : dgB d[k] = false := by simpa using hdg
              have HD : Hid (numD d.data.toList false = (0, 1)) := by
                show _ = _
                unfold numD
                rw [if_neg HNB.out, if_neg (by rw [all_not d k hlt hdg1]; decide)]
              have hdg2 : d[k].toNat < 48 ∨ 57 < d[k].toNat := by
                simp only [dgB, decide_eq_false_iff_not] at hdg1
                omega
              clear hdg hdg1
              rcases hdg2 with hd1 | hd1
              · have hd1i : (d[k].toNat : Int) < 48 := by omega
                go_wp2
                go_ret2
                rw [HD.out]
                exact ⟨rfl, rfl⟩
              · have hd1i : (57 : Int) < (d[k].toNat : Int) := by omega
                have hd2i : ¬ (d[k].toNat : Int) < 48 := by omega
                go_wp2
                go_ret2
                rw [HD.out]
                exact ⟨rfl, rfl⟩
          · have hkk : d.data.toList.take k = d.data.toList := List.take_of_length_le (by rw [toList_length]; omega)
            have HD : Hid (numD d.data.toList false = (if false then -(valL d.data.toList : Int) else valL d.data.toList, 0)) := by
              show _ = _
              unfold numD
              rw [if_neg HNB.out, if_pos (by have := HA.out; rw [hkk] at this; exact this)]
            rw [hkk] at hvl ⊢
            clear hkk
            go_wp2
            go_ret2
            rw [HD.out]
            exact ⟨rfl, rfl⟩
  · have HNB : Hid (¬ numBad d.data.toList below) := by
      show ¬ _
      unfold numBad
      rw [toList_length, hhead]
      rintro (h | h | ⟨h, _⟩)
      · exact h0 h
      · exact h18 h
      · have := Option.some.inj h
        rw [this] at hz
        exact hz rfl
    have hz1 : ((d[0].toNat : Int) == 48) = false := beq_eq_false_iff_ne.2 (by omega)
    clear h0 h18 hhead hz
    all_goals
      go_enter Tryd.func39, Tryd.ntmps39
      go_wp2_with fail
      refine (HCUT2.out _).mono ?_
      rintro e w1 ⟨rfl, rfl⟩
      go_wp2_with fail
      go_loop [6, 35] (fun sn si => ∃ k : Nat, k ≤ d.size ∧ si = .int .i64 k ∧ sn = .int .i64 (valL (d.data.toList.take k)) ∧ valL (d.data.toList.take k) < 1000000000000000000 ∧ Hid ((d.data.toList.take k).all dgB = true)) (fun _ si => d.size - (intOf si).toNat)
      case atStart => exact ⟨0, Nat.zero_le _, rfl, rfl, by rw [List.take_zero]; decide, rfl⟩
      case round =>
        obtain ⟨k, hk, rfl, rfl, hvl, HA⟩ := hrel
        by_cases hlt : k < d.size
        · have hc256 : d[k].toNat < 256 := d[k].toNat_lt
          by_cases hdg : dgB d[k] = true
          · have hdg2 : 48 ≤ d[k].toNat ∧ d[k].toNat ≤ 57 := by simpa [dgB] using hdg
            obtain ⟨hd1, hd2⟩ := hdg2
            have hd1i : (48 : Int) ≤ (d[k].toNat : Int) := by omega
            have hd2i : (d[k].toNat : Int) ≤ 57 := by omega
            have hv17 := valL_lt (d.data.toList.take k) HA.out
            have hlen17 : (d.data.toList.take k).length = k := by rw [List.length_take, toList_length]; omega
            have hpow17 : 10 ^ k ≤ 10 ^ 17 := Nat.pow_le_pow_right (by decide) (by omega)
            rw [hlen17] at hv17
            have hv17' : valL (d.data.toList.take k) < 100000000000000000 := by omega
            have HA2 := Lib.hid (all_snoc d k hlt HA.out hdg)
            have hv2 := valL_lt (d.data.toList.take (k + 1)) HA2.out
            have hlen : (d.data.toList.take (k + 1)).length = k + 1 := by rw [List.length_take, toList_length]; omega
            rw [hlen] at hv2
            have hpow : 10 ^ (k + 1) ≤ 10 ^ 18 := Nat.pow_le_pow_right (by decide) (by omega)
            have hv3 : valL (d.data.toList.take (k + 1)) < 1000000000000000000 := by omega
            have HSN : Hid (valL (d.data.toList.take (k + 1)) = 10 * valL (d.data.toList.take k) + (d[k].toNat - 48)) := by show _ = _; rw [take_snoc8 d k hlt, valL_snoc]
            have HV3 := Lib.hid hv3
            clear hdg hv2 hlen hpow hv3 hv17 hlen17 hpow17
            generalize valL (d.data.toList.take k) = V at hvl HSN hv17'
            have hV0 : (0 : Int) ≤ (V : Int) := Int.natCast_nonneg _
            have hV1 : (V : Int) ≤ 99999999999999999 := by omega
            go_wp2
            go_round
            case rel => exact ⟨k + 1, by omega, by go_num, (by rw [HSN.out]; exact congrArg (Value.int .i64) (by omega)), HV3.out, HA2.out⟩
            case measure => simp [intOf]; omega
          · have hdg1 : dgB d[k] = false := by simpa using hdg
            have HD : Hid (numD d.data.toList below = (0, 1)) := by
              show _ = _
              unfold numD
              rw [if_neg HNB.out, if_neg (by rw [all_not d k hlt hdg1]; decide)]
            have hdg2 : d[k].toNat < 48 ∨ 57 < d[k].toNat := by
              simp only [dgB, decide_eq_false_iff_not] at hdg1
              omega
            clear hdg hdg1
            rcases hdg2 with hd1 | hd1
            · have hd1i : (d[k].toNat : Int) < 48 := by omega
              go_wp2
              go_ret2
              rw [HD.out]
              exact ⟨rfl, rfl⟩
            · have hd1i : (57 : Int) < (d[k].toNat : Int) := by omega
              have hd2i : ¬ (d[k].toNat : Int) < 48 := by omega
              go_wp2
              go_ret2
              rw [HD.out]
              exact ⟨rfl, rfl⟩
        · have hkk : d.data.toList.take k = d.data.toList := List.take_of_length_le (by rw [toList_length]; omega)
          have HD : Hid (numD d.data.toList below = (if below then -(valL d.data.toList : Int) else valL d.data.toList, 0)) := by
            show _ = _
            unfold numD
            rw [if_neg HNB.out, if_pos (by have := HA.out; rw [hkk] at this; exact this)]
          rw [hkk] at hvl ⊢
          clear hkk
          cases below
          all_goals
            go_wp2
            go_ret2
            rw [HD.out]
            exact ⟨rfl, rfl⟩

end Go.Proofs.YtpbmclaglkcmoaaDoor
