import Derived.Test.YtpbmclaglkcmoaaTexts
namespace Go.Proofs.Ytpbmclaglkcmoaa
open Go.RowKit
set_option linter.unusedVariables false
set_option linter.unusedSimpArgs false

theorem Lent.below {w w' : World} {B g cap : Nat} {l : List ByteArray} (h : Lent w B g cap l) (hb : Below w.heap.size w w') : Lent w' B g cap l := by
  refine ⟨h.1, h.2.1, fun j hj => ?_, ?_⟩
  · exact (hb.cell (World.block_lt_of_cell? _ _ (h.2.2.1 j hj))).trans (h.2.2.1 j hj)
  · exact (hb.cell (World.block_lt_of_cell? _ _ h.2.2.2)).trans h.2.2.2

set_option maxHeartbeats 4000000 in
set_option maxRecDepth 100000 in
theorem sumTells_calls (A : Option Addr) (c : Nat) (sl : List ByteArray) (b : ByteArray) (n : Int) (w : World) (hc : sl.length ≤ c) (hm : c ≤ maxLen) (hI : Strs w A sl) (hw : ∀ x ∈ sl, x.size ≤ maxLen) (hb : b.size ≤ 140737488351232) (hn : (Lit.int .i64 n).wf = true) :
    Calls Try.prog 7 #[.slice A sl.length c, .string b, .int .i64 n] w fun r w' => r = .returned (.bool true) ∧ Below w.heap.size w w' := by
  have hmx : c ≤ 9223372036854775807 := by simpa only [maxLen] using hm
  have hn0 := Go.bounds_i64 hn
  have HSH := Lib.hid (short_calls 60 6000 A c sl w hI hc (by omega) (fun x hx => by have := hw x hx; simpa only [maxLen] using this) (by omega) (by omega) (by omega))
  have HI := Lib.hid hI
  clear hI hw hn hm
  go_enter Try.func7, Try.ntmps7
  go_wp2_with fail
  refine HSH.out.mono ?_
  rintro r w1 ⟨q, hsp, rfl, hb1⟩
  cases q with
  | false =>
    go_wp2_with fail
    refine (sumAlive_calls _).mono ?_
    rintro r w2 ⟨rfl, hb2⟩
    go_wp2
    go_ret
    exact ⟨rfl, bl hb1 hb2⟩
  | true =>
    obtain ⟨hl60, hd6⟩ := hsp rfl
    by_cases hb3 : 3000 < b.size
    · have hb3' : (3000 : Int) < (b.size : Int) := by omega
      go_wp2_with fail
      refine (sumAlive_calls _).mono ?_
      rintro r w2 ⟨rfl, hb2⟩
      go_wp2
      go_ret
      exact ⟨rfl, bl hb1 hb2⟩
    have hb3' : (b.size : Int) ≤ 3000 := by omega
    have HB1 := Lib.hid hb1
    have HI1 := Lib.hid (HI.out.below hb1)
    have HD6 := Lib.hid hd6
    clear hsp hb1 hd6
    by_cases hnn : 3100 < n
    · by_cases hn6 : n ≤ 60000
      · skip
        go_wp2_with fail
        go_loopw [7, 8] (fun s7 s8 wr => ∃ k : Nat, k ≤ sl.length ∧ s8 = .int .i64 k ∧ s7 = .string (bstr (catL (sl.take k))) ∧ (catL (sl.take k)).length ≤ 6000 * k ∧ w1 = wr) (fun _ s8 _ => sl.length - (intOf s8).toNat)
        case atStart => exact ⟨0, Nat.zero_le _, rfl, rfl, Nat.zero_le _, rfl⟩
        case round =>
          obtain ⟨k, hk, rfl, rfl, hal, rfl⟩ := hrel
          by_cases hlt : k < sl.length
          · obtain ⟨a, hA, c0⟩ := HI1.out k hlt
            subst hA
            have hds : sl[k].size ≤ 6000 := by have := HD6.out sl[k] (List.getElem_mem hlt); omega
            have hsn := catL_snoc sl k hlt
            generalize sl[k] = d at c0 hds hsn
            have HC : Hid (bstr (catL (sl.take k)) ++ d = bstr (catL (sl.take (k + 1)))) := by
              show _ = _
              rw [hsn]
              exact bapp _ d
            have HLN : Hid ((catL (sl.take (k + 1))).length ≤ 6000 * (k + 1)) := by
              show _ ≤ _
              rw [hsn, List.length_append, toList_length]
              omega
            have hsz : (bstr (catL (sl.take k))).size ≤ 6000 * k := hal
            have hfit : ¬ 9223372036854775807 < (bstr (catL (sl.take k))).size + d.size := by omega
            clear hsn hal
            go_wp2
            go_roundw
            case rel => exact ⟨k + 1, by omega, by go_num, congrArg Value.string HC.out, HLN.out, trivial⟩
            case measure => simp [intOf]; omega
          · have hkk : sl.take k = sl := List.take_of_length_le (by omega)
            rw [hkk] at hal ⊢
            have hal2 : (bstr (catL sl)).size ≤ 360000 := by rw [bstr_size]; have : 6000 * k ≤ 6000 * 60 := Nat.mul_le_mul_left _ (by omega); omega
            have HLE := Lib.hid (lent_calls A c sl w1 HI1.out hc (by omega))
            have HOF := Lib.hid (fun (A0 : Option Addr) (c0 : Nat) W h => of_calls A0 c0 sl W h (by omega) (fun x hx => by have := HD6.out x hx; omega))
            have HRS := Lib.hid (fun W => refSum_calls (bstr (catL sl)) W (by omega))
            clear hkk hal
            go_wp2_with fail
            refine HLE.out.mono ?_
            rintro r w2 ⟨g, cap, hL, rfl, hb2⟩
            have HB2 := Lib.hid (bl HB1.out hb2)
            have HI2 := Lib.hid (HI1.out.below hb2)
            have HL2 := Lib.hid hL
            clear hb2 hL
            go_wp2_with fail
            refine (open_calls b _ (by omega)).mono ?_
            rintro r w3 ⟨rfl, hb3⟩
            go_wp2_with fail
            refine (refOpen_calls b _ (by omega)).mono ?_
            rintro r w4 ⟨rfl, hb4⟩
            go_wp2_with fail
            refine (read_calls b _ (by omega)).mono ?_
            rintro r w5 ⟨rfl, hb5⟩
            go_wp2_with fail
            refine (refRead_calls b _ (by omega)).mono ?_
            rintro r w6 ⟨rfl, hb6⟩
            go_wp2_with fail
            refine (stamp_calls b 3100 _ (by omega)).mono ?_
            rintro r w7 ⟨rfl, hb7⟩
            go_wp2_with fail
            refine (refStamp_calls b 3100 _ (by omega) (by omega) (by omega)).mono ?_
            rintro r w8 ⟨rfl, hb8⟩
            go_wp2_with fail
            refine (sumAlive_calls _).mono ?_
            rintro r w9 ⟨rfl, hb9⟩
            have K9 := bl (bl (bl (bl (bl (bl hb3 hb4) hb5) hb6) hb7) hb8) hb9
            have HB9 := Lib.hid (bl HB2.out K9)
            have HI9 := Lib.hid (HI2.out.below K9)
            have HL9 := Lib.hid (HL2.out.below K9)
            clear hb3 hb4 hb5 hb6 hb7 hb8 hb9 K9
            go_wp2_with fail
            refine (HOF.out _ _ _ HL9.out.strs).mono ?_
            rintro r w10 ⟨rfl, rfl⟩
            go_wp2_with fail
            refine (HRS.out _).mono ?_
            rintro r w10 ⟨rfl, rfl⟩
            rw [bstr_toList]
            have HSE : Hid (∀ W, Calls Try.prog 36 #[.string b] W fun r w' => r = .returned (.string (bstr (seal4 b.data.toList ++ b.data.toList))) ∧ Below W.heap.size W w') := fun W => seal_calls b W (by omega)
            have HSR : Hid (∀ W, Calls Try.prog 37 #[.string b] W fun r w' => r = .returned (.string (bstr (seal4 b.data.toList ++ b.data.toList))) ∧ Below W.heap.size W w') := fun W => refSeal_calls b W (by omega)
            generalize bstr (seal4 b.data.toList ++ b.data.toList) = se at HSE HSR
            go_wp2_with fail
            refine (HSE.out _).mono ?_
            rintro r w10 ⟨rfl, hb10⟩
            go_wp2_with fail
            refine (HSR.out _).mono ?_
            rintro r w11 ⟨rfl, hb11⟩
            have K11 := bl hb10 hb11
            have HB11 := Lib.hid (bl HB9.out K11)
            have HST := Lib.hid (stays_calls A c g cap _ sl w11 (HI9.out.below K11) (HL9.out.below K11) hc (by omega))
            clear hb10 hb11 K11
            generalize openB b.data.toList = ob
            generalize readB b.data.toList = rb
            generalize stampB b.data.toList 3100 = st
            obtain ⟨ob1, ob2⟩ := ob
            obtain ⟨rb1, rb2⟩ := rb
            obtain ⟨st1, st2⟩ := st
            simp only
            generalize bstr ob1 = oo
            generalize bstr rb1 = rr
            generalize bstr st1 = ss
            clear HOF HRS HI9 HL9 HB9 HI2 HL2 HB2 HLE HSH HD6 HI1 HI HB1
            go_wp2_with fail
            refine HST.out.mono ?_
            rintro r w12 ⟨rfl, m, rfl⟩
            go_wp2
            go_ret
            exact ⟨rfl, HB11.out.trans ⟨rfl, rfl, rfl, Nat.le_refl _, fun _ _ => rfl⟩⟩
      · skip
        go_wp2_with fail
        go_loopw [7, 8] (fun s7 s8 wr => ∃ k : Nat, k ≤ sl.length ∧ s8 = .int .i64 k ∧ s7 = .string (bstr (catL (sl.take k))) ∧ (catL (sl.take k)).length ≤ 6000 * k ∧ w1 = wr) (fun _ s8 _ => sl.length - (intOf s8).toNat)
        case atStart => exact ⟨0, Nat.zero_le _, rfl, rfl, Nat.zero_le _, rfl⟩
        case round =>
          obtain ⟨k, hk, rfl, rfl, hal, rfl⟩ := hrel
          by_cases hlt : k < sl.length
          · obtain ⟨a, hA, c0⟩ := HI1.out k hlt
            subst hA
            have hds : sl[k].size ≤ 6000 := by have := HD6.out sl[k] (List.getElem_mem hlt); omega
            have hsn := catL_snoc sl k hlt
            generalize sl[k] = d at c0 hds hsn
            have HC : Hid (bstr (catL (sl.take k)) ++ d = bstr (catL (sl.take (k + 1)))) := by
              show _ = _
              rw [hsn]
              exact bapp _ d
            have HLN : Hid ((catL (sl.take (k + 1))).length ≤ 6000 * (k + 1)) := by
              show _ ≤ _
              rw [hsn, List.length_append, toList_length]
              omega
            have hsz : (bstr (catL (sl.take k))).size ≤ 6000 * k := hal
            have hfit : ¬ 9223372036854775807 < (bstr (catL (sl.take k))).size + d.size := by omega
            clear hsn hal
            go_wp2
            go_roundw
            case rel => exact ⟨k + 1, by omega, by go_num, congrArg Value.string HC.out, HLN.out, trivial⟩
            case measure => simp [intOf]; omega
          · have hkk : sl.take k = sl := List.take_of_length_le (by omega)
            rw [hkk] at hal ⊢
            have hal2 : (bstr (catL sl)).size ≤ 360000 := by rw [bstr_size]; have : 6000 * k ≤ 6000 * 60 := Nat.mul_le_mul_left _ (by omega); omega
            have HLE := Lib.hid (lent_calls A c sl w1 HI1.out hc (by omega))
            have HOF := Lib.hid (fun (A0 : Option Addr) (c0 : Nat) W h => of_calls A0 c0 sl W h (by omega) (fun x hx => by have := HD6.out x hx; omega))
            have HRS := Lib.hid (fun W => refSum_calls (bstr (catL sl)) W (by omega))
            clear hkk hal
            go_wp2_with fail
            refine HLE.out.mono ?_
            rintro r w2 ⟨g, cap, hL, rfl, hb2⟩
            have HB2 := Lib.hid (bl HB1.out hb2)
            have HI2 := Lib.hid (HI1.out.below hb2)
            have HL2 := Lib.hid hL
            clear hb2 hL
            go_wp2_with fail
            refine (open_calls b _ (by omega)).mono ?_
            rintro r w3 ⟨rfl, hb3⟩
            go_wp2_with fail
            refine (refOpen_calls b _ (by omega)).mono ?_
            rintro r w4 ⟨rfl, hb4⟩
            go_wp2_with fail
            refine (read_calls b _ (by omega)).mono ?_
            rintro r w5 ⟨rfl, hb5⟩
            go_wp2_with fail
            refine (refRead_calls b _ (by omega)).mono ?_
            rintro r w6 ⟨rfl, hb6⟩
            go_wp2_with fail
            refine (stamp_calls b n _ (by omega)).mono ?_
            rintro r w7 ⟨rfl, hb7⟩
            go_wp2_with fail
            refine (refStamp_calls b n _ (by omega) (by omega) (by omega)).mono ?_
            rintro r w8 ⟨rfl, hb8⟩
            go_wp2_with fail
            refine (sumAlive_calls _).mono ?_
            rintro r w9 ⟨rfl, hb9⟩
            have K9 := bl (bl (bl (bl (bl (bl hb3 hb4) hb5) hb6) hb7) hb8) hb9
            have HB9 := Lib.hid (bl HB2.out K9)
            have HI9 := Lib.hid (HI2.out.below K9)
            have HL9 := Lib.hid (HL2.out.below K9)
            clear hb3 hb4 hb5 hb6 hb7 hb8 hb9 K9
            go_wp2_with fail
            refine (HOF.out _ _ _ HL9.out.strs).mono ?_
            rintro r w10 ⟨rfl, rfl⟩
            go_wp2_with fail
            refine (HRS.out _).mono ?_
            rintro r w10 ⟨rfl, rfl⟩
            rw [bstr_toList]
            have HSE : Hid (∀ W, Calls Try.prog 36 #[.string b] W fun r w' => r = .returned (.string (bstr (seal4 b.data.toList ++ b.data.toList))) ∧ Below W.heap.size W w') := fun W => seal_calls b W (by omega)
            have HSR : Hid (∀ W, Calls Try.prog 37 #[.string b] W fun r w' => r = .returned (.string (bstr (seal4 b.data.toList ++ b.data.toList))) ∧ Below W.heap.size W w') := fun W => refSeal_calls b W (by omega)
            generalize bstr (seal4 b.data.toList ++ b.data.toList) = se at HSE HSR
            go_wp2_with fail
            refine (HSE.out _).mono ?_
            rintro r w10 ⟨rfl, hb10⟩
            go_wp2_with fail
            refine (HSR.out _).mono ?_
            rintro r w11 ⟨rfl, hb11⟩
            have K11 := bl hb10 hb11
            have HB11 := Lib.hid (bl HB9.out K11)
            have HST := Lib.hid (stays_calls A c g cap _ sl w11 (HI9.out.below K11) (HL9.out.below K11) hc (by omega))
            clear hb10 hb11 K11
            generalize openB b.data.toList = ob
            generalize readB b.data.toList = rb
            generalize stampB b.data.toList n = st
            obtain ⟨ob1, ob2⟩ := ob
            obtain ⟨rb1, rb2⟩ := rb
            obtain ⟨st1, st2⟩ := st
            simp only
            generalize bstr ob1 = oo
            generalize bstr rb1 = rr
            generalize bstr st1 = ss
            clear HOF HRS HI9 HL9 HB9 HI2 HL2 HB2 HLE HSH HD6 HI1 HI HB1
            go_wp2_with fail
            refine HST.out.mono ?_
            rintro r w12 ⟨rfl, m, rfl⟩
            go_wp2
            go_ret
            exact ⟨rfl, HB11.out.trans ⟨rfl, rfl, rfl, Nat.le_refl _, fun _ _ => rfl⟩⟩
    · skip
      go_wp2_with fail
      go_loopw [7, 8] (fun s7 s8 wr => ∃ k : Nat, k ≤ sl.length ∧ s8 = .int .i64 k ∧ s7 = .string (bstr (catL (sl.take k))) ∧ (catL (sl.take k)).length ≤ 6000 * k ∧ w1 = wr) (fun _ s8 _ => sl.length - (intOf s8).toNat)
      case atStart => exact ⟨0, Nat.zero_le _, rfl, rfl, Nat.zero_le _, rfl⟩
      case round =>
        obtain ⟨k, hk, rfl, rfl, hal, rfl⟩ := hrel
        by_cases hlt : k < sl.length
        · obtain ⟨a, hA, c0⟩ := HI1.out k hlt
          subst hA
          have hds : sl[k].size ≤ 6000 := by have := HD6.out sl[k] (List.getElem_mem hlt); omega
          have hsn := catL_snoc sl k hlt
          generalize sl[k] = d at c0 hds hsn
          have HC : Hid (bstr (catL (sl.take k)) ++ d = bstr (catL (sl.take (k + 1)))) := by
            show _ = _
            rw [hsn]
            exact bapp _ d
          have HLN : Hid ((catL (sl.take (k + 1))).length ≤ 6000 * (k + 1)) := by
            show _ ≤ _
            rw [hsn, List.length_append, toList_length]
            omega
          have hsz : (bstr (catL (sl.take k))).size ≤ 6000 * k := hal
          have hfit : ¬ 9223372036854775807 < (bstr (catL (sl.take k))).size + d.size := by omega
          clear hsn hal
          go_wp2
          go_roundw
          case rel => exact ⟨k + 1, by omega, by go_num, congrArg Value.string HC.out, HLN.out, trivial⟩
          case measure => simp [intOf]; omega
        · have hkk : sl.take k = sl := List.take_of_length_le (by omega)
          rw [hkk] at hal ⊢
          have hal2 : (bstr (catL sl)).size ≤ 360000 := by rw [bstr_size]; have : 6000 * k ≤ 6000 * 60 := Nat.mul_le_mul_left _ (by omega); omega
          have HLE := Lib.hid (lent_calls A c sl w1 HI1.out hc (by omega))
          have HOF := Lib.hid (fun (A0 : Option Addr) (c0 : Nat) W h => of_calls A0 c0 sl W h (by omega) (fun x hx => by have := HD6.out x hx; omega))
          have HRS := Lib.hid (fun W => refSum_calls (bstr (catL sl)) W (by omega))
          clear hkk hal
          go_wp2_with fail
          refine HLE.out.mono ?_
          rintro r w2 ⟨g, cap, hL, rfl, hb2⟩
          have HB2 := Lib.hid (bl HB1.out hb2)
          have HI2 := Lib.hid (HI1.out.below hb2)
          have HL2 := Lib.hid hL
          clear hb2 hL
          go_wp2_with fail
          refine (open_calls b _ (by omega)).mono ?_
          rintro r w3 ⟨rfl, hb3⟩
          go_wp2_with fail
          refine (refOpen_calls b _ (by omega)).mono ?_
          rintro r w4 ⟨rfl, hb4⟩
          go_wp2_with fail
          refine (read_calls b _ (by omega)).mono ?_
          rintro r w5 ⟨rfl, hb5⟩
          go_wp2_with fail
          refine (refRead_calls b _ (by omega)).mono ?_
          rintro r w6 ⟨rfl, hb6⟩
          go_wp2_with fail
          refine (stamp_calls b n _ (by omega)).mono ?_
          rintro r w7 ⟨rfl, hb7⟩
          go_wp2_with fail
          refine (refStamp_calls b n _ (by omega) (by omega) (by omega)).mono ?_
          rintro r w8 ⟨rfl, hb8⟩
          go_wp2_with fail
          refine (sumAlive_calls _).mono ?_
          rintro r w9 ⟨rfl, hb9⟩
          have K9 := bl (bl (bl (bl (bl (bl hb3 hb4) hb5) hb6) hb7) hb8) hb9
          have HB9 := Lib.hid (bl HB2.out K9)
          have HI9 := Lib.hid (HI2.out.below K9)
          have HL9 := Lib.hid (HL2.out.below K9)
          clear hb3 hb4 hb5 hb6 hb7 hb8 hb9 K9
          go_wp2_with fail
          refine (HOF.out _ _ _ HL9.out.strs).mono ?_
          rintro r w10 ⟨rfl, rfl⟩
          go_wp2_with fail
          refine (HRS.out _).mono ?_
          rintro r w10 ⟨rfl, rfl⟩
          rw [bstr_toList]
          have HSE : Hid (∀ W, Calls Try.prog 36 #[.string b] W fun r w' => r = .returned (.string (bstr (seal4 b.data.toList ++ b.data.toList))) ∧ Below W.heap.size W w') := fun W => seal_calls b W (by omega)
          have HSR : Hid (∀ W, Calls Try.prog 37 #[.string b] W fun r w' => r = .returned (.string (bstr (seal4 b.data.toList ++ b.data.toList))) ∧ Below W.heap.size W w') := fun W => refSeal_calls b W (by omega)
          generalize bstr (seal4 b.data.toList ++ b.data.toList) = se at HSE HSR
          go_wp2_with fail
          refine (HSE.out _).mono ?_
          rintro r w10 ⟨rfl, hb10⟩
          go_wp2_with fail
          refine (HSR.out _).mono ?_
          rintro r w11 ⟨rfl, hb11⟩
          have K11 := bl hb10 hb11
          have HB11 := Lib.hid (bl HB9.out K11)
          have HST := Lib.hid (stays_calls A c g cap _ sl w11 (HI9.out.below K11) (HL9.out.below K11) hc (by omega))
          clear hb10 hb11 K11
          generalize openB b.data.toList = ob
          generalize readB b.data.toList = rb
          generalize stampB b.data.toList n = st
          obtain ⟨ob1, ob2⟩ := ob
          obtain ⟨rb1, rb2⟩ := rb
          obtain ⟨st1, st2⟩ := st
          simp only
          generalize bstr ob1 = oo
          generalize bstr rb1 = rr
          generalize bstr st1 = ss
          clear HOF HRS HI9 HL9 HB9 HI2 HL2 HB2 HLE HSH HD6 HI1 HI HB1
          go_wp2_with fail
          refine HST.out.mono ?_
          rintro r w12 ⟨rfl, m, rfl⟩
          go_wp2
          go_ret
          exact ⟨rfl, HB11.out.trans ⟨rfl, rfl, rfl, Nat.le_refl _, fun _ _ => rfl⟩⟩

end Go.Proofs.Ytpbmclaglkcmoaa
