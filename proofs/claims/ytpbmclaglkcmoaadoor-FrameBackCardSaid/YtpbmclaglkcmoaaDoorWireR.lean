import Derived.Test.YtpbmclaglkcmoaaDoorWire
namespace Go.Proofs.YtpbmclaglkcmoaaDoor
open Go.RowKit
set_option linter.unusedVariables false
set_option linter.unusedSimpArgs false

/-! wire.Writer: Pad as one; wire.Reader: Count, Int, Text, Flag, Skip, End. -/

theorem pad_calls (F : Nat → Prop) (b : Nat) (s : List UInt8 × Int) (n : Int) (w : World) (h : Wr F b s.1 s.2 w) :
    Calls Tryd.prog 29 #[.pointer (some ⟨b, 0, none⟩), .int .i64 n] w fun r w' => r = .returned (.pointer (some ⟨b, 0, none⟩)) ∧ Wr (fun k => F k ∨ w.heap.size ≤ k) b (padW s n).1 (padW s n).2 w' ∧ KeptF F w w' := by
  obtain ⟨bs, err⟩ := s
  by_cases hf : failErr err (padE (bs, err) n) = 0
  · obtain ⟨h1, h2⟩ := failErr_zero hf
    have hp : padW (bs, err) n = (bs ++ List.replicate (n.toNat - bs.length) 0, 0) := by unfold padW; rw [if_pos hf]
    rw [hp]
    simp only at h h1
    subst h1
    unfold padE at h2
    refine pad_ok F b bs n w h ?_ ?_
    · split at h2 <;> omega
    · split at h2
      · cases h2
      · split at h2
        · cases h2
        · rename_i h4
          have h5 : ¬ n < (bs.length : Int) := h4
          omega
  · have hp : padW (bs, err) n = (bs, failErr err (padE (bs, err) n)) := by unfold padW; rw [if_neg hf]
    rw [hp]
    refine (pad_fails F b bs err n w h hf).mono ?_
    rintro r w' ⟨h1, h2, h3⟩
    exact ⟨h1, h2.mono (fun k hk => .inl hk), h3⟩

/-! A nil writer. -/
theorem num_nil (v n : Int) (w : World) : Calls Tryd.prog 16 #[.pointer none, .int .u64 v, .int .i64 n] w fun r w' => r = .returned (.pointer none) ∧ w = w' := by
  go_enter Tryd.func16, Tryd.ntmps16
  go_wp2
  go_ret
  exact ⟨rfl, rfl⟩
theorem text_nil (s : ByteArray) (n : Int) (w : World) : Calls Tryd.prog 25 #[.pointer none, .string s, .int .i64 n] w fun r w' => r = .returned (.pointer none) ∧ w = w' := by
  go_enter Tryd.func25, Tryd.ntmps25
  go_wp2
  go_ret
  exact ⟨rfl, rfl⟩
theorem pad_nil (n : Int) (w : World) : Calls Tryd.prog 29 #[.pointer none, .int .i64 n] w fun r w' => r = .returned (.pointer none) ∧ w = w' := by
  go_enter Tryd.func29, Tryd.ntmps29
  go_wp2
  go_ret
  exact ⟨rfl, rfl⟩
theorem bytes_nil (w : World) : Calls Tryd.prog 17 #[.pointer none] w fun r w' => r = .returned (.tuple #[.string { data := #[] }, .int .i64 1]) ∧ w = w' := by
  go_enter Tryd.func17, Tryd.ntmps17
  go_wp2
  go_ret2
  exact ⟨rfl, rfl⟩

/-! wire.Reader -/
theorem clone_callsW (s : ByteArray) (w : World) (hs : s.size ≤ 281474976710656) :
    Calls Tryd.prog 62 #[.string s] w fun r w' => r = .returned (.string s) ∧ Below w.heap.size w w' := by
  go_enter Tryd.func62, Tryd.ntmps62
  go_wp2_with fail
  refine (Tryd.stringslite_Clone s _ hs).mono ?_
  rintro e w2 ⟨rfl, hb⟩
  go_wp2
  go_ret
  exact ⟨rfl, hb⟩

theorem newReader_calls (s : ByteArray) (w : World) (hs : s.size ≤ 281474976710656) :
    Calls Tryd.prog 18 #[.string s] w fun r w' => ∃ b : Nat, r = .returned (.pointer (some ⟨b, 0, none⟩)) ∧ w.heap.size ≤ b ∧ Rd b s.data.toList 0 w' ∧ Below w.heap.size w w' := by
  go_enter Tryd.func18, Tryd.ntmps18
  go_wp2_with fail
  refine (clone_callsW s _ hs).mono ?_
  rintro r w1 ⟨rfl, hb1⟩
  go_wp2
  go_ret
  refine ⟨w1.heap.size, rfl, hb1.size, ?_, al hb1 _⟩
  exact heap_alloc_new w1 _

set_option maxHeartbeats 1000000 in
theorem take_calls2 (b : Nat) (l : List UInt8) (err : Int) (n : Nat) (w : World) (h : Rd b l err w) (hn : n ≤ 9223372036854775807) :
    Calls Tryd.prog 72 #[.pointer (some ⟨b, 0, none⟩), .int .i64 n] w fun r w' => r = .returned (.string (bstr (takeR l err n).1)) ∧ Rd b (takeR l err n).2.1 (takeR l err n).2.2 w' ∧ KeptB b w w' := by
  by_cases he : err = 0
  · subst he
    by_cases hs : l.length < n
    · have ht : takeR l 0 n = ([], l, 5) := by simp [takeR, hs]
      have HT := Lib.hid ht
      have HH := Lib.hid h
      obtain ⟨c0, c1, f0, f1⟩ := h.cells
      have hsz : (bstr l).size < n := hs
      clear h ht
      go_enter Tryd.func72, Tryd.ntmps72
      go_wp2_with fail
      refine (rerr_calls b l 0 _ HH.out).mono ?_
      rintro e w1 ⟨rfl, rfl⟩
      go_wp2_with fail
      refine (rfail_calls b l 0 5 _ HH.out).mono ?_
      rintro e w1 ⟨rfl, h1, k1⟩
      go_wp2
      go_ret
      rw [HT.out]
      exact ⟨rfl, h1, k1⟩
    · have ht : takeR l 0 n = (l.take n, l.drop n, 0) := by simp [takeR, hs]
      have HT := Lib.hid ht
      have HH := Lib.hid h
      obtain ⟨c0, c1, f0, f1⟩ := h.cells
      have hsz : n ≤ (bstr l).size := by rw [bstr_size]; omega
      have hsz2 : (n : Int) ≤ ((bstr l).size : Int) := by omega
      have H1 := Lib.hid (h.set0 ((bstr l).extract n (bstr l).size))
      clear h ht
      go_enter Tryd.func72, Tryd.ntmps72
      go_wp2_with fail
      refine (rerr_calls b l 0 _ HH.out).mono ?_
      rintro e w1 ⟨rfl, rfl⟩
      go_wp2
      go_ret
      rw [HT.out]
      refine ⟨?_, ?_, KeptB.set _ _ _ _⟩
      · have := bstr_eq _ _ (ext_take (bstr l) n)
        rw [bstr_toList] at this
        exact congrArg (fun x => Ending.returned (Value.string x)) this
      · have := H1.out
        rw [ext_drop, bstr_toList] at this
        exact this
  · have ht : takeR l err n = ([], l, err) := by simp [takeR, he]
    have he2 : (err != 0) = true := bne_iff_ne.2 he
    have HT := Lib.hid ht
    have HH := Lib.hid h
    clear h ht
    go_enter Tryd.func72, Tryd.ntmps72
    go_wp2_with fail
    refine (rerr_calls b l err _ HH.out).mono ?_
    rintro e w1 ⟨rfl, rfl⟩
    go_wp2
    go_ret
    rw [HT.out]
    exact ⟨rfl, HH.out, KeptF.refl _ w⟩


/-- Int. -/
theorem rint_calls (b : Nat) (l : List UInt8) (err : Int) (w : World) (h : Rd b l err w) :
    Calls Tryd.prog 45 #[.pointer (some ⟨b, 0, none⟩)] w fun r w' => r = .returned (.int .i64 (wrap64 (rnumR l err 8).1)) ∧ Rd b (rnumR l err 8).2.1 (rnumR l err 8).2.2 w' ∧ KeptB b w w' := by
  have HH := Lib.hid h
  clear h
  go_enter Tryd.func45, Tryd.ntmps45
  go_wp2_with fail
  refine (rnum_calls b l err 8 _ HH.out).mono ?_
  rintro e w1 ⟨rfl, h1, k1⟩
  go_wp2
  go_ret
  exact ⟨rfl, h1, k1⟩

/-- Count: what it tells, and what is left. -/
def countR (l : List UInt8) (err most : Int) : Nat × List UInt8 × Int :=
  if (rnumR l err 2).2.2 = 0 ∧ most < ((rnumR l err 2).1 : Int) then (0, (rnumR l err 2).2.1, 2) else rnumR l err 2

theorem rnum2_lt (l : List UInt8) (err : Int) : (rnumR l err 2).1 < 65536 := by
  unfold rnumR
  rw [if_neg (by omega)]
  have h1 := takeR_len l err (2 : Int).toNat
  have h2 := leV_lt (takeR l err (2 : Int).toNat).1
  have h3 : (256 : Nat) ^ (takeR l err (2 : Int).toNat).1.length ≤ 256 ^ 2 := Nat.pow_le_pow_right (by decide) h1
  show leV (takeR l err (2 : Int).toNat).1 < 65536
  omega

set_option maxHeartbeats 1000000 in
theorem rcount_calls (b : Nat) (l : List UInt8) (err most : Int) (w : World) (h : Rd b l err w) :
    Calls Tryd.prog 19 #[.pointer (some ⟨b, 0, none⟩), .int .i64 most] w fun r w' => r = .returned (.int .i64 ((countR l err most).1 : Nat)) ∧ Rd b (countR l err most).2.1 (countR l err most).2.2 w' ∧ KeptB b w w' := by
  have hlt := rnum2_lt l err
  have HN : Hid (∀ W, Rd b l err W → _) := fun W hW => rnum_calls b l err 2 W hW
  have HC : Hid (countR l err most = if (rnumR l err 2).2.2 = 0 ∧ most < ((rnumR l err 2).1 : Int) then (0, (rnumR l err 2).2.1, 2) else rnumR l err 2) := rfl
  generalize rnumR l err 2 = t at hlt HN HC
  obtain ⟨n, l', e'⟩ := t
  simp only at hlt
  have hwn : wrap64 (n : Int) = n := by unfold wrap64; omega
  have HWN := Lib.hid hwn
  have HH := Lib.hid h
  have hn0 : (0 : Int) ≤ (n : Int) := Int.natCast_nonneg _
  clear h hwn
  by_cases he : e' = 0
  · subst he
    by_cases hm : most < (n : Int)
    · have HC2 : Hid (countR l err most = (0, l', 2)) := by
        show _ = _
        rw [HC.out, if_pos ⟨rfl, hm⟩]
      go_enter Tryd.func19, Tryd.ntmps19
      go_wp2_with fail
      refine (HN.out _ HH.out).mono ?_
      rintro e w1 ⟨rfl, h1, k1⟩
      have H1 := Lib.hid h1
      have K1 := Lib.hid k1
      clear h1 k1
      go_wp2_with fail
      refine (rerr_calls b l' 0 _ H1.out).mono ?_
      rintro e w2 ⟨rfl, rfl⟩
      go_wp2_with fail
      refine (rfail_calls b l' 0 2 _ H1.out).mono ?_
      rintro e w2 ⟨rfl, h2, k2⟩
      go_wp2
      go_ret
      rw [HC2.out]
      exact ⟨rfl, h2, K1.out.trans (k2.mono (fun k _ hk => .inl hk))⟩
    · have HC2 : Hid (countR l err most = (n, l', 0)) := by
        show _ = _
        rw [HC.out, if_neg (fun h => hm h.2)]
      go_enter Tryd.func19, Tryd.ntmps19
      go_wp2_with fail
      refine (HN.out _ HH.out).mono ?_
      rintro e w1 ⟨rfl, h1, k1⟩
      have H1 := Lib.hid h1
      have K1 := Lib.hid k1
      clear h1 k1
      go_wp2_with fail
      refine (rerr_calls b l' 0 _ H1.out).mono ?_
      rintro e w2 ⟨rfl, rfl⟩
      go_wp2
      go_ret
      rw [HC2.out]
      exact ⟨rfl, H1.out, K1.out⟩
  · have HC2 : Hid (countR l err most = (n, l', e')) := by
      show _ = _
      rw [HC.out, if_neg (fun h => he h.1)]
    have he1 : (e' == 0) = false := beq_eq_false_iff_ne.2 he
    clear he
    go_enter Tryd.func19, Tryd.ntmps19
    go_wp2_with fail
    refine (HN.out _ HH.out).mono ?_
    rintro e w1 ⟨rfl, h1, k1⟩
    have H1 := Lib.hid h1
    have K1 := Lib.hid k1
    clear h1 k1
    go_wp2_with fail
    refine (rerr_calls b l' e' _ H1.out).mono ?_
    rintro e w2 ⟨rfl, rfl⟩
    go_wp2
    go_ret
    rw [HC2.out]
    exact ⟨rfl, H1.out, K1.out⟩

/-- Flag: what it tells, and what is left. -/
def flagR (l : List UInt8) (err : Int) : Bool × List UInt8 × Int :=
  ((rnumR l err 1).1 == 1, (rnumR l err 1).2.1, if 1 < (rnumR l err 1).1 then failErr (rnumR l err 1).2.2 4 else (rnumR l err 1).2.2)

set_option maxHeartbeats 1000000 in
theorem rflag_calls (b : Nat) (l : List UInt8) (err : Int) (w : World) (h : Rd b l err w) :
    Calls Tryd.prog 48 #[.pointer (some ⟨b, 0, none⟩)] w fun r w' => r = .returned (.bool (flagR l err).1) ∧ Rd b (flagR l err).2.1 (flagR l err).2.2 w' ∧ KeptB b w w' := by
  have HN : Hid (∀ W, Rd b l err W → _) := fun W hW => rnum_calls b l err 1 W hW
  have HC : Hid (flagR l err = ((rnumR l err 1).1 == 1, (rnumR l err 1).2.1, if 1 < (rnumR l err 1).1 then failErr (rnumR l err 1).2.2 4 else (rnumR l err 1).2.2)) := rfl
  generalize rnumR l err 1 = t at HN HC
  obtain ⟨n, l', e'⟩ := t
  have HH := Lib.hid h
  clear h
  by_cases hm : 1 < n
  · have hni : (1 : Int) < (n : Int) := by omega
    have HC2 : Hid (flagR l err = (false, l', failErr e' 4)) := by
      show _ = _
      rw [HC.out]
      simp only [if_pos hm]
      congr 1
      exact beq_eq_false_iff_ne.2 (by omega)
    have hne : ((n : Int) == 1) = false := beq_eq_false_iff_ne.2 (by omega)
    have HNE := Lib.hid hne
    clear hne
    go_enter Tryd.func48, Tryd.ntmps48
    go_wp2_with fail
    refine (HN.out _ HH.out).mono ?_
    rintro e w1 ⟨rfl, h1, k1⟩
    have H1 := Lib.hid h1
    have K1 := Lib.hid k1
    clear h1 k1
    go_wp2_with fail
    refine (rfail_calls b l' e' 4 _ H1.out).mono ?_
    rintro e w2 ⟨rfl, h2, k2⟩
    have H2 := Lib.hid h2
    have K2 := Lib.hid k2
    clear h2 k2
    go_wp2
    go_ret
    rw [HC2.out]
    exact ⟨by simpa using HNE.out, H2.out, K1.out.trans (K2.out.mono (fun k _ hk => .inl hk))⟩
  · have hni : ¬ (1 : Int) < (n : Int) := by omega
    have HC2 : Hid (flagR l err = (n == 1, l', e')) := by
      show _ = _
      rw [HC.out]
      simp only [if_neg hm]
    go_enter Tryd.func48, Tryd.ntmps48
    go_wp2_with fail
    refine (HN.out _ HH.out).mono ?_
    rintro e w1 ⟨rfl, h1, k1⟩
    have H1 := Lib.hid h1
    have K1 := Lib.hid k1
    clear h1 k1
    go_wp2
    go_ret
    rw [HC2.out]
    refine ⟨?_, H1.out, K1.out⟩
    congr 2
    by_cases e : n = 1
    · subst e; rfl
    · have h2 : ((n : Int) == 1) = false := beq_eq_false_iff_ne.2 (by omega)
      have h3 : (n == 1) = false := beq_eq_false_iff_ne.2 e
      rw [h3]
      exact congrArg Value.bool h2

/-- Text: what it tells, and what is left. -/
def rtextR (l : List UInt8) (err room : Int) : List UInt8 × List UInt8 × Int :=
  if wrongR room ≠ 0 then ([], l, failErr err 1) else takeR (countR l err room).2.1 (countR l err room).2.2 (countR l err room).1

theorem count_lt (l : List UInt8) (err most : Int) : (countR l err most).1 < 65536 := by
  unfold countR
  split
  · show 0 < 65536
    decide
  · exact rnum2_lt l err

theorem take_size (l : List UInt8) (err : Int) (n : Nat) : (takeR l err n).1.length ≤ l.length := by
  unfold takeR
  split
  · simp
  · split
    · simp
    · simp; omega

set_option maxHeartbeats 1000000 in
theorem rtext_calls (b : Nat) (l : List UInt8) (err room : Int) (w : World) (h : Rd b l err w) :
    Calls Tryd.prog 46 #[.pointer (some ⟨b, 0, none⟩), .int .i64 room] w fun r w' => r = .returned (.string (bstr (rtextR l err room).1)) ∧ Rd b (rtextR l err room).2.1 (rtextR l err room).2.2 w' ∧ KeptB b w w' := by
  have HH := Lib.hid h
  clear h
  by_cases hw : wrongR room = 0
  · have HW := Lib.hid hw
    have HN : Hid (∀ W, Rd b l err W → _) := fun W hW => rcount_calls b l err room W hW
    have HD : Hid (rtextR l err room = takeR (countR l err room).2.1 (countR l err room).2.2 (countR l err room).1) := by
      show _ = _
      unfold rtextR
      rw [if_neg (by simpa using hw)]
    have hlt := count_lt l err room
    clear hw
    generalize countR l err room = t at HN HD hlt
    obtain ⟨n, l', e'⟩ := t
    simp only at hlt
    have HT : Hid (∀ W, Rd b l' e' W → _) := fun W hW => take_calls2 b l' e' n W hW (by omega)
    have hts := takeR_len l' e' n
    simp only at HD
    generalize takeR l' e' n = t2 at HT HD hts
    obtain ⟨x, l2, e2⟩ := t2
    simp only at hts
    go_enter Tryd.func46, Tryd.ntmps46
    go_wp2_with fail
    refine (wrongRoom_calls room _).mono ?_
    rintro e w1 ⟨rfl, rfl⟩
    rw [HW.out]
    go_wp2_with fail
    refine (HN.out _ HH.out).mono ?_
    rintro e w1 ⟨rfl, h1, k1⟩
    have H1 := Lib.hid h1
    have K1 := Lib.hid k1
    clear h1 k1
    go_wp2_with fail
    refine (HT.out _ H1.out).mono ?_
    rintro e w2 ⟨rfl, h2, k2⟩
    have H2 := Lib.hid h2
    have K2 := Lib.hid k2
    clear h2 k2
    go_wp2_with fail
    refine (clone_callsW (bstr x) _ (by rw [bstr_size]; omega)).mono ?_
    rintro e w3 ⟨rfl, h3⟩
    go_wp2
    go_ret
    rw [HD.out]
    exact ⟨rfl, H2.out.below h3, (K1.out.trans (K2.out.mono (fun k _ hk => .inl hk))).trans (KeptF.ofBelow h3 |>.mono (fun k _ hk => Or.inr (by omega)))⟩
  · have HD : Hid (rtextR l err room = ([], l, failErr err 1)) := by
      show _ = _
      unfold rtextR
      rw [if_pos hw]
    have hw1 : wrongR room = 1 := by
      unfold wrongR at hw ⊢
      split
      · rfl
      · rename_i h; rw [if_neg h] at hw; exact absurd rfl hw
    have HW := Lib.hid hw1
    clear hw hw1
    go_enter Tryd.func46, Tryd.ntmps46
    go_wp2_with fail
    refine (wrongRoom_calls room _).mono ?_
    rintro e w1 ⟨rfl, rfl⟩
    rw [HW.out]
    go_wp2_with fail
    refine (rfail_calls b l err 1 _ HH.out).mono ?_
    rintro e w1 ⟨rfl, h1, k1⟩
    go_wp2
    go_ret
    rw [HD.out]
    exact ⟨rfl, h1, k1⟩

/-- Are they bytes 0 all? -/
def allZ (l : List UInt8) : Bool := l.all (· == 0)

theorem dropW_nil (p : UInt8 → Bool) : ∀ l : List UInt8, l.dropWhile p = [] ↔ ∀ x ∈ l, p x = true
  | [] => by simp
  | c :: l => by
    rw [List.dropWhile_cons]
    split
    · rename_i h
      rw [dropW_nil p l]
      simp [h]
    · rename_i h
      simp [h]

theorem trimB_zero (l : List UInt8) : (Lib.trimB l 0).isEmpty = allZ l := by
  have key : Lib.trimB l 0 = [] ↔ ∀ x ∈ l, (x == 0) = true := by
    unfold Lib.trimB Lib.trimLeftB Lib.trimRightB
    rw [dropW_nil]
    constructor
    · intro h
      have hnil : l.reverse.dropWhile (· == 0) = [] := by
        cases hd : l.reverse.dropWhile (· == 0) with
        | nil => rfl
        | cons x xs =>
          exfalso
          have h1 := List.head?_dropWhile_not (fun c : UInt8 => c == 0) l.reverse
          rw [hd] at h1
          simp only [List.head?_cons] at h1
          have h2 := h x (by rw [hd]; simp)
          rw [h1] at h2
          cases h2
      rw [dropW_nil] at hnil
      intro x hx
      exact hnil x (by simpa using hx)
    · intro h x hx
      have hnil : l.reverse.dropWhile (· == 0) = [] := (dropW_nil _ _).2 (fun y hy => h y (by simpa using hy))
      rw [hnil] at hx
      simp at hx
  rw [Bool.eq_iff_iff, List.isEmpty_iff, key, allZ, List.all_eq_true]

private theorem KeptF.drewN {F : Nat → Prop} {a w : World} (h : KeptF F a w) (m : Nat) : KeptF F a (w.drewN m) := ⟨h.os, h.tape, h.output, h.size, h.block⟩

set_option maxHeartbeats 1000000 in
theorem trim_calls (s : ByteArray) (w : World) (hs : s.size ≤ 9223372036854775807) :
    Calls Tryd.prog 64 #[.string s, .string { data := #[0] }] w fun r w' => ∃ x : ByteArray, r = .returned (.string x) ∧ x.toList.isEmpty = allZ s.data.toList ∧ ∃ m, w' = w.drewN m := by
  refine (Tryd.strings_Trim_one s 0 (by decide) w hs).mono ?_
  rintro r w' ⟨rfl, h⟩
  refine ⟨_, rfl, ?_, ?_⟩
  · rw [← trimB_zero]
    rw [Lib.toList_data]
  · rcases h with rfl | rfl
    · exact ⟨0, rfl⟩
    · exact ⟨1, rfl⟩

/-- Skip: what is left. -/
def skipR (l : List UInt8) (err n : Int) : List UInt8 × Int :=
  if n < 0 then (l, failErr err 1) else ((takeR l err n.toNat).2.1, if allZ (takeR l err n.toNat).1 then (takeR l err n.toNat).2.2 else failErr (takeR l err n.toNat).2.2 4)

set_option maxHeartbeats 1000000 in
theorem rskip_calls (b : Nat) (l : List UInt8) (err n : Int) (w : World) (h : Rd b l err w) (hn : n ≤ 9223372036854775807) (hl : l.length ≤ 9223372036854775807) :
    Calls Tryd.prog 50 #[.pointer (some ⟨b, 0, none⟩), .int .i64 n] w fun r w' => r = .returned (.tuple #[]) ∧ Rd b (skipR l err n).1 (skipR l err n).2 w' ∧ KeptB b w w' := by
  have HH := Lib.hid h
  clear h
  by_cases h0 : n < 0
  · have HD : Hid (skipR l err n = (l, failErr err 1)) := by show _ = _; unfold skipR; rw [if_pos h0]
    go_enter Tryd.func50, Tryd.ntmps50
    go_wp2_with fail
    refine (rfail_calls b l err 1 _ HH.out).mono ?_
    rintro e w1 ⟨rfl, h1, k1⟩
    go_wp2
    refine bodyPost_ret (results_none rfl _ _ _) rfl ?_
    rw [HD.out]
    exact ⟨rfl, h1, k1⟩
  · obtain ⟨k, rfl⟩ := Int.eq_ofNat_of_zero_le (show 0 ≤ n by omega)
    have HD : Hid (skipR l err k = ((takeR l err k).2.1, if allZ (takeR l err k).1 then (takeR l err k).2.2 else failErr (takeR l err k).2.2 4)) := by
      show _ = _
      unfold skipR
      rw [if_neg h0]
      rfl
    have HT : Hid (∀ W, Rd b l err W → _) := fun W hW => take_calls2 b l err k W hW (by omega)
    have hts := take_size l err k
    generalize takeR l err k = t at HT HD hts
    obtain ⟨x, l', e'⟩ := t
    simp only at hts HD
    go_enter Tryd.func50, Tryd.ntmps50
    go_wp2_with fail
    refine (HT.out _ HH.out).mono ?_
    rintro e w1 ⟨rfl, h1, k1⟩
    have H1 := Lib.hid h1
    have K1 := Lib.hid k1
    clear h1 k1
    go_wp2_with fail
    refine (trim_calls (bstr x) _ (by rw [bstr_size]; omega)).mono ?_
    rintro e w2 ⟨y, rfl, hy, m, rfl⟩
    rw [bstr_toList] at hy
    cases hz : allZ x with
    | true =>
      rw [hz] at hy HD
      have HD2 : Hid (skipR l err k = (l', e')) := HD
      clear hz HD
      go_wp2
      go_end0
      rw [HD2.out]
      exact ⟨rfl, H1.out, K1.out.drewN m⟩
    | false =>
      rw [hz] at hy HD
      have HD2 : Hid (skipR l err k = (l', failErr e' 4)) := HD
      clear hz HD
      go_wp2_with fail
      refine (rfail_calls b l' e' 4 _ (show Rd b l' e' (w1.drewN m) from H1.out)).mono ?_
      rintro e w3 ⟨rfl, h1, k1⟩
      go_wp2
      go_end0
      rw [HD2.out]
      exact ⟨rfl, h1, (K1.out.drewN m).trans (k1.mono (fun k _ hk => .inl hk))⟩

/-- End: what it tells. -/
def endR (l : List UInt8) (err : Int) : Int := if err ≠ 0 then err else if allZ l then 0 else 4

set_option maxHeartbeats 1000000 in
theorem rend_calls (b : Nat) (l : List UInt8) (err : Int) (w : World) (h : Rd b l err w) (hl : l.length ≤ 9223372036854775807) :
    Calls Tryd.prog 21 #[.pointer (some ⟨b, 0, none⟩)] w fun r w' => r = .returned (.int .i64 (endR l err)) ∧ ∃ m, w' = w.drewN m := by
  have HH := Lib.hid h
  by_cases he : err = 0
  · subst he
    obtain ⟨c0, c1, f0, f1⟩ := h.cells
    clear h
    cases hz : allZ l with
    | true =>
      have HD : Hid (endR l 0 = 0) := by show _ = _; unfold endR; rw [if_neg (by simp), if_pos hz]
      go_enter Tryd.func21, Tryd.ntmps21
      go_wp2_with fail
      refine (rerr_calls b l 0 _ HH.out).mono ?_
      rintro e w1 ⟨rfl, rfl⟩
      go_wp2_with fail
      refine (trim_calls (bstr l) _ (by rw [bstr_size]; omega)).mono ?_
      rintro e w2 ⟨y, rfl, hy, m, rfl⟩
      rw [bstr_toList, hz] at hy
      clear hz
      go_wp2
      go_ret
      rw [HD.out]
      exact ⟨rfl, m, rfl⟩
    | false =>
      have HD : Hid (endR l 0 = 4) := by show _ = _; unfold endR; rw [if_neg (by simp), if_neg (by rw [hz]; simp)]
      go_enter Tryd.func21, Tryd.ntmps21
      go_wp2_with fail
      refine (rerr_calls b l 0 _ HH.out).mono ?_
      rintro e w1 ⟨rfl, rfl⟩
      go_wp2_with fail
      refine (trim_calls (bstr l) _ (by rw [bstr_size]; omega)).mono ?_
      rintro e w2 ⟨y, rfl, hy, m, rfl⟩
      rw [bstr_toList, hz] at hy
      clear hz
      go_wp2
      go_ret
      rw [HD.out]
      exact ⟨rfl, m, rfl⟩
  · have he1 : (err != 0) = true := bne_iff_ne.2 he
    have HD : Hid (endR l err = err) := by show _ = _; unfold endR; rw [if_pos he]
    clear h he
    go_enter Tryd.func21, Tryd.ntmps21
    go_wp2_with fail
    refine (rerr_calls b l err _ HH.out).mono ?_
    rintro e w1 ⟨rfl, rfl⟩
    go_wp2
    go_ret
    rw [HD.out]
    exact ⟨rfl, 0, rfl⟩

/-! A nil reader. -/
theorem rerr_nil (w : World) : Calls Tryd.prog 20 #[.pointer none] w fun r w' => r = .returned (.int .i64 1) ∧ w = w' := by
  go_enter Tryd.func20, Tryd.ntmps20
  go_wp2
  go_ret
  exact ⟨rfl, rfl⟩
theorem rfail_nil (e : Int) (w : World) : Calls Tryd.prog 63 #[.pointer none, .int .i64 e] w fun r w' => r = .returned (.tuple #[]) ∧ w = w' := by
  go_enter Tryd.func63, Tryd.ntmps63
  go_wp2
  go_end0
  exact ⟨rfl, rfl⟩
theorem rtake_nil (n : Int) (w : World) : Calls Tryd.prog 72 #[.pointer none, .int .i64 n] w fun r w' => r = .returned (.string { data := #[] }) ∧ w = w' := by
  go_enter Tryd.func72, Tryd.ntmps72
  go_wp2_with fail
  refine (rerr_nil _).mono ?_
  rintro e w1 ⟨rfl, rfl⟩
  go_wp2
  go_ret
  exact ⟨rfl, rfl⟩

end Go.Proofs.YtpbmclaglkcmoaaDoor
