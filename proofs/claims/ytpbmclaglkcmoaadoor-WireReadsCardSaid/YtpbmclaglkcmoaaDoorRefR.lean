import Derived.Test.YtpbmclaglkcmoaaDoorOps
import Derived.Test.YtpbmclaglkcmoaaDoorWireFirst
namespace Go.Proofs.YtpbmclaglkcmoaaDoor
open Go.RowKit
set_option linter.unusedVariables false
set_option linter.unusedSimpArgs false

/-! The document's own reader. -/
/-- A commonsref1.Reader at block b: what is left, its error. -/
def Rx (b : Nat) (l : List UInt8) (err : Int) (w : World) : Prop :=
  w.heap[b]? = some (.cells #[.string (bstr l), .int .i64 err] 69 (0, 0))

theorem Rx.lt {b : Nat} {l : List UInt8} {err : Int} {w : World} (h : Rx b l err w) : b < w.heap.size := lt_of_heap h
theorem Rx.cells {b : Nat} {l : List UInt8} {err : Int} {w : World} (h : Rx b l err w) : w.cell? ⟨b, 0, none⟩ = some (.string (bstr l)) ∧ w.cell? ⟨b, 1, none⟩ = some (.int .i64 err) ∧ w.frozen? ⟨b, 0, none⟩ = false ∧ w.frozen? ⟨b, 1, none⟩ = false :=
  ⟨by rw [Lib.cell_of_heap h]; rfl, by rw [Lib.cell_of_heap h]; rfl, Lib.frozen_of_heap h 0, Lib.frozen_of_heap h 1⟩
theorem Rx.set0 {b : Nat} {l : List UInt8} {err : Int} {w : World} (h : Rx b l err w) (s : ByteArray) : Rx b s.data.toList err (w.setCell ⟨b, 0, none⟩ (.string s)) := by
  unfold Rx at h ⊢
  simp [World.setCell, Array.getElem?_modify, h]
  rfl
theorem Rx.set1 {b : Nat} {l : List UInt8} {err : Int} {w : World} (h : Rx b l err w) (e : Int) : Rx b l e (w.setCell ⟨b, 1, none⟩ (.int .i64 e)) := by
  unfold Rx at h ⊢
  simp [World.setCell, Array.getElem?_modify, h]
theorem Rx.keep {b : Nat} {l : List UInt8} {err : Int} {w w' : World} {G : Nat → Prop} (h : Rx b l err w) (hk : KeptF G w w') (hn : ¬ G b) : Rx b l err w' := (hk.block b h.lt hn).trans h
theorem Rx.below {b : Nat} {l : List UInt8} {err : Int} {w w' : World} (h : Rx b l err w) (hk : Below w.heap.size w w') : Rx b l err w' := (hk.block b h.lt).trans h

theorem xrfail_calls (b : Nat) (l : List UInt8) (err e : Int) (w : World) (h : Rx b l err w) :
    Calls Tryd.prog 73 #[.pointer (some ⟨b, 0, none⟩), .int .i64 e] w fun r w' => r = .returned (.tuple #[]) ∧ Rx b l (failErr err e) w' ∧ KeptB b w w' := by
  obtain ⟨c0, c1, f0, f1⟩ := h.cells
  by_cases he : err = 0
  · subst he
    have hs := Lib.hid (h.set1 e)
    clear h
    go_enter Tryd.func73, Tryd.ntmps73
    go_wp2
    go_end0
    exact ⟨rfl, hs.out, KeptB.set _ _ _ _⟩
  · have he1 : (err == 0) = false := beq_eq_false_iff_ne.2 he
    have hs := Lib.hid h
    clear h
    go_enter Tryd.func73, Tryd.ntmps73
    go_wp2
    go_end0
    exact ⟨rfl, by simpa [failErr, he] using hs.out, KeptF.refl _ w⟩


def takeOk (l : List UInt8) (err : Int) (n : Nat) : Bool := decide (err = 0) && decide (n ≤ l.length)

set_option maxHeartbeats 1000000 in
set_option maxRecDepth 100000 in
theorem xtake_calls (b : Nat) (l : List UInt8) (err : Int) (n : Nat) (w : World) (h : Rx b l err w) (hn : n ≤ 9223372036854775807) :
    Calls Tryd.prog 74 #[.pointer (some ⟨b, 0, none⟩), .int .i64 n] w fun r w' => r = .returned (.tuple #[.string (bstr (takeR l err n).1), .bool (takeOk l err n)]) ∧ Rx b (takeR l err n).2.1 (takeR l err n).2.2 w' ∧ KeptB b w w' := by
  by_cases he : err = 0
  · subst he
    by_cases hs : l.length < n
    · have HT : Hid (takeR l 0 n = ([], l, 5)) := by show _ = _; simp [takeR, hs]
      have HK : Hid (takeOk l 0 n = false) := by show _ = _; simp [takeOk]; omega
      have HH := Lib.hid h
      obtain ⟨c0, c1, f0, f1⟩ := h.cells
      have hsz : (bstr l).size < n := hs
      have hszi : ((bstr l).size : Int) < (n : Int) := by omega
      clear h
      go_enter Tryd.func74, Tryd.ntmps74
      go_wp2_with fail
      refine (xrfail_calls b l 0 5 _ HH.out).mono ?_
      rintro e w1 ⟨rfl, h1, k1⟩
      go_wp2
      go_ret2
      rw [HT.out, HK.out]
      exact ⟨rfl, h1, k1⟩
    · have HT : Hid (takeR l 0 n = (l.take n, l.drop n, 0)) := by show _ = _; simp [takeR, hs]
      have HK : Hid (takeOk l 0 n = true) := by show _ = _; simp [takeOk]; omega
      obtain ⟨c0, c1, f0, f1⟩ := h.cells
      have hsz : n ≤ (bstr l).size := by rw [bstr_size]; omega
      have hsz2 : (n : Int) ≤ ((bstr l).size : Int) := by omega
      have H1 := Lib.hid (h.set0 ((bstr l).extract n (bstr l).size))
      clear h
      go_enter Tryd.func74, Tryd.ntmps74
      go_wp2
      go_ret2
      rw [HT.out, HK.out]
      refine ⟨?_, ?_, KeptB.set _ _ _ _⟩
      · have := bstr_eq _ _ (ext_take (bstr l) n)
        rw [bstr_toList] at this
        exact congrArg (fun x => Ending.returned (Value.tuple #[Value.string x, Value.bool true])) this
      · have := H1.out
        rw [ext_drop, bstr_toList] at this
        exact this
  · have HT : Hid (takeR l err n = ([], l, err)) := by show _ = _; simp [takeR, he]
    have HK : Hid (takeOk l err n = false) := by show _ = _; simp [takeOk, he]
    have he2 : (err != 0) = true := bne_iff_ne.2 he
    have HH := Lib.hid h
    obtain ⟨c0, c1, f0, f1⟩ := h.cells
    clear h he
    go_enter Tryd.func74, Tryd.ntmps74
    go_wp2
    go_ret2
    rw [HT.out, HK.out]
    exact ⟨rfl, HH.out, KeptF.refl _ w⟩

theorem leV_drop (t : List UInt8) (j : Nat) (h : j < t.length) : leV (t.drop j) = t[j].toNat + 256 * leV (t.drop (j + 1)) := by
  rw [List.drop_eq_getElem_cons h]
  rfl

theorem take_ok_len (l : List UInt8) (err : Int) (n : Nat) (h : takeOk l err n = true) : (takeR l err n).1.length = n := by
  unfold takeOk at h
  simp at h
  obtain ⟨h1, h2⟩ := h
  subst h1
  unfold takeR
  rw [if_neg (by simp), if_neg (by omega)]
  simp
  omega

theorem take_nok (l : List UInt8) (err : Int) (n : Nat) (h : takeOk l err n = false) : (takeR l err n).1 = [] := by
  unfold takeOk at h
  simp at h
  unfold takeR
  split
  · rfl
  · rename_i h2
    have h3 : err = 0 := by simpa using h2
    rw [if_pos (h h3)]

set_option maxHeartbeats 2000000 in
set_option maxRecDepth 100000 in
theorem xrnum_calls (b : Nat) (l : List UInt8) (err n : Int) (w : World) (h : Rx b l err w) :
    Calls Tryd.prog 44 #[.pointer (some ⟨b, 0, none⟩), .int .i64 n] w fun r w' => r = .returned (.int .u64 (rnumR l err n).1) ∧ Rx b (rnumR l err n).2.1 (rnumR l err n).2.2 w' ∧ KeptB b w w' := by
  by_cases hn : n < 1 ∨ 8 < n
  · have HT : Hid (rnumR l err n = (0, l, failErr err 1)) := by show _ = _; simp [rnumR, hn]
    have HH := Lib.hid h
    clear h
    by_cases h1 : n < 1
    · clear hn
      go_enter Tryd.func44, Tryd.ntmps44
      go_wp2_with fail
      refine (xrfail_calls b l err 1 _ HH.out).mono ?_
      rintro e w1 ⟨rfl, h1, k1⟩
      go_wp2
      go_ret
      rw [HT.out]
      exact ⟨rfl, h1, k1⟩
    · have h8 : 8 < n := by omega
      clear hn
      go_enter Tryd.func44, Tryd.ntmps44
      go_wp2_with fail
      refine (xrfail_calls b l err 1 _ HH.out).mono ?_
      rintro e w1 ⟨rfl, h1, k1⟩
      go_wp2
      go_ret
      rw [HT.out]
      exact ⟨rfl, h1, k1⟩
  · have hn1 : 1 ≤ n := by omega
    have hn8 : n ≤ 8 := by omega
    obtain ⟨k, rfl⟩ := Int.eq_ofNat_of_zero_le (show 0 ≤ n by omega)
    have HT : Hid (rnumR l err k = (leV (takeR l err k).1, (takeR l err k).2)) := by show _ = _; simp [rnumR, hn]
    have HTK := Lib.hid (fun W hW => xtake_calls b l err k W hW (by omega))
    have HOK := Lib.hid (take_ok_len l err k)
    have HNOK := Lib.hid (take_nok l err k)
    have HH := Lib.hid h
    generalize takeR l err k = t at HT HTK HOK HNOK
    obtain ⟨t1, t2⟩ := t
    cases hok : takeOk l err k with
    | false =>
      have ht1 : t1 = [] := HNOK.out hok
      subst ht1
      rw [hok] at HTK
      clear h hn HOK HNOK hok
      go_enter Tryd.func44, Tryd.ntmps44
      go_wp2_with fail
      refine (HTK.out _ HH.out).mono ?_
      rintro e w1 ⟨rfl, h1, k1⟩
      have H1 := Lib.hid h1
      have K1 := Lib.hid k1
      clear h1 k1
      have hk0 : (0 : Int) ≤ (k : Int) - 1 := by omega
      go_wp2_with fail
      go_loop [7, 8] (fun s7 s8 => s7 = .int .u64 0 ∧ s8 = .int .i64 ((k : Int) - 1)) (fun _ _ => 0)
      case atStart => exact ⟨rfl, rfl⟩
      case round =>
        obtain ⟨rfl, rfl⟩ := hrel
        go_wp2
        go_ret
        rw [HT.out]
        exact ⟨rfl, H1.out, K1.out⟩
    | true =>
      have ht1 : t1.length = k := HOK.out hok
      have htl : (bstr t1).size = k := ht1
      rw [hok] at HTK
      have HT1 := Lib.hid ht1
      have HTL := Lib.hid htl
      clear h hn HOK HNOK hok ht1 htl
      go_enter Tryd.func44, Tryd.ntmps44
      go_wp2_with fail
      refine (HTK.out _ HH.out).mono ?_
      rintro e w1 ⟨rfl, h1, k1⟩
      have H1 := Lib.hid h1
      have K1 := Lib.hid k1
      clear h1 k1
      go_wp2_with fail
      go_loop [7, 8] (fun s7 s8 => ∃ j : Nat, j ≤ k ∧ s8 = .int .i64 ((j : Int) - 1) ∧ s7 = .int .u64 (leV (t1.drop j) : Nat)) (fun _ s8 => (intOf s8 + 1).toNat)
      case atStart => exact ⟨k, Nat.le_refl _, rfl, by rw [List.drop_of_length_le (by rw [HT1.out]; exact Nat.le_refl _)]; rfl⟩
      case round =>
        obtain ⟨j, hj, rfl, rfl⟩ := hrel
        cases j with
        | zero =>
          have e0 : ((0 : Nat) : Int) - 1 = -1 := rfl
          rw [e0]
          clear e0
          go_wp2
          go_ret
          rw [HT.out]
          exact ⟨rfl, H1.out, K1.out⟩
        | succ j =>
          have e0 : ((j + 1 : Nat) : Int) - 1 = (j : Int) := by omega
          rw [e0]
          have hlt : j < t1.length := by rw [HT1.out]; omega
          have hlt2 : j < (bstr t1).size := hlt
          have hlt2i : (j : Int) < ((bstr t1).size : Int) := by omega
          have hj0 : (0 : Int) ≤ (j : Int) := Int.natCast_nonneg _
          have hdrop := leV_drop t1 j hlt
          have hlv := leV_lt (t1.drop (j + 1))
          have hll : (t1.drop (j + 1)).length ≤ 7 := by rw [List.length_drop, HT1.out]; omega
          have hpow : (256 : Nat) ^ (t1.drop (j + 1)).length ≤ 256 ^ 7 := Nat.pow_le_pow_right (by decide) hll
          have hlv2 : leV (t1.drop (j + 1)) < 72057594037927936 := by omega
          have hget : (bstr t1)[j] = t1[j] := rfl
          have hc := t1[j].toNat_lt
          generalize leV (t1.drop (j + 1)) = V at hdrop hlv hlv2
          have hV0 : (0 : Int) ≤ (V : Int) := Int.natCast_nonneg _
          have hV1 : (V : Int) < 72057594037927936 := by omega
          have HD := Lib.hid hdrop
          have HG := Lib.hid hget
          have hc2 : ((bstr t1)[j].toNat : Int) < 256 := by rw [hget]; omega
          clear hdrop hlv hll hpow hlv2 e0 hget hc
          go_wp2
          go_round
          case rel => exact ⟨j, by omega, rfl, (by rw [HD.out]; exact congrArg (Value.int .u64) (by have hg := congrArg UInt8.toNat HG.out; omega))⟩
          case measure => simp [intOf]

/-- The number of bytes that were not there is 0. -/
theorem rnum2_zero (l : List UInt8) (err : Int) (h : (rnumR l err 2).2.2 ≠ 0) : (rnumR l err 2).1 = 0 := by
  unfold rnumR at h ⊢
  rw [if_neg (by omega)] at h ⊢
  unfold takeR at h ⊢
  by_cases h1 : err ≠ 0
  · rw [if_pos h1]
    rfl
  · rw [if_neg h1] at h ⊢
    by_cases h2 : l.length < (2 : Int).toNat
    · rw [if_pos h2]
      rfl
    · rw [if_neg h2] at h
      exact absurd rfl h

theorem Rx.err {b : Nat} {l : List UInt8} {err : Int} {w : World} (h : Rx b l err w) : w.cell? ⟨b, 1, none⟩ = some (.int .i64 err) := h.cells.2.1

set_option maxHeartbeats 1000000 in
set_option maxRecDepth 100000 in
theorem xrcount_calls (b : Nat) (l : List UInt8) (err most : Int) (w : World) (h : Rx b l err w) :
    Calls Tryd.prog 52 #[.pointer (some ⟨b, 0, none⟩), .int .i64 most] w fun r w' => r = .returned (.int .i64 ((countR l err most).1 : Nat)) ∧ Rx b (countR l err most).2.1 (countR l err most).2.2 w' ∧ KeptB b w w' := by
  have hlt := rnum2_lt l err
  have hzero := rnum2_zero l err
  have HN : Hid (∀ W, Rx b l err W → _) := fun W hW => xrnum_calls b l err 2 W hW
  have HC : Hid (countR l err most = if (rnumR l err 2).2.2 = 0 ∧ most < ((rnumR l err 2).1 : Int) then (0, (rnumR l err 2).2.1, 2) else rnumR l err 2) := rfl
  generalize rnumR l err 2 = t at hlt HN HC hzero
  obtain ⟨n, l', e'⟩ := t
  simp only at hlt hzero
  have HZ := Lib.hid hzero
  have hwn : wrap64 (n : Int) = n := by unfold wrap64; omega
  have HH := Lib.hid h
  have hn0 : (0 : Int) ≤ (n : Int) := Int.natCast_nonneg _
  clear h hzero
  by_cases he : e' = 0
  · subst he
    by_cases hm : most < (n : Int)
    · have HC2 : Hid (countR l err most = (0, l', 2)) := by
        show _ = _
        rw [HC.out, if_pos ⟨rfl, hm⟩]
      go_enter Tryd.func52, Tryd.ntmps52
      go_wp2_with fail
      refine (HN.out _ HH.out).mono ?_
      rintro e w1 ⟨rfl, h1, k1⟩
      have H1 := Lib.hid h1
      have K1 := Lib.hid k1
      have c1 := Rx.err h1
      clear h1 k1
      go_wp2_with fail
      refine (xrfail_calls b l' 0 2 _ H1.out).mono ?_
      rintro e w2 ⟨rfl, h2, k2⟩
      have h2' : Rx b l' 2 w2 := h2
      have c2 := Rx.err h2'
      have H2 := Lib.hid h2'
      have K2 := Lib.hid k2
      clear h2 k2 h2'
      go_wp2
      go_ret
      rw [HC2.out]
      exact ⟨rfl, H2.out, K1.out.trans (K2.out.mono (fun k _ hk => .inl hk))⟩
    · have HC2 : Hid (countR l err most = (n, l', 0)) := by
        show _ = _
        rw [HC.out, if_neg (fun h => hm h.2)]
      go_enter Tryd.func52, Tryd.ntmps52
      go_wp2_with fail
      refine (HN.out _ HH.out).mono ?_
      rintro e w1 ⟨rfl, h1, k1⟩
      have H1 := Lib.hid h1
      have K1 := Lib.hid k1
      have c1 := Rx.err h1
      clear h1 k1
      go_wp2
      go_ret
      rw [HC2.out]
      exact ⟨rfl, H1.out, K1.out⟩
  · have hn00 : n = 0 := HZ.out he
    subst hn00
    have HC2 : Hid (countR l err most = (0, l', e')) := by
      show _ = _
      rw [HC.out, if_neg (fun h => he h.1)]
    have he1 : (e' == 0) = false := beq_eq_false_iff_ne.2 he
    have he2 : (e' != 0) = true := bne_iff_ne.2 he
    clear he
    go_enter Tryd.func52, Tryd.ntmps52
    go_wp2_with fail
    refine (HN.out _ HH.out).mono ?_
    rintro e w1 ⟨rfl, h1, k1⟩
    have H1 := Lib.hid h1
    have K1 := Lib.hid k1
    have c1 := Rx.err h1
    clear h1 k1
    go_wp2
    go_ret
    rw [HC2.out]
    exact ⟨rfl, H1.out, K1.out⟩

set_option maxHeartbeats 1000000 in
set_option maxRecDepth 100000 in
theorem xrtext_calls (b : Nat) (l : List UInt8) (err room : Int) (w : World) (h : Rx b l err w) :
    Calls Tryd.prog 47 #[.pointer (some ⟨b, 0, none⟩), .int .i64 room] w fun r w' => r = .returned (.string (bstr (rtextR l err room).1)) ∧ Rx b (rtextR l err room).2.1 (rtextR l err room).2.2 w' ∧ KeptB b w w' := by
  have HH := Lib.hid h
  clear h
  by_cases hw : wrongR room = 0
  · have hr0 : 0 ≤ room ∧ room ≤ 60000 := by
      unfold wrongR at hw
      split at hw
      · cases hw
      · omega
    obtain ⟨hra, hrb⟩ := hr0
    have HD : Hid (rtextR l err room = takeR (countR l err room).2.1 (countR l err room).2.2 (countR l err room).1) := by
      show _ = _
      unfold rtextR
      rw [if_neg (by simpa using hw)]
    have hlt := rnum2_lt l err
    have HN : Hid (∀ W, Rx b l err W → _) := fun W hW => xrnum_calls b l err 2 W hW
    have HC : Hid (countR l err room = if (rnumR l err 2).2.2 = 0 ∧ room < ((rnumR l err 2).1 : Int) then (0, (rnumR l err 2).2.1, 2) else rnumR l err 2) := rfl
    clear hw
    generalize rnumR l err 2 = t at hlt HN HC
    obtain ⟨n, l', e'⟩ := t
    simp only at hlt
    have hwn : wrap64 (n : Int) = n := by unfold wrap64; omega
    have hn0 : (0 : Int) ≤ (n : Int) := Int.natCast_nonneg _
    by_cases hbad : e' = 0 ∧ room < (n : Int)
    · obtain ⟨he, hm⟩ := hbad
      subst he
      have HD2 : Hid (rtextR l err room = ([], l', 2)) := by
        show _ = _
        rw [HD.out, HC.out, if_pos ⟨rfl, hm⟩]
        exact takeR_err l' 2 0 (by decide)
      have HT : Hid (∀ W, Rx b l' 2 W → _) := fun W hW => xtake_calls b l' 2 n W hW (by omega)
      have htk : takeR l' 2 n = ([], l', 2) := takeR_err l' 2 n (by decide)
      have hok : takeOk l' 2 n = false := by simp [takeOk]
      rw [htk, hok] at HT
      clear htk hok
      go_enter Tryd.func47, Tryd.ntmps47
      go_wp2_with fail
      refine (HN.out _ HH.out).mono ?_
      rintro e w1 ⟨rfl, h1, k1⟩
      have H1 := Lib.hid h1
      have K1 := Lib.hid k1
      have c1 := Rx.err h1
      clear h1 k1
      go_wp2_with fail
      refine (xrfail_calls b l' 0 2 _ H1.out).mono ?_
      rintro e w2 ⟨rfl, h2, k2⟩
      have h2' : Rx b l' 2 w2 := h2
      have H2 := Lib.hid h2'
      have K2 := Lib.hid k2
      clear h2 k2 h2' c1
      go_wp2_with fail
      refine (HT.out _ H2.out).mono ?_
      rintro e w3 ⟨rfl, h3, k3⟩
      go_wp2
      go_ret
      rw [HD2.out]
      exact ⟨rfl, h3, (K1.out.trans (K2.out.mono (fun k _ hk => .inl hk))).trans (k3.mono (fun k _ hk => .inl hk))⟩
    · have HD2 : Hid (rtextR l err room = takeR l' e' n) := by
        show _ = _
        rw [HD.out, HC.out, if_neg hbad]
      have HT : Hid (∀ W, Rx b l' e' W → _) := fun W hW => xtake_calls b l' e' n W hW (by omega)
      generalize takeOk l' e' n = ok at HT
      generalize takeR l' e' n = t2 at HT HD2
      obtain ⟨x, l2, e2⟩ := t2
      by_cases he : e' = 0
      · subst he
        have hm : ¬ room < (n : Int) := fun h => hbad ⟨rfl, h⟩
        clear hbad
        go_enter Tryd.func47, Tryd.ntmps47
        go_wp2_with fail
        refine (HN.out _ HH.out).mono ?_
        rintro e w1 ⟨rfl, h1, k1⟩
        have H1 := Lib.hid h1
        have K1 := Lib.hid k1
        have c1 := Rx.err h1
        clear h1 k1
        go_wp2_with fail
        refine (HT.out _ H1.out).mono ?_
        rintro e w3 ⟨rfl, h3, k3⟩
        clear c1
        go_wp2
        go_ret
        rw [HD2.out]
        exact ⟨rfl, h3, K1.out.trans (k3.mono (fun k _ hk => .inl hk))⟩
      · have he1 : (e' == 0) = false := beq_eq_false_iff_ne.2 he
        clear hbad he
        go_enter Tryd.func47, Tryd.ntmps47
        go_wp2_with fail
        refine (HN.out _ HH.out).mono ?_
        rintro e w1 ⟨rfl, h1, k1⟩
        have H1 := Lib.hid h1
        have K1 := Lib.hid k1
        have c1 := Rx.err h1
        clear h1 k1
        go_wp2_with fail
        refine (HT.out _ H1.out).mono ?_
        rintro e w3 ⟨rfl, h3, k3⟩
        clear c1
        go_wp2
        go_ret
        rw [HD2.out]
        exact ⟨rfl, h3, K1.out.trans (k3.mono (fun k _ hk => .inl hk))⟩
  · have HD : Hid (rtextR l err room = ([], l, failErr err 1)) := by
      show _ = _
      unfold rtextR
      rw [if_pos hw]
    have hr : room < 0 ∨ 60000 < room := by
      unfold wrongR at hw
      split at hw
      · assumption
      · exact absurd rfl hw
    clear hw
    by_cases h1 : room < 0
    · clear hr
      go_enter Tryd.func47, Tryd.ntmps47
      go_wp2_with fail
      refine (xrfail_calls b l err 1 _ HH.out).mono ?_
      rintro e w1 ⟨rfl, h1, k1⟩
      go_wp2
      go_ret
      rw [HD.out]
      exact ⟨rfl, h1, k1⟩
    · have h2 : 60000 < room := by omega
      clear hr
      go_enter Tryd.func47, Tryd.ntmps47
      go_wp2_with fail
      refine (xrfail_calls b l err 1 _ HH.out).mono ?_
      rintro e w1 ⟨rfl, h1, k1⟩
      go_wp2
      go_ret
      rw [HD.out]
      exact ⟨rfl, h1, k1⟩

set_option maxHeartbeats 1000000 in
theorem xrflag_calls (b : Nat) (l : List UInt8) (err : Int) (w : World) (h : Rx b l err w) :
    Calls Tryd.prog 49 #[.pointer (some ⟨b, 0, none⟩)] w fun r w' => r = .returned (.bool (flagR l err).1) ∧ Rx b (flagR l err).2.1 (flagR l err).2.2 w' ∧ KeptB b w w' := by
  have HN : Hid (∀ W, Rx b l err W → _) := fun W hW => xrnum_calls b l err 1 W hW
  have HC : Hid (flagR l err = ((rnumR l err 1).1 == 1, (rnumR l err 1).2.1, if 1 < (rnumR l err 1).1 then failErr (rnumR l err 1).2.2 4 else (rnumR l err 1).2.2)) := rfl
  generalize rnumR l err 1 = t at HN HC
  obtain ⟨n, l', e'⟩ := t
  have HH := Lib.hid h
  clear h
  by_cases hm : 1 < n
  · have hni : (1 : Int) < (n : Int) := by omega
    have HC2 : Hid (flagR l err = (false, l', failErr e' 4)) := by
      show _ = _
      rw [HC.out]
      simp only [if_pos hm]
      congr 1
      exact beq_eq_false_iff_ne.2 (by omega)
    have hne : ((n : Int) == 1) = false := beq_eq_false_iff_ne.2 (by omega)
    have HNE := Lib.hid hne
    clear hne
    go_enter Tryd.func49, Tryd.ntmps49
    go_wp2_with fail
    refine (HN.out _ HH.out).mono ?_
    rintro e w1 ⟨rfl, h1, k1⟩
    have H1 := Lib.hid h1
    have K1 := Lib.hid k1
    clear h1 k1
    go_wp2_with fail
    refine (xrfail_calls b l' e' 4 _ H1.out).mono ?_
    rintro e w2 ⟨rfl, h2, k2⟩
    have H2 := Lib.hid h2
    have K2 := Lib.hid k2
    clear h2 k2
    go_wp2
    go_ret
    rw [HC2.out]
    exact ⟨by simpa using HNE.out, H2.out, K1.out.trans (K2.out.mono (fun k _ hk => .inl hk))⟩
  · have hni : ¬ (1 : Int) < (n : Int) := by omega
    have HC2 : Hid (flagR l err = (n == 1, l', e')) := by
      show _ = _
      rw [HC.out]
      simp only [if_neg hm]
    go_enter Tryd.func49, Tryd.ntmps49
    go_wp2_with fail
    refine (HN.out _ HH.out).mono ?_
    rintro e w1 ⟨rfl, h1, k1⟩
    have H1 := Lib.hid h1
    have K1 := Lib.hid k1
    clear h1 k1
    go_wp2
    go_ret
    rw [HC2.out]
    refine ⟨?_, H1.out, K1.out⟩
    congr 2
    by_cases e : n = 1
    · subst e; rfl
    · have h2 : ((n : Int) == 1) = false := beq_eq_false_iff_ne.2 (by omega)
      have h3 : (n == 1) = false := beq_eq_false_iff_ne.2 e
      rw [h3]
      exact congrArg Value.bool h2

theorem failErr_idem (e : Int) : failErr (failErr e 4) 4 = failErr e 4 := by
  unfold failErr
  split <;> simp_all

/-- What a skip's loop has found of the first k bytes. -/
def skE (x : List UInt8) (e : Int) : Int := if allZ x then e else failErr e 4

theorem skE_snoc (x : List UInt8) (c : UInt8) (e : Int) : skE (x ++ [c]) e = if c = 0 then skE x e else failErr (skE x e) 4 := by
  unfold skE allZ
  rw [List.all_append]
  by_cases hc : c = 0
  · subst hc
    simp
  · rw [if_neg hc]
    have : ([c] : List UInt8).all (· == 0) = false := by simp [hc]
    rw [this, Bool.and_false, if_neg (by decide)]
    split
    · rfl
    · exact (failErr_idem e).symm

set_option maxHeartbeats 1000000 in
set_option maxRecDepth 100000 in
theorem xrskip_calls (b : Nat) (l : List UInt8) (err n : Int) (w : World) (h : Rx b l err w) (hn : n ≤ 9223372036854775807) (hl : l.length ≤ 9223372036854775806) :
    Calls Tryd.prog 51 #[.pointer (some ⟨b, 0, none⟩), .int .i64 n] w fun r w' => r = .returned (.tuple #[]) ∧ Rx b (skipR l err n).1 (skipR l err n).2 w' ∧ KeptB b w w' := by
  have HH := Lib.hid h
  clear h
  by_cases h0 : n < 0
  · have HD : Hid (skipR l err n = (l, failErr err 1)) := by show _ = _; unfold skipR; rw [if_pos h0]
    go_enter Tryd.func51, Tryd.ntmps51
    go_wp2_with fail
    refine (xrfail_calls b l err 1 _ HH.out).mono ?_
    rintro e w1 ⟨rfl, h1, k1⟩
    go_wp2
    refine bodyPost_ret (results_none rfl _ _ _) rfl ?_
    rw [HD.out]
    exact ⟨rfl, h1, k1⟩
  · obtain ⟨k, rfl⟩ := Int.eq_ofNat_of_zero_le (show 0 ≤ n by omega)
    have HD : Hid (skipR l err k = ((takeR l err k).2.1, skE (takeR l err k).1 (takeR l err k).2.2)) := by
      show _ = _
      unfold skipR skE
      rw [if_neg h0]
      rfl
    have HT : Hid (∀ W, Rx b l err W → _) := fun W hW => xtake_calls b l err k W hW (by omega)
    have hts := take_size l err k
    generalize takeOk l err k = ok at HT
    generalize takeR l err k = t at HT HD hts
    obtain ⟨x, l', e'⟩ := t
    simp only at hts HD
    go_enter Tryd.func51, Tryd.ntmps51
    go_wp2_with fail
    refine (HT.out _ HH.out).mono ?_
    rintro e w1 ⟨rfl, h1, k1⟩
    have H1 := Lib.hid h1
    have K1 := Lib.hid k1
    clear h1 k1
    have hxs : (bstr x).size ≤ 9223372036854775806 := by rw [bstr_size]; omega
    go_wp2_with fail
    go_loopw [6] (fun s6 wr => ∃ i : Nat, i ≤ (bstr x).size ∧ s6 = .int .i64 i ∧ Hid (Rx b l' (skE (x.take i) e') wr) ∧ Hid (KeptB b w1 wr)) (fun s6 _ => (bstr x).size - (intOf s6).toNat)
    case atStart => exact ⟨0, Nat.zero_le _, rfl, H1.out, KeptF.refl _ _⟩
    case round =>
      obtain ⟨i, hi, rfl, HR, HK⟩ := hrel
      by_cases hlt : i < (bstr x).size
      · have hsn : x.take (i + 1) = x.take i ++ [(bstr x)[i]] := take_snoc8 (bstr x) i hlt
        have hlti : (i : Int) < ((bstr x).size : Int) := by omega
        have hi0 : (0 : Int) ≤ (i : Int) := Int.natCast_nonneg _
        by_cases hc : (bstr x)[i] = 0
        · have HE : Hid (skE (x.take (i + 1)) e' = skE (x.take i) e') := by show _ = _; rw [hsn, skE_snoc, if_pos hc]
          have hcb : (((bstr x)[i].toNat : Int) != 0) = false := by rw [hc]; rfl
          clear hsn hc
          go_wp2
          go_roundw
          case rel => exact ⟨i + 1, by omega, by go_num, (by rw [HE.out]; exact HR.out), HK.out⟩
          case measure => simp [intOf]; omega
        · have HE : Hid (skE (x.take (i + 1)) e' = failErr (skE (x.take i) e') 4) := by show _ = _; rw [hsn, skE_snoc, if_neg hc]
          have hcb : (((bstr x)[i].toNat : Int) != 0) = true := bne_iff_ne.2 (fun e => hc (UInt8.toNat_inj.1 (by show (bstr x)[i].toNat = 0; omega)))
          clear hsn hc
          go_wp2_with fail
          refine (xrfail_calls b l' _ 4 _ HR.out).mono ?_
          rintro e w3 ⟨rfl, h3, k3⟩
          have H3 := Lib.hid h3
          have K3 := Lib.hid (HK.out.trans (k3.mono (fun k _ hk => .inl hk)))
          clear h3 k3
          go_wp2
          go_roundw
          case rel => exact ⟨i + 1, by omega, by go_num, (by rw [HE.out]; exact H3.out), K3.out⟩
          case measure => simp [intOf]; omega
      · have hii : x.take i = x := List.take_of_length_le (by have : (bstr x).size = x.length := rfl; omega)
        have HR2 : Hid (Rx b l' (skE x e') wr) := by have := HR.out; rw [hii] at this; exact this
        clear hii
        go_wp2
        go_end0
        rw [HD.out]
        exact ⟨rfl, HR2.out, K1.out.trans (HK.out.mono (fun k _ hk => .inl hk))⟩

set_option maxHeartbeats 1000000 in
set_option maxRecDepth 100000 in
theorem xrend_calls (b : Nat) (l : List UInt8) (err : Int) (w : World) (h : Rx b l err w) (hl : l.length ≤ 9223372036854775806) :
    Calls Tryd.prog 53 #[.pointer (some ⟨b, 0, none⟩)] w fun r w' => r = .returned (.int .i64 (endR l err)) ∧ w = w' := by
  obtain ⟨c0, c1, f0, f1⟩ := h.cells
  clear h
  have hls : (bstr l).size = l.length := rfl
  have hxs : (bstr l).size ≤ 9223372036854775806 := by omega
  by_cases he : err = 0
  · subst he
    go_enter Tryd.func53, Tryd.ntmps53
    go_wp2_with fail
    clear hls
    go_loopw [3] (fun s3 wr => ∃ i : Nat, i ≤ (bstr l).size ∧ s3 = .int .i64 i ∧ Hid (allZ (l.take i) = true) ∧ w = wr) (fun s3 _ => (bstr l).size - (intOf s3).toNat)
    case atStart => exact ⟨0, Nat.zero_le _, rfl, (by show allZ (l.take 0) = true; rfl), rfl⟩
    case round =>
      obtain ⟨i, hi, rfl, HA, rfl⟩ := hrel
      by_cases hlt : i < (bstr l).size
      · have hsn : l.take (i + 1) = l.take i ++ [(bstr l)[i]] := take_snoc8 (bstr l) i hlt
        have hlti : (i : Int) < ((bstr l).size : Int) := by omega
        have hi0 : (0 : Int) ≤ (i : Int) := Int.natCast_nonneg _
        by_cases hc : (bstr l)[i] = 0
        · have HA2 : Hid (allZ (l.take (i + 1)) = true) := by
            have := HA.out
            show allZ _ = true
            unfold allZ at this ⊢
            rw [hsn, List.all_append, this, hc]
            rfl
          have hcb : (((bstr l)[i].toNat : Int) != 0) = false := by rw [hc]; rfl
          clear hsn hc
          go_wp2
          go_roundw
          case rel => exact ⟨i + 1, by omega, by go_num, HA2.out, trivial⟩
          case measure => simp [intOf]; omega
        · have HE : Hid (endR l 0 = 4) := by
            show _ = _
            unfold endR
            rw [if_neg (by decide), if_neg]
            intro ha
            unfold allZ at ha
            have hm : (bstr l)[i] ∈ l := List.getElem_mem (l := l) (n := i) hlt
            have := List.all_eq_true.1 ha _ hm
            exact hc (by simpa using this)
          have hcb : (((bstr l)[i].toNat : Int) != 0) = true := bne_iff_ne.2 (fun e => hc (UInt8.toNat_inj.1 (by show (bstr l)[i].toNat = 0; omega)))
          clear hsn hc
          go_wp2
          go_ret
          rw [HE.out]
          exact ⟨rfl, rfl⟩
      · have hii : l.take i = l := List.take_of_length_le (by have : (bstr l).size = l.length := rfl; omega)
        have HE : Hid (endR l 0 = 0) := by
          show _ = _
          have := HA.out
          rw [hii] at this
          unfold endR
          rw [if_neg (by decide), if_pos this]
        clear hii
        go_wp2
        go_ret
        rw [HE.out]
        exact ⟨rfl, rfl⟩
  · have he1 : (err == 0) = false := beq_eq_false_iff_ne.2 he
    have HE : Hid (endR l err = err) := by show _ = _; unfold endR; rw [if_pos he]
    clear hls he
    go_enter Tryd.func53, Tryd.ntmps53
    go_wp2_with fail
    go_loopw [3] (fun s3 wr => s3 = .int .i64 0 ∧ w = wr) (fun s3 _ => 0)
    case atStart => exact ⟨rfl, rfl⟩
    case round =>
      obtain ⟨rfl, rfl⟩ := hrel
      by_cases h0 : 0 < (bstr l).size
      · have h0i : (0 : Int) < ((bstr l).size : Int) := by omega
        go_wp2
        go_ret
        rw [HE.out]
        exact ⟨rfl, rfl⟩
      · have h0i : ¬ (0 : Int) < ((bstr l).size : Int) := by omega
        go_wp2
        go_ret
        rw [HE.out]
        exact ⟨rfl, rfl⟩

end Go.Proofs.YtpbmclaglkcmoaaDoor
