import Derived.Test.YtpbmclaglkcmoaaSumBack
import Derived.Test.YtpbmclaglkcmoaaCrcOne
namespace Go.Proofs.Ytpbmclaglkcmoaa
open Go.RowKit
set_option linter.unusedVariables false

theorem open_changed (l : List UInt8) (i : Nat) (hi : i < (seal4 l ++ l).length) (m : Int) (hm : m % 256 ≠ 0) (W : World) (hl : l.length ≤ 3000) :
    Calls Try.prog 28 #[.string (bstr ((seal4 l ++ l).set i (chg (seal4 l ++ l)[i] m)))] W fun r w' => r = .returned (.tuple #[.string { data := #[] }, .int .i64 6]) ∧ Below W.heap.size W w' := by
  have h := open_calls (bstr ((seal4 l ++ l).set i (chg (seal4 l ++ l)[i] m))) W (by rw [bstr_size, List.length_set, List.length_append, seal4_length]; omega)
  rw [bstr_toList, openB_set l i hi _ (chg_ne _ m hm)] at h
  exact h

theorem read_changed (l : List UInt8) (i : Nat) (hi : i < (l ++ seal4 l).length) (m : Int) (hm : m % 256 ≠ 0) (W : World) (hl : l.length ≤ 4000) :
    Calls Try.prog 30 #[.string (bstr ((l ++ seal4 l).set i (chg (l ++ seal4 l)[i] m)))] W fun r w' => r = .returned (.tuple #[.string { data := #[] }, .int .i64 6]) ∧ Below W.heap.size W w' := by
  have h := read_calls (bstr ((l ++ seal4 l).set i (chg (l ++ seal4 l)[i] m))) W (by rw [bstr_size, List.length_set, List.length_append, seal4_length]; omega)
  rw [bstr_toList, readB_set l i hi _ (chg_ne _ m hm)] at h
  exact h

theorem open_short (s : ByteArray) (W : World) (h : s.size < 4) :
    Calls Try.prog 28 #[.string s] W fun r w' => r = .returned (.tuple #[.string { data := #[] }, .int .i64 5]) ∧ Below W.heap.size W w' := by
  have h1 := open_calls s W (by omega)
  have hd : openB s.data.toList = ([], 5) := by
    unfold openB
    rw [if_pos (by rw [toList_length]; exact h)]
  rw [hd] at h1
  exact h1

/-- What stands in a world behind '[]byte(s)'. -/
theorem conv_here (w : World) (l : List UInt8) : ∃ W cap, (convert 9 58 (.string (bstr l))).run Try.prog w = .ok (.slice (some ⟨w.heap.size, 0, none⟩) l.length cap) W ∧ BArr w.heap.size l W ∧ Below w.heap.size w W ∧ W.heap.size = w.heap.size + 1 :=
  conv_bytes w 9 58 5 (bstr l) Try.underlying9 Try.underlying58 Try.underlying5

set_option maxHeartbeats 4000000 in
set_option maxRecDepth 100000 in
theorem sumChanged_calls (s : ByteArray) (n at_ by_ : Int) (w : World) (hs : s.size ≤ 140737488351232) (hn : (Lit.int .i64 n).wf = true) (ha : (Lit.int .i64 at_).wf = true) (hb : (Lit.int .i64 by_).wf = true) :
    Calls Try.prog 9 #[.string s, .int .i64 n, .int .i64 at_, .int .i64 by_] w fun r w' => r = .returned (.bool true) ∧ Below w.heap.size w w' := by
  have hn' := Go.bounds_i64 hn
  have ha' := Go.bounds_i64 ha
  have hb' := Go.bounds_i64 hb
  clear hn ha hb
  by_cases hg : 2000 < s.size ∨ n < 4 ∨ 3000 < n ∨ n - 4 < (s.size : Int) ∨ at_ < 0 ∨ by_ % 256 = 0
  · by_cases g1 : 2000 < s.size
    · go_enter Try.func9, Try.ntmps9
      go_wp2_with fail
      refine (sumAlive_calls _).mono ?_
      rintro e w1 ⟨rfl, hb1⟩
      go_wp2
      go_ret
      exact ⟨rfl, hb1⟩
    by_cases g2 : n < 4
    · go_enter Try.func9, Try.ntmps9
      go_wp2_with fail
      refine (sumAlive_calls _).mono ?_
      rintro e w1 ⟨rfl, hb1⟩
      go_wp2
      go_ret
      exact ⟨rfl, hb1⟩
    by_cases g3 : 3000 < n
    · go_enter Try.func9, Try.ntmps9
      go_wp2_with fail
      refine (sumAlive_calls _).mono ?_
      rintro e w1 ⟨rfl, hb1⟩
      go_wp2
      go_ret
      exact ⟨rfl, hb1⟩
    by_cases g4 : n - 4 < (s.size : Int)
    · go_enter Try.func9, Try.ntmps9
      go_wp2_with fail
      refine (sumAlive_calls _).mono ?_
      rintro e w1 ⟨rfl, hb1⟩
      go_wp2
      go_ret
      exact ⟨rfl, hb1⟩
    by_cases g5 : at_ < 0
    · go_enter Try.func9, Try.ntmps9
      go_wp2_with fail
      refine (sumAlive_calls _).mono ?_
      rintro e w1 ⟨rfl, hb1⟩
      go_wp2
      go_ret
      exact ⟨rfl, hb1⟩
    have g6 : by_ % 256 = 0 := by omega
    have g7 : (by_ % 256 == 0) = true := beq_iff_eq.2 g6
    clear g6 hg
    go_enter Try.func9, Try.ntmps9
    go_wp2_with fail
    refine (sumAlive_calls _).mono ?_
    rintro e w1 ⟨rfl, hb1⟩
    go_wp2
    go_ret
    exact ⟨rfl, hb1⟩
  have hs2 : s.size ≤ 2000 := by omega
  have h4 : 4 ≤ n := by omega
  have hn3 : n ≤ 3000 := by omega
  have hsn : (s.size : Int) ≤ n - 4 := by omega
  have hat : 0 ≤ at_ := by omega
  have hm : by_ % 256 ≠ 0 := by omega
  have hm2 : (by_ % 256 == 0) = false := beq_eq_false_iff_ne.2 hm
  have HM := Lib.hid hm
  clear hg hm
  obtain ⟨la, hla⟩ : ∃ la, la = seal4 s.data.toList ++ s.data.toList := ⟨_, rfl⟩
  obtain ⟨lb, hlb⟩ : ∃ lb, lb = padB s n ++ seal4 (padB s n) := ⟨_, rfl⟩
  have hlal : la.length = s.size + 4 := by rw [hla, List.length_append, seal4_length, toList_length]; omega
  have hlbl : (lb.length : Int) = n := by
    have := padB_length s n h4 hsn
    rw [hlb, List.length_append, seal4_length]
    omega
  have hpl : (padB s n).length ≤ 3000 := by
    have := padB_length s n h4 hsn
    omega
  have HSEAL := Lib.hid (fun W => seal_at s W (by omega))
  have HSTAMP := Lib.hid (fun W => stamp_good s n W (by omega) (by omega) h4 hsn)
  rw [← hla] at HSEAL
  rw [← hlb] at HSTAMP
  have hla4 : 4 ≤ la.length := by omega
  have hlb4 : 4 ≤ lb.length := by omega
  have hla5 : la.length ≤ 3000 := by omega
  have hlb5 : lb.length ≤ 3000 := by omega
  obtain ⟨ia, hia⟩ := Int.eq_ofNat_of_zero_le (show 0 ≤ at_ % (la.length : Int) from Int.emod_nonneg _ (by omega))
  have hia2 : ia < la.length := by have := Int.emod_lt_of_pos at_ (show 0 < (la.length : Int) by omega); omega
  obtain ⟨ib, hib⟩ := Int.eq_ofNat_of_zero_le (show 0 ≤ at_ % (lb.length : Int) from Int.emod_nonneg _ (by omega))
  have hib2 : ib < lb.length := by have := Int.emod_lt_of_pos at_ (show 0 < (lb.length : Int) by omega); omega
  have HOPEN : Hid (∀ W, Calls Try.prog 28 #[.string (bstr (la.set ia (chg la[ia] by_)))] W fun r w' => r = .returned (.tuple #[.string { data := #[] }, .int .i64 6]) ∧ Below W.heap.size W w') := by
    intro W
    have h := open_changed s.data.toList ia (by rw [← hla]; exact hia2) by_ HM.out W (by rw [toList_length]; omega)
    simp only [← hla] at h
    exact h
  have HREAD : Hid (∀ W, Calls Try.prog 30 #[.string (bstr (lb.set ib (chg lb[ib] by_)))] W fun r w' => r = .returned (.tuple #[.string { data := #[] }, .int .i64 6]) ∧ Below W.heap.size W w') := by
    intro W
    have h := read_changed (padB s n) ib (by rw [← hlb]; exact hib2) by_ HM.out W (by omega)
    simp only [← hlb] at h
    exact h
  have HCA := Lib.hid (chg_val la[ia] by_)
  have HCB := Lib.hid (chg_val lb[ib] by_)
  clear hla hlb hlal hlbl hpl
  go_enter Try.func9, Try.ntmps9
  go_wp2_with fail
  refine (HSEAL.out _).mono ?_
  rintro e w1 ⟨rfl, hb1⟩
  obtain ⟨W1, cap1, hc1, ba1, bl1, sz1⟩ := conv_here w1 la
  have BA1 := Lib.hid ba1
  have BL1 := Lib.hid bl1
  have hle1 := Lib.hid hb1.size
  have SZ1 := Lib.hid sz1
  have HB1 := Lib.hid hb1
  clear ba1 bl1 sz1 hb1
  go_wp2_with fail
  refine (HSTAMP.out _).mono ?_
  rintro e w2 ⟨rfl, hb2⟩
  obtain ⟨W2, cap2, hc2, ba2, bl2, sz2⟩ := conv_here w2 lb
  clear hc1
  have BA1' := Lib.hid (((BA1.out).below hb2).below bl2)
  have BA2 := Lib.hid ba2
  have hne : w1.heap.size < w2.heap.size := by have := SZ1.out; have := hb2.size; omega
  have BB2 := Lib.hid (bl (bl (bl HB1.out BL1.out) hb2) bl2)
  clear ba2 bl2 sz2 hb2 HB1 BL1 SZ1 BA1
  obtain ⟨c1, f1⟩ := BA1'.out.2 ia hia2
  obtain ⟨c2, f2⟩ := BA2.out.2 ib hib2
  have y1 : BArr w1.heap.size (la.set ia (chg la[ia] by_)) ((W2.setCell ⟨w1.heap.size, ia, none⟩ (.int .u8 (Go.bits .xor .u8 (la[ia].toNat : Int) (by_ % 256)))).setCell ⟨w2.heap.size, ib, none⟩ (.int .u8 (Go.bits .xor .u8 (lb[ib].toNat : Int) (by_ % 256)))) := by
    rw [HCA.out]
    exact (BA1'.out.set ia hia2 _).far (by show w1.heap.size ≠ w2.heap.size; omega) _
  have y2 : BArr w2.heap.size (lb.set ib (chg lb[ib] by_)) ((W2.setCell ⟨w1.heap.size, ia, none⟩ (.int .u8 (Go.bits .xor .u8 (la[ia].toNat : Int) (by_ % 256)))).setCell ⟨w2.heap.size, ib, none⟩ (.int .u8 (Go.bits .xor .u8 (lb[ib].toNat : Int) (by_ % 256)))) := by
    rw [HCB.out]
    exact (BA2.out.far (a := ⟨w1.heap.size, ia, none⟩) (by show w2.heap.size ≠ w1.heap.size; omega) _).set ib hib2 _
  have z1 := y1.back (P := Try.prog) 58 9 5 cap1 Try.underlying58 Try.underlying5 Try.underlying9
  rw [List.length_set] at z1
  change _ = Result.ok (Value.string (bstr _)) _ at z1
  have Y2 := Lib.hid y2
  clear y1 y2
  go_wp2_with fail
  refine (HOPEN.out _).mono ?_
  rintro e w3 ⟨rfl, hb3⟩
  have z2 := (Y2.out.below hb3).back (P := Try.prog) 58 9 5 cap2 Try.underlying58 Try.underlying5 Try.underlying9
  rw [List.length_set] at z2
  change _ = Result.ok (Value.string (bstr _)) _ at z2
  clear z1
  go_wp2_with fail
  refine (HREAD.out _).mono ?_
  rintro e w4 ⟨rfl, hb4⟩
  clear z2
  go_wp2_with fail
  refine (open_short _ _ (by simp; omega)).mono ?_
  rintro e w5 ⟨rfl, hb5⟩
  go_wp2_with fail
  refine (sumAlive_calls _).mono ?_
  rintro e w6 ⟨rfl, hb6⟩
  go_wp2
  go_ret
  refine ⟨rfl, ?_⟩
  have hw1 : w.heap.size ≤ w1.heap.size := hle1.out
  have b0 := (BB2.out.setCell (p := ⟨w1.heap.size, ia, none⟩) hw1 (.int .u8 (Go.bits .xor .u8 (la[ia].toNat : Int) (by_ % 256)))).setCell (p := ⟨w2.heap.size, ib, none⟩) (by show w.heap.size ≤ w2.heap.size; omega) (.int .u8 (Go.bits .xor .u8 (lb[ib].toNat : Int) (by_ % 256)))
  exact bl (bl (bl (bl b0 hb3) hb4) hb5) hb6

end Go.Proofs.Ytpbmclaglkcmoaa
