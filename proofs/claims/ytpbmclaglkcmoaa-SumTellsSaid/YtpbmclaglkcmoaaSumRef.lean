import Derived.Test.YtpbmclaglkcmoaaSumChanged
import Derived.Deep.RegionHeld3
import Derived.Laws.OwnMore
namespace Go.Proofs.Ytpbmclaglkcmoaa
open Go.RowKit
set_option linter.unusedVariables false
set_option linter.unusedSimpArgs false

theorem xor_ones (x : Nat) (h : x < 4294967296) : 4294967295 ^^^ x = 4294967295 - x := by
  have h1 : (BitVec.allOnes 32 ^^^ BitVec.ofNat 32 x).toNat = (~~~ (BitVec.ofNat 32 x)).toNat := by rw [BitVec.allOnes_xor]
  rw [BitVec.toNat_xor, BitVec.toNat_not, BitVec.toNat_allOnes, BitVec.toNat_ofNat, Nat.mod_eq_of_lt h] at h1
  exact h1

set_option maxHeartbeats 1000000 in
set_option maxRecDepth 100000 in
theorem refSum_calls (s : ByteArray) (w : World) (hs : s.size ≤ 9223372036854775807) :
    Calls Try.prog 35 #[.string s] w fun r w' => r = .returned (.int .u32 (crc s.data.toList : Nat)) ∧ w = w' := by
  go_enter Try.func35, Try.ntmps35
  go_wp2_with fail
  go_loop [3, 4] (fun s3 s4 => ∃ (j y : Nat), j ≤ s.size ∧ s4 = .int .i64 j ∧ s3 = .int .u32 y ∧ y < 4294967296 ∧ Hid (y = crcRun 4294967295 (s.data.toList.take j))) (fun _ s4 => s.size - (intOf s4).toNat)
  case atStart => exact ⟨0, 4294967295, Nat.zero_le _, rfl, rfl, by decide, rfl⟩
  case round =>
    obtain ⟨j, y, hj, rfl, rfl, hy, HY⟩ := hrel
    by_cases hlt2 : j < s.size
    · have hcl : (s[j].toNat : Int) < 4294967296 := by have := s[j].toNat_lt; omega
      have hcl2 : s[j].toNat < 4294967296 := by omega
      have hxr := xor_u32 y s[j].toNat hy hcl2
      have hxl := xor_lt y s[j].toNat hy hcl2
      generalize hv : y ^^^ s[j].toNat = v at hxr hxl
      have HV := Lib.hid hv
      clear hv
      go_wp2_with fail
      go_loop [3, 5] (fun s3 s5 => ∃ (i z : Nat), i ≤ 8 ∧ s5 = .int .i64 i ∧ s3 = .int .u32 z ∧ z < 4294967296 ∧ Hid (crcN (8 - i) z = crcN 8 v)) (fun _ s5 => 8 - (intOf s5).toNat)
      case atStart => exact ⟨0, v, Nat.zero_le _, rfl, rfl, hxl, rfl⟩
      case round =>
        obtain ⟨i, z, hi, rfl, rfl, hz, HZ⟩ := hrel
        clear hxr hcl hcl2
        by_cases hlt3 : i < 8
        · have hs := crcStep_lt z hz
          have hx2 := xor_u32 (z / 2) 3988292384 (by omega) (by decide)
          have hq : (z : Int).tdiv 2 = ((z / 2 : Nat) : Int) := by rw [Int.tdiv_eq_ediv_of_nonneg (by omega)]; rfl
          have e1 : crcN (8 - (i + 1)) (crcStep z) = crcN 8 v := by
            rw [← HZ.out, show 8 - i = (8 - (i + 1)) + 1 from by omega]; rfl
          obtain ⟨h2, hh2⟩ : ∃ h2, h2 = z / 2 := ⟨_, rfl⟩
          rw [← hh2] at hx2 hq
          have hmod : (h2 : Int) % 4294967296 = (h2 : Int) := by omega
          by_cases hodd : z % 2 = 1
          · have hm : (z : Int).tmod 2 = 1 := by rw [Int.tmod_eq_emod_of_nonneg (by omega)]; omega
            have hst : crcStep z = h2 ^^^ 3988292384 := by rw [hh2]; simp [crcStep, hodd]
            rw [hst] at hs e1
            have E1 := Lib.hid e1
            have HS2 := Lib.hid hs
            have HX2 := Lib.hid hx2
            clear e1 hs hst hx2 hodd hh2
            go_wp2
            go_round
            case rel => exact ⟨i + 1, _, by omega, by go_num, congrArg (Value.int .u32) HX2.out, HS2.out, E1.out⟩
            case measure => simp [intOf]; omega
          · have hm : (z : Int).tmod 2 = 0 := by rw [Int.tmod_eq_emod_of_nonneg (by omega)]; omega
            have hst : crcStep z = h2 := by rw [hh2]; simp [crcStep, hodd]
            rw [hst] at hs e1
            have E1 := Lib.hid e1
            have HS2 := Lib.hid hs
            clear e1 hs hst hx2 hodd hh2
            go_wp2
            go_round
            case rel => exact ⟨i + 1, _, by omega, by go_num, rfl, HS2.out, E1.out⟩
            case measure => simp [intOf]; omega
        · have hi8 : i = 8 := by omega
          have HI := Lib.hid hi8
          go_wp2
          go_round
          case rel =>
            refine ⟨j + 1, z, by omega, by go_num, rfl, hz, ?_⟩
            show z = _
            rw [take_snoc8 s j hlt2, crcRun_snoc, ← HY.out, crcByte, HV.out, ← HZ.out, HI.out]
            rfl
          case measure => simp [intOf]; omega
    · have hjs : j = s.size := by omega
      have hfin : (4294967295 : Int) - (y : Int) = ((crc s.data.toList : Nat) : Int) := by
        have h1 := HY.out
        rw [hjs, List.take_of_length_le (by rw [toList_length]; exact Nat.le_refl _)] at h1
        unfold crc
        rw [← h1, xor_ones y hy]
        omega
      have hcl := crc_lt s.data.toList
      generalize hFc : crc s.data.toList = F at hfin hcl
      have HF := Lib.hid hFc
      have hF : (F : Int) < 4294967296 := by omega
      clear hjs HY hFc
      go_wp2
      go_ret
      exact ⟨by rw [HF.out]; rfl, rfl⟩

/-- The four bytes of a number, in the block of a literal. -/
theorem four_back (W : World) (b0 b1 b2 b3 : UInt8) : (convert 58 9 (.slice (some ⟨W.heap.size, 0, none⟩) 4 4)).run Try.prog (W.alloc (.cells #[.int .u8 b0.toNat, .int .u8 b1.toNat, .int .u8 b2.toNat, .int .u8 b3.toNat] 5)) = .ok (.string (bstr [b0, b1, b2, b3])) (W.alloc (.cells #[.int .u8 b0.toNat, .int .u8 b1.toNat, .int .u8 b2.toNat, .int .u8 b3.toNat] 5)) := by
  have hg := heap_alloc_new W (.cells #[.int .u8 b0.toNat, .int .u8 b1.toNat, .int .u8 b2.toNat, .int .u8 b3.toNat] 5)
  have hb : BArr W.heap.size [b0, b1, b2, b3] (W.alloc (.cells #[.int .u8 b0.toNat, .int .u8 b1.toNat, .int .u8 b2.toNat, .int .u8 b3.toNat] 5)) := by
    refine ⟨lt_of_heap hg, fun j hj => ?_⟩
    have hj4 : j < 4 := hj
    refine ⟨?_, Lib.frozen_of_heap hg j⟩
    rw [Lib.cell_of_heap hg]
    match j, hj4 with
    | 0, _ => rfl
    | 1, _ => rfl
    | 2, _ => rfl
    | 3, _ => rfl
  exact hb.back (P := Try.prog) 58 9 5 4 Try.underlying58 Try.underlying5 Try.underlying9

set_option maxHeartbeats 1000000 in
set_option maxRecDepth 100000 in
theorem refFour_calls (v : Nat) (w : World) (hv : v < 4294967296) :
    Calls Try.prog 62 #[.int .u32 v] w fun r w' => r = .returned (.string (bstr (leB 4 v))) ∧ Below w.heap.size w w' := by
  have hback := four_back w (UInt8.ofNat (v % 256)) (UInt8.ofNat (v / 256 % 256)) (UInt8.ofNat (v / 65536 % 256)) (UInt8.ofNat (v / 16777216 % 256))
  have e0 : ((UInt8.ofNat (v % 256)).toNat : Int) = (v : Int) % 256 := by rw [UInt8.toNat_ofNat']; omega
  have e1 : ((UInt8.ofNat (v / 256 % 256)).toNat : Int) = (v : Int) / 256 % 256 := by rw [UInt8.toNat_ofNat']; omega
  have e2 : ((UInt8.ofNat (v / 65536 % 256)).toNat : Int) = (v : Int) / 65536 % 256 := by rw [UInt8.toNat_ofNat']; omega
  have e3 : ((UInt8.ofNat (v / 16777216 % 256)).toNat : Int) = (v : Int) / 16777216 := by rw [UInt8.toNat_ofNat']; omega
  rw [e0, e1, e2, e3] at hback
  have hle : bstr [UInt8.ofNat (v % 256), UInt8.ofNat (v / 256 % 256), UInt8.ofNat (v / 65536 % 256), UInt8.ofNat (v / 16777216 % 256)] = bstr (leB 4 v) := by
    have h1 : ((v : Int) / 256).toNat = v / 256 := by omega
    have h2 : ((v : Int) / 256 / 256).toNat = v / 65536 := by omega
    have h3 : ((v : Int) / 256 / 256 / 256).toNat = v / 16777216 := by omega
    simp only [leB, h1, h2, h3, Int.toNat_natCast]
  rw [hle] at hback
  clear e0 e1 e2 e3 hle
  go_enter Try.func62, Try.ntmps62
  go_wp2
  go_ret
  exact ⟨rfl, al (Below.refl _ _) _⟩

theorem refFour_crc (l : List UInt8) (W : World) : Calls Try.prog 62 #[.int .u32 (crc l : Nat)] W fun r w' => r = .returned (.string (bstr (seal4 l))) ∧ Below W.heap.size W w' := refFour_calls (crc l) W (crc_lt l)

/-- Seal of the reference. -/
theorem refSeal_calls (s : ByteArray) (w : World) (hs : s.size ≤ 140737488355328) :
    Calls Try.prog 37 #[.string s] w fun r w' => r = .returned (.string (bstr (seal4 s.data.toList ++ s.data.toList))) ∧ Below w.heap.size w w' := by
  have hz : (bstr (seal4 s.data.toList)).size = 4 := seal4_length _
  have hfit : ¬ 9223372036854775807 < (bstr (seal4 s.data.toList)).size + s.size := by omega
  have hcat : bstr (seal4 s.data.toList) ++ s = bstr (seal4 s.data.toList ++ s.data.toList) := bapp _ s
  have HF := Lib.hid (fun W => refFour_crc s.data.toList W)
  go_enter Try.func37, Try.ntmps37
  go_wp2_with fail
  refine (refSum_calls s _ (by omega)).mono ?_
  rintro r w1 ⟨rfl, rfl⟩
  go_wp2_with fail
  refine (HF.out _).mono ?_
  rintro r w2 ⟨rfl, hb⟩
  go_wp2
  go_ret
  exact ⟨by rw [← hcat]; rfl, hb⟩

set_option maxHeartbeats 1000000 in
theorem refOpen_calls (s : ByteArray) (w : World) (hs : s.size ≤ 140737488355328) :
    Calls Try.prog 29 #[.string s] w fun r w' => r = .returned (.tuple #[.string (bstr (openB s.data.toList).1), .int .i64 (openB s.data.toList).2]) ∧ Below w.heap.size w w' := by
  by_cases h4 : s.size < 4
  · have hd : openB s.data.toList = ([], 5) := by
      unfold openB
      rw [if_pos (by rw [toList_length]; exact h4)]
    have HD := Lib.hid hd
    clear hd
    go_enter Try.func29, Try.ntmps29
    go_wp2
    go_ret2
    exact ⟨by rw [HD.out]; rfl, Below.refl _ _⟩
  · have h4i : (4 : Int) ≤ s.size := by omega
    have hx4 := ext_drop s 4
    have hx0 := ext_take s 4
    have HSUM := Lib.hid (fun W => refSum_calls (s.extract 4 s.size) W (by simp; omega))
    rw [hx4] at HSUM
    have HF := Lib.hid (fun W => refFour_crc (s.data.toList.drop 4) W)
    by_cases heq : s.data.toList.take 4 = seal4 (s.data.toList.drop 4)
    · have hd : openB s.data.toList = (s.data.toList.drop 4, 0) := by
        unfold openB
        rw [if_neg (by rw [toList_length]; exact h4), if_pos heq]
      have HD := Lib.hid hd
      have ht : ((bstr (seal4 (s.data.toList.drop 4))).toList == (s.extract 0 4).toList) = true := by
        rw [ByteArray.toList_eq, ByteArray.toList_eq, ext_take, bstr_toList]; exact beq_iff_eq.2 heq.symm
      have HX := Lib.hid (bstr_eq _ _ hx4)
      clear hd heq hx4 hx0
      go_enter Try.func29, Try.ntmps29
      go_wp2_with fail
      go_region_held3 (fun _ => True) (trivial) (first | (go_at_call 35; (refine (HSUM.out _).mono ?_); rintro r w1 ⟨rfl, rfl⟩) | (go_at_call 62; (refine (HF.out _).mono ?_); rintro r w2 ⟨rfl, hb⟩))
      go_wp2
      go_ret2
      exact ⟨by rw [HD.out, ← HX.out]; rfl, (Below.refl _ w).drew.trans hb⟩
    · have hd : openB s.data.toList = ([], 6) := by
        unfold openB
        rw [if_neg (by rw [toList_length]; exact h4), if_neg heq]
      have HD := Lib.hid hd
      have ht : ((bstr (seal4 (s.data.toList.drop 4))).toList == (s.extract 0 4).toList) = false := by
        rw [ByteArray.toList_eq, ByteArray.toList_eq, ext_take, bstr_toList]; exact beq_eq_false_iff_ne.2 (fun h => heq h.symm)
      clear hd heq hx4 hx0
      go_enter Try.func29, Try.ntmps29
      go_wp2_with fail
      go_region_held3 (fun _ => True) (trivial) (first | (go_at_call 35; (refine (HSUM.out _).mono ?_); rintro r w1 ⟨rfl, rfl⟩) | (go_at_call 62; (refine (HF.out _).mono ?_); rintro r w2 ⟨rfl, hb⟩))
      go_wp2
      go_ret2
      exact ⟨by rw [HD.out]; rfl, (Below.refl _ w).drew.trans hb⟩

set_option maxHeartbeats 1000000 in
theorem refRead_calls (s : ByteArray) (w : World) (hs : s.size ≤ 140737488355328) :
    Calls Try.prog 31 #[.string s] w fun r w' => r = .returned (.tuple #[.string (bstr (readB s.data.toList).1), .int .i64 (readB s.data.toList).2]) ∧ Below w.heap.size w w' := by
  by_cases h4 : s.size < 4
  · have hd : readB s.data.toList = ([], 5) := by
      unfold readB
      rw [if_pos (by rw [toList_length]; exact h4)]
    have HD := Lib.hid hd
    clear hd
    go_enter Try.func31, Try.ntmps31
    go_wp2
    go_ret2
    exact ⟨by rw [HD.out]; rfl, Below.refl _ _⟩
  · have h4i : (4 : Int) ≤ s.size := by omega
    obtain ⟨k, hk⟩ : ∃ k, k = s.size - 4 := ⟨_, rfl⟩
    have hks : k ≤ s.size := by omega
    have hks2 : (k : Int) ≤ (s.size : Int) := by omega
    have hk0 : (0 : Int) ≤ (k : Int) := by omega
    have hsub : (s.size : Int) - 4 = (k : Int) := by omega
    have hx0 := ext_take s k
    have hxk := ext_drop s k
    have HSUM := Lib.hid (fun W => refSum_calls (s.extract 0 k) W (by simp; omega))
    rw [hx0] at HSUM
    have HF := Lib.hid (fun W => refFour_crc (s.data.toList.take k) W)
    by_cases heq : s.data.toList.drop k = seal4 (s.data.toList.take k)
    · have hd : readB s.data.toList = (s.data.toList.take k, 0) := by
        unfold readB
        rw [toList_length, if_neg h4, ← hk, if_pos heq]
      have HD := Lib.hid hd
      have ht : ((bstr (seal4 (s.data.toList.take k))).toList == (s.extract k s.size).toList) = true := by
        rw [ByteArray.toList_eq, ByteArray.toList_eq, ext_drop, bstr_toList]; exact beq_iff_eq.2 heq.symm
      have HX := Lib.hid (bstr_eq _ _ hx0)
      clear hd heq hx0 hxk hk
      go_enter Try.func31, Try.ntmps31
      go_wp2_with fail
      go_region_held3 (fun _ => True) (trivial) (first | (go_at_call 35; (refine (HSUM.out _).mono ?_); rintro r w1 ⟨rfl, rfl⟩) | (go_at_call 62; (refine (HF.out _).mono ?_); rintro r w2 ⟨rfl, hb⟩))
      go_wp2
      go_ret2
      exact ⟨by rw [HD.out, ← HX.out]; rfl, (Below.refl _ w).drew.trans hb⟩
    · have hd : readB s.data.toList = ([], 6) := by
        unfold readB
        rw [toList_length, if_neg h4, ← hk, if_neg heq]
      have HD := Lib.hid hd
      have ht : ((bstr (seal4 (s.data.toList.take k))).toList == (s.extract k s.size).toList) = false := by
        rw [ByteArray.toList_eq, ByteArray.toList_eq, ext_drop, bstr_toList]; exact beq_eq_false_iff_ne.2 (fun h => heq h.symm)
      clear hd heq hx0 hxk hk
      go_enter Try.func31, Try.ntmps31
      go_wp2_with fail
      go_region_held3 (fun _ => True) (trivial) (first | (go_at_call 35; (refine (HSUM.out _).mono ?_); rintro r w1 ⟨rfl, rfl⟩) | (go_at_call 62; (refine (HF.out _).mono ?_); rintro r w2 ⟨rfl, hb⟩))
      go_wp2
      go_ret2
      exact ⟨by rw [HD.out]; rfl, (Below.refl _ w).drew.trans hb⟩

/-- make([]byte, n). -/
theorem make_zeroS (w : World) (n : Nat) (hn : n ≤ 1000000) :
    ∃ W, (Instr.makeSlice 58 (.int .i64 (n : Int)) (.int .i64 (n : Int))).run Try.prog w = .ok (.slice (some ⟨w.heap.size, 0, none⟩) n n) W ∧ BArr w.heap.size (List.replicate n 0) W ∧ Below w.heap.size w W := by
  obtain ⟨i0, hi', hz0, hz1, hz2⟩ := info_parts Try.info5w
  obtain ⟨W, hrun, ho, hg⟩ := run_make_full (P := Try.prog) w w.heap.size 58 5 i0 (.int .u8 0) 1 Try.underlying58 hi' hz0 hz1 .i64 .i64 n (by rw [hz2]; omega) (by simp only [maxLen]; omega) (Nat.le_refl _)
  have hB : Below w.heap.size w W := (Below.refl _ w).grown hg (Nat.le_refl _) (fun k h => by cases h)
  refine ⟨W, hrun, ?_, hB⟩
  have hz : (madeCells (Value.int .u8 0).cells (n * 1)).toList = List.replicate n (.int .u8 0) := by
    rw [Nat.mul_one]
    exact toList_madeCells_one _ _
  rw [hz] at ho
  rcases ho.2 with ⟨h1, _⟩ | ⟨g, cap, cur, h1, _, hh, hc, _, hcs, ht⟩
  · cases h1
  · cases h1
    refine ⟨lt_of_heap hh, fun j hj => ?_⟩
    have hj' : j < n := by simpa using hj
    refine ⟨?_, Lib.frozen_of_heap hh j⟩
    rw [Lib.cell_of_heap hh]
    have h2 : (cur.toList.take (n * 1))[j]? = (List.replicate n (Value.int .u8 0))[j]? := by rw [ht]
    rw [List.getElem?_take_of_lt (by omega), List.getElem?_replicate, if_pos hj'] at h2
    simpa using h2

set_option maxHeartbeats 1000000 in
set_option maxRecDepth 100000 in
theorem refStamp_calls (s : ByteArray) (n : Int) (w : World) (hs : s.size ≤ 140737488355328) (hn0 : -9223372036854775808 ≤ n) (hn1 : n ≤ 9223372036854775807) :
    Calls Try.prog 33 #[.string s, .int .i64 n] w fun r w' => r = .returned (.tuple #[.string (bstr (stampB s.data.toList n).1), .int .i64 (stampB s.data.toList n).2]) ∧ Below w.heap.size w w' := by
  by_cases h1 : n < 4
  · have HD : Hid (stampB s.data.toList n = ([], 1)) := by show _ = _; unfold stampB; rw [if_pos (.inl h1)]
    go_enter Try.func33, Try.ntmps33
    go_wp2
    go_ret2
    exact ⟨by rw [HD.out]; rfl, Below.refl _ _⟩
  by_cases h2 : 60000 < n
  · have HD : Hid (stampB s.data.toList n = ([], 1)) := by show _ = _; unfold stampB; rw [if_pos (.inr h2)]
    go_enter Try.func33, Try.ntmps33
    go_wp2
    go_ret2
    exact ⟨by rw [HD.out]; rfl, Below.refl _ _⟩
  by_cases h3 : n - 4 < (s.size : Int)
  · have HD : Hid (stampB s.data.toList n = ([], 2)) := by show _ = _; unfold stampB; rw [if_neg (by omega), if_pos (by rw [toList_length]; exact h3)]
    go_enter Try.func33, Try.ntmps33
    go_wp2
    go_ret2
    exact ⟨by rw [HD.out]; rfl, Below.refl _ _⟩
  obtain ⟨k, hk⟩ : ∃ k : Nat, n - 4 - (s.size : Int) = (k : Int) := ⟨(n - 4 - s.size).toNat, by omega⟩
  obtain ⟨W1, hmake, hb1, hB1⟩ := make_zeroS w k (by omega)
  have hback := hb1.back (P := Try.prog) 58 9 5 k Try.underlying58 Try.underlying5 Try.underlying9
  rw [List.length_replicate] at hback
  have hpad : s ++ bstr (List.replicate k 0) = bstr (s.data.toList ++ List.replicate k 0) := bapp2 _ _
  have hd : stampB s.data.toList n = (s.data.toList ++ List.replicate k 0 ++ seal4 (s.data.toList ++ List.replicate k 0), 0) := by
    unfold stampB
    rw [if_neg (by omega), if_neg (by rw [toList_length]; omega), toList_length, show (n - 4).toNat - s.size = k by omega]
  have HD := Lib.hid hd
  have HB1 := Lib.hid hB1
  have hps : (bstr (s.data.toList ++ List.replicate k 0)).size = s.size + k := by rw [bstr_size, List.length_append, toList_length, List.length_replicate]
  have hrs : (bstr (List.replicate k (0 : UInt8))).size = k := by rw [bstr_size, List.length_replicate]
  have hfit0 : ¬ 9223372036854775807 < s.size + (bstr (List.replicate k (0 : UInt8))).size := by omega
  have hss : (bstr (seal4 (s.data.toList ++ List.replicate k 0))).size = 4 := seal4_length _
  have hfit1 : ¬ 9223372036854775807 < (bstr (s.data.toList ++ List.replicate k 0)).size + (bstr (seal4 (s.data.toList ++ List.replicate k 0))).size := by omega
  have HC : Hid (bstr (s.data.toList ++ List.replicate k 0) ++ bstr (seal4 (s.data.toList ++ List.replicate k 0)) = bstr (s.data.toList ++ List.replicate k 0 ++ seal4 (s.data.toList ++ List.replicate k 0))) := bapp2 _ _
  have HSUM := Lib.hid (fun W => refSum_calls (bstr (s.data.toList ++ List.replicate k 0)) W (by omega))
  have HF := Lib.hid (fun W => refFour_crc (s.data.toList ++ List.replicate k 0) W)
  change _ = Result.ok (Value.string (bstr _)) _ at hback
  have hks : (k : Int) ≤ 60000 := by omega
  clear hd hb1 hB1
  go_enter Try.func33, Try.ntmps33
  go_wp2_with fail
  refine (HSUM.out _).mono ?_
  rintro r w2 ⟨rfl, rfl⟩
  rw [bstr_toList]
  go_wp2_with fail
  refine (HF.out _).mono ?_
  rintro r w3 ⟨rfl, hb3⟩
  go_wp2
  go_ret2
  refine ⟨?_, bl HB1.out hb3⟩
  rw [HD.out]
  simp only [← HC.out]
  rfl

end Go.Proofs.Ytpbmclaglkcmoaa
