import Derived.Test.YtpbmclaglkcmoaaDoorCrc
import Derived.Test.YtpbmclaglkcmoaaDoorSumGiven
import Derived.Test.YtpbmclaglkcmoaaDoorLib
import Derived.Deep.RegionWith
namespace Go.Proofs.YtpbmclaglkcmoaaDoor
open Go.RowKit
set_option linter.unusedVariables false

/-- A slice of strings, as it lies in a world. -/
def Strs (w : World) (A : Option Addr) (l : List ByteArray) : Prop :=
  ∀ j (h : j < l.length), ∃ a, A = some a ∧ w.cell? (a.add j) = some (.string l[j])

def catL (l : List ByteArray) : List UInt8 := l.flatMap (fun s => s.data.toList)

theorem catL_snoc (l : List ByteArray) (k : Nat) (h : k < l.length) : catL (l.take (k + 1)) = catL (l.take k) ++ l[k].data.toList := by
  rw [List.take_succ_eq_append_getElem h]
  unfold catL
  rw [List.flatMap_append]
  simp

theorem crcRun_snoc (x : Nat) (l : List UInt8) (c : UInt8) : crcRun x (l ++ [c]) = crcByte (crcRun x l) c := by
  rw [crcRun_append]; rfl

set_option maxHeartbeats 1000000 in
theorem of_calls (A : Option Addr) (c : Nat) (l : List ByteArray) (w : World) (h : Strs w A l) (hl : l.length ≤ 9223372036854775807) (hs : ∀ s ∈ l, s.size ≤ 9223372036854775807) :
    Calls Tryd.prog 104 #[.slice A l.length c] w fun r w' => r = .returned (.int .u32 (crc (catL l) : Nat)) ∧ w = w' := by
  have HS := Lib.hid h
  have HSZ := Lib.hid hs
  clear h hs
  go_enter Tryd.func104, Tryd.ntmps104
  go_wp2_with fail
  go_loop [3, 10] (fun s3 s10 => ∃ (k x : Nat), k ≤ l.length ∧ s10 = .int .i64 k ∧ s3 = .int .u32 x ∧ x < 4294967296 ∧ Hid (x = crcRun 4294967295 (catL (l.take k)))) (fun _ s10 => l.length - (intOf s10).toNat)
  case atStart => exact ⟨0, 4294967295, Nat.zero_le _, rfl, rfl, by decide, rfl⟩
  case round =>
    obtain ⟨k, x, hk, rfl, rfl, hx, HX⟩ := hrel
    by_cases hlt : k < l.length
    · obtain ⟨a, hA, hc⟩ := HS.out k hlt
      subst hA
      have hsz := HSZ.out l[k] (List.getElem_mem hlt)
      generalize hsk : l[k] = s at hc hsz
      have HSK := Lib.hid hsk
      clear hsk
      go_wp2_with fail
      go_loop [3, 16] (fun s3 s16 => ∃ (j y : Nat), j ≤ s.size ∧ s16 = .int .i64 j ∧ s3 = .int .u32 y ∧ y < 4294967296 ∧ Hid (y = crcRun x (s.data.toList.take j))) (fun _ s16 => s.size - (intOf s16).toNat)
      case atStart => exact ⟨0, x, Nat.zero_le _, rfl, rfl, hx, rfl⟩
      case round =>
        obtain ⟨j, y, hj, rfl, rfl, hy, HY⟩ := hrel
        by_cases hlt2 : j < s.size
        · have hcl : (s[j].toNat : Int) < 4294967296 := by have := s[j].toNat_lt; omega
          have hcl2 : s[j].toNat < 4294967296 := by omega
          have hxr := xor_u32 y s[j].toNat hy hcl2
          have hxl := xor_lt y s[j].toNat hy hcl2
          generalize hv : y ^^^ s[j].toNat = v at hxr hxl
          have HV := Lib.hid hv
          clear hv
          go_wp2_with fail
          go_loop [3, 25] (fun s3 s25 => ∃ (i z : Nat), i ≤ 8 ∧ s25 = .int .i64 i ∧ s3 = .int .u32 z ∧ z < 4294967296 ∧ Hid (crcN (8 - i) z = crcN 8 v)) (fun _ s25 => 8 - (intOf s25).toNat)
          case atStart => exact ⟨0, v, Nat.zero_le _, rfl, rfl, hxl, rfl⟩
          case round =>
            obtain ⟨i, z, hi, rfl, rfl, hz, HZ⟩ := hrel
            clear hxr hcl hcl2
            by_cases hlt3 : i < 8
            · have ha := and_one_u32 z hz
              have hs := crcStep_lt z hz
              have hx2 := xor_u32 (z / 2) 3988292384 (by omega) (by decide)
              have e1 : crcN (8 - (i + 1)) (crcStep z) = crcN 8 v := by
                rw [← HZ.out, show 8 - i = (8 - (i + 1)) + 1 from by omega]; rfl
              by_cases hodd : z % 2 = 1
              · have hst : crcStep z = z / 2 ^^^ 3988292384 := by simp [crcStep, hodd]
                rw [hst] at hs e1
                rw [hodd] at ha
                have E1 := Lib.hid e1
                have HS2 := Lib.hid hs
                have HX2 := Lib.hid hx2
                clear e1 hs hst hx2
                go_wp2
                go_round
                case rel => exact ⟨i + 1, _, by omega, by go_num, congrArg (Value.int .u32) HX2.out, HS2.out, E1.out⟩
                case measure => simp [intOf]; omega
              · have h0 : z % 2 = 0 := by omega
                have hst : crcStep z = z / 2 := by simp [crcStep, hodd]
                rw [hst] at hs e1
                rw [h0] at ha
                have E1 := Lib.hid e1
                have HS2 := Lib.hid hs
                clear e1 hs hst hx2
                go_wp2
                go_round
                case rel => exact ⟨i + 1, _, by omega, by go_num, by go_num, HS2.out, E1.out⟩
                case measure => simp [intOf]; omega
            · have hi8 : i = 8 := by omega
              have HI := Lib.hid hi8
              go_wp2
              go_round
              case rel =>
                refine ⟨j + 1, z, by omega, by go_num, rfl, hz, ?_⟩
                show z = _
                rw [take_snoc8 s j hlt2, crcRun_snoc, ← HY.out, crcByte, HV.out, ← HZ.out, HI.out]
                rfl
              case measure => simp [intOf]; omega
        · have hjs : j = s.size := by omega
          have HJ := Lib.hid hjs
          clear hjs
          go_wp2
          go_round
          case rel =>
            refine ⟨k + 1, y, by omega, by go_num, rfl, hy, ?_⟩
            show y = _
            rw [catL_snoc l k hlt, crcRun_append, ← HX.out, HSK.out, HY.out, HJ.out]
            rw [List.take_of_length_le (by simp)]
          case measure => simp [intOf]; omega
    · have hkl : k = l.length := by omega
      have hxr := xor_u32 4294967295 x (by decide) hx
      have hmax : IntKind.u32.max = 4294967295 := rfl
      have HKL := Lib.hid hkl
      clear hkl
      go_wp2
      go_ret
      refine ⟨?_, rfl⟩
      have e1 : x = crcRun 4294967295 (catL l) := by
        have := HX.out
        rwa [HKL.out, List.take_length] at this
      unfold crc
      rw [← e1]
      exact congrArg (fun n : Int => Ending.returned (Value.int .u32 n)) hxr

/-- The sum of bytes, as four bytes. -/
def seal4 (l : List UInt8) : List UInt8 := leB 4 (crc l : Nat)
theorem seal4_length (l : List UInt8) : (seal4 l).length = 4 := leB_length _ _
theorem fourL_crc (l : List UInt8) : fourL (crc l : Nat) = ⟨(seal4 l).toArray⟩ := rfl

theorem strs_new (w : World) (l : List ByteArray) (t : TypeId) : Strs (w.alloc (.cells (l.map Value.string).toArray t)) (some ⟨w.heap.size, 0, none⟩) l := by
  intro j h
  refine ⟨_, rfl, ?_⟩
  rw [Addr.add_lit, Lib.cell_of_heap (heap_alloc_new w _)]
  simp [h]

theorem strs_one (w : World) (s : ByteArray) (t : TypeId) : Strs (w.alloc (.cells #[.string s] t)) (some ⟨w.heap.size, 0, none⟩) [s] := strs_new w [s] t

theorem of_one (w : World) (s : ByteArray) (t : TypeId) (hs : s.size ≤ 9223372036854775807) :
    Calls Tryd.prog 104 #[.slice (some ⟨w.heap.size, 0, none⟩) 1 1] (w.alloc (.cells #[.string s] t)) fun r w' => r = .returned (.int .u32 (crc s.data.toList : Nat)) ∧ w.alloc (.cells #[.string s] t) = w' := by
  have h := of_calls (some ⟨w.heap.size, 0, none⟩) 1 [s] (w.alloc (.cells #[.string s] t)) (strs_one w s t) (by simp) (by simpa using hs)
  simpa [catL] using h

set_option maxHeartbeats 1000000 in
/-- Seal: the sum ahead of the bytes. -/
theorem seal_calls (s : ByteArray) (w : World) (hs : s.size ≤ 140737488355328) :
    Calls Tryd.prog 80 #[.string s] w fun r w' => r = .returned (.string ⟨(seal4 s.data.toList ++ s.data.toList).toArray⟩) ∧ Below w.heap.size w w' := by
  go_enter Tryd.func80, Tryd.ntmps80
  go_wp2_with fail
  refine (of_one w s _ (by omega)).mono ?_
  rintro e w1 ⟨rfl, rfl⟩
  have hcr := crc_lt s.data.toList
  go_wp2_with fail
  refine (four_calls _ _ (by omega) (by omega)).mono ?_
  rintro e w1 ⟨rfl, hb⟩
  rw [fourL_crc]
  have h4 := seal4_length s.data.toList
  go_wp2
  go_ret
  exact ⟨congrArg (fun x => Ending.returned (Value.string x)) (bapp _ _), ((Below.refl _ w).alloc (Nat.le_refl _) _).trans (hb.mono (by simp))⟩

/-- Open: what it tells. -/
def openB (b : List UInt8) : List UInt8 × Int :=
  if b.length < 4 then ([], 5) else if b.take 4 = seal4 (b.drop 4) then (b.drop 4, 0) else ([], 6)

/-- Of one string, wherever its slice lies. -/
theorem of_at (W : World) (b : Nat) (s : ByteArray) (l : List UInt8) (hsl : s.data.toList = l) (hs : s.size ≤ 9223372036854775807) (hc : W.cell? ⟨b, 0, none⟩ = some (.string s)) :
    Calls Tryd.prog 104 #[.slice (some ⟨b, 0, none⟩) 1 1] W fun r w' => r = .returned (.int .u32 (crc l : Nat)) ∧ W = w' := by
  subst hsl
  have h := of_calls (some ⟨b, 0, none⟩) 1 [s] W (fun j h => ⟨_, rfl, by
    have hj : j = 0 := by simp at h; omega
    subst hj
    rw [Addr.add_lit]
    exact hc⟩) (by simp) (by simpa using hs)
  simpa [catL] using h

theorem four_crc (l : List UInt8) (W : World) :
    Calls Tryd.prog 103 #[.int .u32 (crc l : Nat)] W fun r w' => r = .returned (.string ⟨(seal4 l).toArray⟩) ∧ Below W.heap.size W w' := by
  have hcr := crc_lt l
  exact four_calls _ W (by omega) (by omega)

set_option maxHeartbeats 1000000 in
theorem open_calls (s : ByteArray) (w : World) (hs : s.size ≤ 140737488355328) :
    Calls Tryd.prog 82 #[.string s] w fun r w' => r = .returned (.tuple #[.string (bstr (openB s.data.toList).1), .int .i64 (openB s.data.toList).2]) ∧ Below w.heap.size w w' := by
  by_cases h4 : s.size < 4
  · have hd : openB s.data.toList = ([], 5) := by
      unfold openB
      rw [if_pos (by rw [toList_length]; exact h4)]
    have HD := Lib.hid hd
    clear hd
    go_enter Tryd.func82, Tryd.ntmps82
    go_wp2
    go_ret2
    exact ⟨by rw [HD.out]; rfl, Below.refl _ _⟩
  · have h4i : (4 : Int) ≤ s.size := by omega
    have hex := Lib.hid (ext_drop s 4)
    by_cases heq : s.data.toList.take 4 = seal4 (s.data.toList.drop 4)
    · have hd : openB s.data.toList = (s.data.toList.drop 4, 0) := by
        unfold openB
        rw [if_neg (by rw [toList_length]; exact h4), if_pos heq]
      have HD := Lib.hid hd
      have ht : ((s.extract 0 4).toList == seal4 (s.data.toList.drop 4)) = true := by
        rw [ByteArray.toList_eq, ext_take]; exact beq_iff_eq.2 heq
      clear hd heq
      generalize List.drop 4 s.data.toList = q at ht HD hex
      go_enter Tryd.func82, Tryd.ntmps82
      go_wp2_with fail
      go_region_with (first | (go_at_call 104; (refine (of_at _ _ (s.extract 4 s.size) q hex.out (by simp; omega) (by exact Lib.cell_of_heap (heap_alloc_new w _) 0)).mono ?_); rintro e w1 ⟨rfl, rfl⟩) | (go_at_call 103; refine (four_crc _ _).mono ?_; rintro e w1 ⟨rfl, hb⟩))
      go_wp2_with fail
      refine (clone_calls _ _ (by simp; omega)).mono ?_
      rintro e w2 ⟨rfl, hb2⟩
      go_wp2
      go_ret2
      refine ⟨by rw [HD.out, bstr_eq _ _ hex.out]; rfl, ?_⟩
      exact (((Below.refl _ w).alloc (Nat.le_refl _) _).drew.trans (hb.mono (by simp))).trans (hb2.mono (by have := hb.size; simp at this; omega))
    · have hd : openB s.data.toList = ([], 6) := by
        unfold openB
        rw [if_neg (by rw [toList_length]; exact h4), if_neg heq]
      have HD := Lib.hid hd
      have ht : ((s.extract 0 4).toList == seal4 (s.data.toList.drop 4)) = false := by
        rw [ByteArray.toList_eq, ext_take]; exact beq_eq_false_iff_ne.2 heq
      clear hd heq
      generalize List.drop 4 s.data.toList = q at ht HD hex
      go_enter Tryd.func82, Tryd.ntmps82
      go_wp2_with fail
      go_region_with (first | (go_at_call 104; (refine (of_at _ _ (s.extract 4 s.size) q hex.out (by simp; omega) (by exact Lib.cell_of_heap (heap_alloc_new w _) 0)).mono ?_); rintro e w1 ⟨rfl, rfl⟩) | (go_at_call 103; refine (four_crc _ _).mono ?_; rintro e w1 ⟨rfl, hb⟩))
      go_wp2
      go_ret2
      refine ⟨by rw [HD.out]; rfl, ?_⟩
      exact (((Below.refl _ w).alloc (Nat.le_refl _) _).drew.trans (hb.mono (by simp)))

end Go.Proofs.YtpbmclaglkcmoaaDoor
