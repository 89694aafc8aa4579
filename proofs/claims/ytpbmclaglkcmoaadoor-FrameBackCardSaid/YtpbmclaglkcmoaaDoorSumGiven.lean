import Derived.Test.YtpbmclaglkcmoaaDoorWriter
import Derived.Test.YtpbmclaglkcmoaaDoorShelf
namespace Go.Proofs.YtpbmclaglkcmoaaDoor
open Go.RowKit
set_option linter.unusedVariables false

def fourL (v : Int) : ByteArray := ⟨(leB 4 v).toArray⟩

theorem four_num (v : Int) (hv : 0 ≤ v) (hv2 : v < 4294967296) : numW ([], 0) v 4 = (leB 4 v, 0) := by
  have h : v / 4294967296 = 0 := by omega
  have hw : wrongN v 4 = 0 := by
    unfold wrongN
    rw [if_neg (by omega), if_neg (by simp [h])]
  simp [numW, failErr, hw]

set_option maxHeartbeats 1000000 in
theorem four_calls (v : Int) (w : World) (hv : 0 ≤ v) (hv2 : v < 4294967296) :
    Calls Tryd.prog 103 #[.int .u32 v] w fun r w' => r = .returned (.string (fourL v)) ∧ Below w.heap.size w w' := by
  have HN := Lib.hid (four_num v hv hv2)
  go_enter Tryd.func103, Tryd.ntmps103
  go_wp2_with fail
  refine (num_calls (fun k => w.heap.size ≤ k) w.heap.size ([], 0) v 4 _ (Wr.fresh w) hv (by omega) (by simp)).mono ?_
  rintro e w1 ⟨rfl, h1, k1⟩
  rw [HN.out] at h1
  have H1 := Lib.hid h1
  have K1 := Lib.hid k1
  clear h1 k1
  go_wp2_with fail
  refine (bytes_calls _ _ (leB 4 v, 0) _ H1.out).mono ?_
  rintro e w2 ⟨rfl, m, rfl⟩
  go_wp2
  go_ret
  refine ⟨rfl, ?_⟩
  exact ((((KeptF.refl (fun k => w.heap.size ≤ k) w).alloc _).trans (K1.out.mono (fun k _ hk => .inl hk))).below (Nat.le_refl _) (fun k hk => by omega)).trans ⟨rfl, rfl, rfl, Nat.le_refl _, fun _ _ => rfl⟩

set_option maxHeartbeats 400000 in
theorem clone_calls (s : ByteArray) (w : World) (hs : s.size ≤ 281474976710656) :
    Calls Tryd.prog 62 #[.string s] w fun r w' => r = .returned (.string s) ∧ Below w.heap.size w w' := by
  go_enter Tryd.func62, Tryd.ntmps62
  go_wp2_with fail
  refine (Tryd.stringslite_Clone s _ hs).mono ?_
  rintro e w2 ⟨rfl, hb⟩
  go_wp2
  go_ret
  exact ⟨rfl, hb⟩

end Go.Proofs.YtpbmclaglkcmoaaDoor
