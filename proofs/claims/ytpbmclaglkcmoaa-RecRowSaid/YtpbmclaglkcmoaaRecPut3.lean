import Derived.Test.YtpbmclaglkcmoaaRecImgs
namespace Go.Proofs.Ytpbmclaglkcmoaa
open Go.RowKit
set_option linter.unusedVariables false
set_option linter.unusedSimpArgs false

set_option maxHeartbeats 4000000 in
set_option maxRecDepth 100000 in
theorem put_bad (e l : Int) (A : Option Addr) (c : Nat) (im : List Img) (w : World) (hI : Imgs w A im) (hl : im.length ≤ 70000) (hc : im.length ≤ c) (hv : ¬ ValidR e l im) :
    Calls Try.prog 41 #[.agg #[.int .u64 e, .int .u64 l, .slice A im.length c]] w fun r w' => ∃ cc : Int, cc ≠ 0 ∧ r = .returned (.tuple #[.string { data := #[] }, .int .i64 cc]) ∧ Below w.heap.size w w' := by
  have HV := Lib.hid hv
  have HI := Lib.hid hI
  clear hI hv
  go_enter Try.func41, Try.ntmps41
  go_wp2_with fail
  refine (wrong_calls e l A c im _ (HI.out.below (al (Below.refl _ _) _)) (by omega) hc).mono ?_
  rintro r w1 ⟨cc, rfl, hcc, hb1⟩
  have hc0 : cc ≠ 0 := fun h => HV.out (hcc.1 h)
  have hc1 : (cc != 0) = true := bne_iff_ne.2 hc0
  have HC := Lib.hid hc0
  have hB1 : Below w.heap.size w w1 := (al (Below.refl _ _) _).trans (hb1.mono (by simp))
  have HB := Lib.hid hB1
  clear hcc hb1 hB1 hc0
  go_wp2
  go_ret2
  exact ⟨cc, HC.out, rfl, HB.out⟩

theorem put_any (e l : Int) (A : Option Addr) (c : Nat) (im : List Img) (w : World) (hI : Imgs w A im) (hl : im.length ≤ 70000) (hc : im.length ≤ c) (hk : RecOk e l im) :
    Calls Try.prog 41 #[.agg #[.int .u64 e, .int .u64 l, .slice A im.length c]] w fun r w' => ∃ (q : ByteArray) (cc : Int), r = .returned (.tuple #[.string q, .int .i64 cc]) ∧ Below w.heap.size w w' ∧ (cc = 0 ↔ ValidR e l im) ∧ (ValidR e l im → q = bstr (recL e l im)) ∧ (¬ ValidR e l im → q = bstr []) := by
  by_cases hv : ValidR e l im
  · refine (put_calls e l A c im w hI hc hv hk).mono ?_
    rintro r w' ⟨rfl, hb⟩
    exact ⟨_, 0, rfl, hb, ⟨fun _ => hv, fun _ => rfl⟩, fun _ => rfl, fun h => absurd hv h⟩
  · refine (put_bad e l A c im w hI hl hc hv).mono ?_
    rintro r w' ⟨cc, h0, rfl, hb⟩
    exact ⟨_, cc, rfl, hb, ⟨fun h => absurd h h0, fun h => absurd h hv⟩, fun h => absurd h hv, fun _ => rfl⟩

theorem recL_length (e l : Int) (im : List Img) : (recL e l im).length = 64 * sN im.length := secsL_length _ _ _ _ _

end Go.Proofs.Ytpbmclaglkcmoaa
