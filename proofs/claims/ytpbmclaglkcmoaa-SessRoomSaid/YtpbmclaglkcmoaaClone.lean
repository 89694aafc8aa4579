import Derived.Test.YtpbmclaglkcmoaaLib
import Derived.Test.YtpbmclaglkcmoaaProg
import Derived.Test.YtpbmclaglkcmoaaShelf
namespace Go.Proofs.Ytpbmclaglkcmoaa
open Go.RowKit
theorem cloneS_calls (s : ByteArray) (w : World) (hs : s.size ≤ 281474976710656) :
    Calls Try.prog 52 #[.string s] w fun r w' => r = .returned (.string s) ∧ Below w.heap.size w w' := by
  go_enter Try.func52, Try.ntmps52
  go_wp2_with fail
  refine (Try.stringslite_Clone s _ hs).mono ?_
  rintro e w1 ⟨rfl, h1⟩
  go_wp2
  go_ret
  exact ⟨rfl, h1⟩

end Go.Proofs.Ytpbmclaglkcmoaa
