import Derived.Test.YtpbmclaglkcmoaaDoorLib
import Derived.Test.YtpbmclaglkcmoaaDoorProg
import Derived.Test.YtpbmclaglkcmoaaDoorShelf
namespace Go.Proofs.YtpbmclaglkcmoaaDoor
open Go.RowKit
theorem cloneS_calls (s : ByteArray) (w : World) (hs : s.size ≤ 281474976710656) :
    Calls Tryd.prog 62 #[.string s] w fun r w' => r = .returned (.string s) ∧ Below w.heap.size w w' := by
  go_enter Tryd.func62, Tryd.ntmps62
  go_wp2_with fail
  refine (Tryd.stringslite_Clone s _ hs).mono ?_
  rintro e w1 ⟨rfl, h1⟩
  go_wp2
  go_ret
  exact ⟨rfl, h1⟩

end Go.Proofs.YtpbmclaglkcmoaaDoor
