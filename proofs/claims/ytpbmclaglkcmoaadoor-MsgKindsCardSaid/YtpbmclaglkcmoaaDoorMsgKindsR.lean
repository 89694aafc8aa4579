import Derived.Test.YtpbmclaglkcmoaaDoorMsgKinds
namespace Go.Proofs.YtpbmclaglkcmoaaDoor
open Go.RowKit
set_option linter.unusedVariables false

theorem msgKinds_row (k n : Int) (w : World) (hk : (Lit.int .i64 k).wf = true) (hn : (Lit.int .i64 n).wf = true) :
    Calls Tryd.prog 6 #[.int .i64 k, .int .i64 n] w fun r w' => r = .returned (.bool true) ∧ Below w.heap.size w w' := msgKinds_calls k n w

end Go.Proofs.YtpbmclaglkcmoaaDoor
