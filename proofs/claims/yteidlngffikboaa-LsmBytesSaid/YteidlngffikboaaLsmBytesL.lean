/- LsmBytes: the law returns true for every input. -/
import Derived.Test.YteidlngffikboaaLsmBLaw
import Derived.Test.YteidlngffikboaaLsmArgs
namespace Go.Proofs.Yteidlngffikboaa
open Go.RowKit
theorem lsmBytes_ok (W : World) (x0 : CntA × SlArg CntA) (w0 : QLsm W x0) (x1 : ByteArray) (w1 : x1.size ≤ 140737488351232) :
    Calls Try.prog 3 #[.agg (ES2 ESl ESl x0).toArray, .string x1] W fun e w' => e = .returned (.bool true) ∧ Below W.heap.size W w' :=
  bytes_core W _ _ x1 (lsm_of w0).1 (lsm_of w0).2 w1
end Go.Proofs.Yteidlngffikboaa
