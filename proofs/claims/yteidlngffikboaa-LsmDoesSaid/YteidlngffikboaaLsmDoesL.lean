/- LsmDoes: the law returns true for every input. -/
import Derived.Test.YteidlngffikboaaLsmDoes
import Derived.Test.YteidlngffikboaaLsmArgs
namespace Go.Proofs.Yteidlngffikboaa
open Go.RowKit
theorem lsmDoes_ok (W : World) (x0 : CntA × SlArg CntA) (w0 : QLsm W x0) (x1 : CntA × SlArg CntA) (w1 : QLsm W x1) (x2 : ByteArray) (w2 : x2.size ≤ 140737488351232) (x3 : Int) (w3 : -9223372036854775808 ≤ x3 ∧ x3 ≤ 9223372036854775807) :
    Calls Try.prog 4 #[.agg (ES2 ESl ESl x0).toArray, .agg (ES2 ESl ESl x1).toArray, .string x2, .int .i64 x3] W fun e w' => e = .returned (.bool true) ∧ Below W.heap.size W w' :=
  does_core W _ _ _ _ x2 x3 (lsm_of w0).1 (lsm_of w1).1 (lsm_of w0).2 (lsm_of w1).2 w2 w3
end Go.Proofs.Yteidlngffikboaa
