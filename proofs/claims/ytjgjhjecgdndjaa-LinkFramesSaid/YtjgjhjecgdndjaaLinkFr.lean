/- LinkFrames: the law. -/
import Derived.Test.YtjgjhjecgdndjaaLinkAwake
import Derived.Test.YtjgjhjecgdndjaaStructs
namespace Go.Proofs.Ytjgjhjecgdndjaa
open Go.RowKit
set_option linter.unusedVariables false
theorem linkFrames_ok (W : World) (x0 : (UInt64 × Int × Int × ByteArray)) {p0 : Prop} (w0 : p0) (x1 : ByteArray) (w1 : x1.size ≤ 140737488351232) :
    Calls Try.prog 3 #[.agg ((ES4 EU64 (EInt .i64) (EInt .i64) EStr) x0).toArray, .string x1] W fun e w' => e = .returned (.bool true) ∧ Below W.heap.size W w' :=
  linkFrames_of awake_any W x0.1 x0.2.1 x0.2.2.1 x0.2.2.2 x1
end Go.Proofs.Ytjgjhjecgdndjaa
