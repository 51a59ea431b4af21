/- ShaSums: its walk. -/
import Derived.Test.YtclmnekadlpfkaaShaRefSum
namespace Go.Proofs.Ytclmnekadlpfkaa
open Go.RowKit
set_option linter.unusedVariables false
set_option maxRecDepth 20000 in
set_option maxHeartbeats 4000000 in
theorem shaSums_ok (W : World) (x0 : ByteArray) (w0 : x0.size ≤ 140737488351232) :
    Calls Try.prog 4 #[.string x0] W fun e w' => e = .returned (.bool true) ∧ Below W.heap.size W w' := by
  by_cases g1 : 3000 < x0.size
  · go_enter Try.func4, Try.ntmps4
    go_wp2_with fail
    refine (shaAwake_any _).mono ?_
    rintro e w1 ⟨rfl, b1⟩
    go_wp2
    go_ret
    exact ⟨rfl, b1⟩
  · have hS := fun w => shaSum_any x0 w (by omega)
    have hR := fun w => refSum_any x0 w (by omega)
    generalize shaSum x0.data.toList = T at *
    have HS := Lib.hid hS; clear hS
    have HR := Lib.hid hR; clear hR
    go_enter Try.func4, Try.ntmps4
    go_wp2_with fail
    refine (HS.out _).mono ?_
    rintro e w1 ⟨rfl, b1⟩
    go_wp2_with fail
    refine (HR.out _).mono ?_
    rintro e w2 ⟨rfl, b2⟩
    go_wp2_with fail
    refine (shaAwake_any _).mono ?_
    rintro e w3 ⟨rfl, b3⟩
    go_wp2
    go_ret
    exact ⟨rfl, below_then (below_then b1 b2) b3⟩
end Go.Proofs.Ytclmnekadlpfkaa
