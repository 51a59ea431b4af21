/- LsmSums: the law returns true for every input. -/
import Derived.Test.YteidlngffikboaaLsmSumL
namespace Go.Proofs.Yteidlngffikboaa
open Go.ChangeShapes Go.WideShapes Go.ChangeAt Go.RowKit
theorem opens_i16 {H : Type} {enc : TypeId × Value → H} {P : Program} {w : World} {t : TypeId} (ht : P.underlying t = some (.int .i16)) : Opens enc P w t (EInt .i16) (fun n => -32768 ≤ n ∧ n ≤ 32767) := by
  intro fuel cs y h
  obtain ⟨n, rfl, _, hw⟩ := DataW.trod_int ht h
  refine ⟨n, rfl, ?_⟩
  simp [Lit.wf, IntKind.min, IntKind.max, IntKind.signed, IntKind.bits] at hw
  exact hw
theorem lsmSums_ok (W : World) (A0 : Option Addr) (n0 c0 : Nat) (x0 : List (UInt8 × Int × UInt8)) (w0 : Sl W A0 n0 c0 3 (x0.flatMap (ES3 EU8 (EInt .i16) EU8)) ∧ x0.length = n0 ∧ (A0 = none → c0 = 0) ∧ ∀ y ∈ x0, True ∧ (-32768 ≤ y.2.1 ∧ y.2.1 ≤ 32767) ∧ True) :
    Calls Try.prog 5 #[.slice A0 n0 c0] W fun e w' => e = .returned (.bool true) ∧ Below W.heap.size W w' :=
  sums_core W _ x0 (chg_of_sl w0.1 w0.2.1) (fun x hx => (w0.2.2.2 x hx).2.1)
end Go.Proofs.Yteidlngffikboaa
