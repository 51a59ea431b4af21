/- RetainAll: the law, over the arguments as the row opens them. -/
import Derived.Test.YtlikmdmdmljiaaaDoorRetAll
import Derived.Test.YtlikmdmdmljiaaaDoorRows
import Derived.LaidSub
import Derived.LaidMore
import Derived.Lib.LaidTab
namespace Go.Proofs.YtlikmdmdmljiaaaDoor
open Go.RowKit
set_option linter.unusedVariables false
theorem tab_of_laidA (W : World) (h : laidMetH Tryd.prog Rows.retainAllRow.laid W) : Tab W := by
  rw [MakeChecks.laidMetH_plain _ _ _ (by kernel_rfl)] at h
  have h1 := laidMet.filter (fun x => x.1 == "internal/strconv.uint64pow10") h
  have e : (Rows.retainAllRow.laid.filter fun x => x.1 == "internal/strconv.uint64pow10") = [("internal/strconv.uint64pow10", Lib.tabData .u64 Lib.pow10Tab)] := by kernel_rfl
  rw [e] at h1
  exact Lib.tabIs_of_head (g := 0) (t := 127) (e := 96) (n := 20) (by kernel_rfl) (by kernel_rfl) Tryd.underlying127 Tryd.underlying96 (by kernel_rfl) (by kernel_rfl) h1
theorem six_bytes {x1 : List UInt8} (h : x1.length = 6) : Value.agg (x1.flatMap EU8).toArray = .agg #[.int .u8 ((x1.getD 0 0).toNat : Nat), .int .u8 ((x1.getD 1 0).toNat : Nat), .int .u8 ((x1.getD 2 0).toNat : Nat), .int .u8 ((x1.getD 3 0).toNat : Nat), .int .u8 ((x1.getD 4 0).toNat : Nat), .int .u8 ((x1.getD 5 0).toNat : Nat)] := by
  match x1, h with
  | [a, b, c, d, e, f], _ => rfl
theorem retainAll_ok (W : World) (ht : Tab W) (x0 : Int × Int × Int × Int × Int × Int)
    (w0 : (-9223372036854775808 ≤ x0.1 ∧ x0.1 ≤ 9223372036854775807) ∧ (-9223372036854775808 ≤ x0.2.1 ∧ x0.2.1 ≤ 9223372036854775807) ∧ (-9223372036854775808 ≤ x0.2.2.1 ∧ x0.2.2.1 ≤ 9223372036854775807) ∧ (-9223372036854775808 ≤ x0.2.2.2.1 ∧ x0.2.2.2.1 ≤ 9223372036854775807) ∧ (-9223372036854775808 ≤ x0.2.2.2.2.1 ∧ x0.2.2.2.2.1 ≤ 9223372036854775807) ∧ (-9223372036854775808 ≤ x0.2.2.2.2.2 ∧ x0.2.2.2.2.2 ≤ 9223372036854775807))
    (x1 : List UInt8) {w1P : Prop} (w1 : x1.length = 6 ∧ w1P) (A2 : Option Addr) (n2 c2 : Nat) (x2 : List (ByteArray × Int)) {w2P : Prop} (w2 : Sl W A2 n2 c2 2 (x2.flatMap (ES2 EStr (EInt .i64))) ∧ x2.length = n2 ∧ (A2 = none → c2 = 0) ∧ w2P) :
    Calls Tryd.prog 3 #[.agg ((ES6 (EInt .i64) (EInt .i64) (EInt .i64) (EInt .i64) (EInt .i64) (EInt .i64)) x0).toArray, .agg ((fun xs => List.flatMap EU8 xs) x1).toArray, .slice A2 n2 c2] W fun e w' => e = .returned (.bool true) ∧ Below W.heap.size W w' := by
  obtain ⟨a, b, c, d, e, f⟩ := x0
  have hv : MkN W (.slice A2 n2 c2) x2 := ⟨mk_of_sl w2.1 w2.2.1, fun n c e => by cases e; exact w2.2.2.1 rfl⟩
  have h := retAll_any W ⟨a, b, c, d, e, f⟩ (fun i => (x1.getD i 0).toNat) (.slice A2 n2 c2) x2 ⟨w0.1, w0.2.1, w0.2.2.1, w0.2.2.2.1, w0.2.2.2.2.1, w0.2.2.2.2.2⟩ (fun i => (x1.getD i 0).toNat_lt) hv ht
  have e1 : Value.agg ((fun xs => List.flatMap EU8 xs) x1).toArray = _ := six_bytes w1.1
  rw [e1]
  exact h
end Go.Proofs.YtlikmdmdmljiaaaDoor
