/- the table of powers of ten, out of what the rows list. -/
import Derived.Test.YtlikmdmdmljiaaaDoorRows
import Derived.Test.YtlikmdmdmljiaaaDoorRetText
import Derived.LaidSub
import Derived.LaidMore
import Derived.Lib.LaidTab
namespace Go.Proofs.YtlikmdmdmljiaaaDoor
open Go.RowKit
theorem tab_of_laid (W : World) (h : laidMetH Tryd.prog Rows.retainTurnsRow.laid W) : Tab W := by
  rw [MakeChecks.laidMetH_plain _ _ _ (by kernel_rfl)] at h
  have h1 := laidMet.filter (fun x => x.1 == "internal/strconv.uint64pow10") h
  have e : (Rows.retainTurnsRow.laid.filter fun x => x.1 == "internal/strconv.uint64pow10") = [("internal/strconv.uint64pow10", Lib.tabData .u64 Lib.pow10Tab)] := by kernel_rfl
  rw [e] at h1
  exact Lib.tabIs_of_head (g := 0) (t := 127) (e := 96) (n := 20) (by kernel_rfl) (by kernel_rfl) Tryd.underlying127 Tryd.underlying96 (by kernel_rfl) (by kernel_rfl) h1
end Go.Proofs.YtlikmdmdmljiaaaDoor
