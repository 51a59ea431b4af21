/-
  No cell of these rows narrows 'for every input' (looked for: loops, veiled, ifaces, maps, wideKeys, modest, calm, conditions, laid).
  DERIVED. THE GIVEN ROWS OF THIS SEAT. 3 by the template 'for every input the law returns true; each argument reads behind the call as it read before'; 0 by the template 'total and deterministic' (their statements: YtjgjhjecgdndjaaTotals.lean).
  GIVEN WITH THE SEED: the statements are not yours to turn. If you find one false, say at which input.
  Laid BY PROGRAM, IN A SANDBOX (cutbox-rows.mjs): the forced cells as the released guide's own fill.sh prints them over the translation 99a90f629ec5e4fa… (all of the seat's roots in one cut). By AI agents, Wed Nov 11 2026. No macro, syntax, notation, axiom, sorry.
-/
import Derived.Test.YtjgjhjecgdndjaaChecked
import GoSem.Claim
import GoSem.ClaimJoined
import GoSem.ClaimMapViews
import Derived.JoinedTies
import Derived.KernelRfl
namespace Go.Proofs.Ytjgjhjecgdndjaa
/- THE CELL 'sum', in the pinned program and in every row, IS THE sha256 OF THE DUMP (.gsa) THAT YtjgjhjecgdndjaaProg.lean LOADS. Nothing in Lean hashes anything: it is a label: what it is worth is what the hold of that sum in a sandbox is worth. -/
noncomputable def Try.pinned : Pinned := { name := "ytjgjhjecgdndjaa", sum := "99a90f629ec5e4faadc7c0685e996e1223a81e5906395820cc0278a0407cfb94", checked := Try.checked }
namespace Rows
def none {H : Type} : Left H := { results := [], args := [] }

/-- 'silolaw23.LinkFrames': WHATEVER THE INPUT: true; the input reads as it did. -/
def linkFramesSpec : ChangeSpec := { name := "linkFrames", fn := fun _ => fun
  | [d1, d2] => { results := [.lit (.bool true)], args := [d1, d2] }
  | _ => none }
def linkFramesRow : OpenClaim := { program := "ytjgjhjecgdndjaa", sum := "99a90f629ec5e4faadc7c0685e996e1223a81e5906395820cc0278a0407cfb94", func := "silo/silolaw23.LinkFrames", spec := "linkFrames", inPlace := ["internal/abi.NoEscape", "slices.overlaps[silo/api.Frame]"], unfollowed := true, recurses := true, apart := false }
def LinkFramesSaid : Prop := linkFramesRow.holds Try.pinned (OpenSpec.ofChange linkFramesSpec)

/-- ITS FALSE NEIGHBOUR: 'it returns false'. Refute it at one input. -/
def linkFramesWrong : ChangeSpec := { name := "linkFrames", fn := fun _ => fun
  | [d1, d2] => { results := [.lit (.bool false)], args := [d1, d2] }
  | _ => none }
def LinkFramesWrongFalsely : Prop := linkFramesRow.holds Try.pinned (OpenSpec.ofChange linkFramesWrong)

/-- 'silolaw23.LinkOrders': WHATEVER THE INPUT: true; the input reads as it did. -/
def linkOrdersSpec : ChangeSpec := { name := "linkOrders", fn := fun _ => fun
  | [d1, d2, d3, d4] => { results := [.lit (.bool true)], args := [d1, d2, d3, d4] }
  | _ => none }
def linkOrdersRow : OpenClaim := { program := "ytjgjhjecgdndjaa", sum := "99a90f629ec5e4faadc7c0685e996e1223a81e5906395820cc0278a0407cfb94", func := "silo/silolaw23.LinkOrders", spec := "linkOrders", inPlace := ["internal/abi.NoEscape", "slices.overlaps[silo/api.Frame]"], unfollowed := true, recurses := true, apart := false }
def LinkOrdersSaid : Prop := linkOrdersRow.holds Try.pinned (OpenSpec.ofChange linkOrdersSpec)

/-- ITS FALSE NEIGHBOUR: 'it returns false'. Refute it at one input. -/
def linkOrdersWrong : ChangeSpec := { name := "linkOrders", fn := fun _ => fun
  | [d1, d2, d3, d4] => { results := [.lit (.bool false)], args := [d1, d2, d3, d4] }
  | _ => none }
def LinkOrdersWrongFalsely : Prop := linkOrdersRow.holds Try.pinned (OpenSpec.ofChange linkOrdersWrong)

/-- 'silolaw23.LinkDies': WHATEVER THE INPUT: true; the input reads as it did. -/
def linkDiesSpec : ChangeSpec := { name := "linkDies", fn := fun _ => fun
  | [d] => { results := [.lit (.bool true)], args := [d] }
  | _ => none }
def linkDiesRow : OpenClaim := { program := "ytjgjhjecgdndjaa", sum := "99a90f629ec5e4faadc7c0685e996e1223a81e5906395820cc0278a0407cfb94", func := "silo/silolaw23.LinkDies", spec := "linkDies", inPlace := ["internal/abi.NoEscape", "slices.overlaps[silo/api.Frame]"], unfollowed := true, recurses := true, apart := false }
def LinkDiesSaid : Prop := linkDiesRow.holds Try.pinned (OpenSpec.ofChange linkDiesSpec)

/-- ITS FALSE NEIGHBOUR: 'it returns false'. Refute it at one input. -/
def linkDiesWrong : ChangeSpec := { name := "linkDies", fn := fun _ => fun
  | [d] => { results := [.lit (.bool false)], args := [d] }
  | _ => none }
def LinkDiesWrongFalsely : Prop := linkDiesRow.holds Try.pinned (OpenSpec.ofChange linkDiesWrong)

/- THE SECOND FORM. 'bulk': how many values and letters a reading holds, each counted each time it is reached (what is shared counts as often as it is met; a slice's spare places count too). A statement '..UptoSaid' is the law's where the arguments, and the package variables that the reading takes, are together of bulk at most 1048576: NARROWER than '..Said'. Prove '..Said' where nothing that the law and all that it calls make is longer than what came in: it says more and counts as full. Else prove '..UptoSaid'. A law counts once. -/
mutual
def uptoBulk {H : Type} : DataW H → Nat
  | .lit (.string bytes) => bytes.length + 1
  | .lit _ => 1
  | .nil => 1
  | .ptr d => uptoBulk d + 1
  | .slice elems spare => uptoBulkAll elems + uptoBulkAll spare + 1
  | .agg parts => uptoBulkAll parts + 1
  | .iface _ d => uptoBulk d + 1
  | .map entries => uptoBulkEntries entries + 1
  | .held _ => 1
def uptoBulkAll {H : Type} : List (DataW H) → Nat
  | [] => 0
  | d :: r => uptoBulk d + uptoBulkAll r
def uptoBulkEntries {H : Type} : List (Lit × DataW H) → Nat
  | [] => 0
  | x :: r => uptoBulkEntry x + uptoBulkEntries r
def uptoBulkEntry {H : Type} : Lit × DataW H → Nat
  | (.string bytes, d) => bytes.length + uptoBulk d + 1
  | (_, d) => uptoBulk d + 1
 end
def uptoSmall : (H : Type) → List (DataW H) → Bool := fun _ ds => decide (uptoBulkAll ds ≤ 1048576)
def OpenSpec.upto (s : _root_.Go.ChangeSpec) : _root_.Go.OpenSpec := { _root_.Go.OpenSpec.ofChange s with cond := some uptoSmall }

/-- 'silolaw23.LinkFrames', WHERE WHAT IT READS IS OF BULK AT MOST 1048576: true; the input reads as it did. -/
def linkFramesUptoRow : OpenClaim := { program := "ytjgjhjecgdndjaa", sum := "99a90f629ec5e4faadc7c0685e996e1223a81e5906395820cc0278a0407cfb94", func := "silo/silolaw23.LinkFrames", spec := "linkFrames", inPlace := ["internal/abi.NoEscape", "slices.overlaps[silo/api.Frame]"], unfollowed := true, recurses := true, apart := false, narrowed := true }
def LinkFramesUptoSaid : Prop := linkFramesUptoRow.holds Try.pinned (OpenSpec.upto linkFramesSpec)

/-- 'silolaw23.LinkOrders', WHERE WHAT IT READS IS OF BULK AT MOST 1048576: true; the input reads as it did. -/
def linkOrdersUptoRow : OpenClaim := { program := "ytjgjhjecgdndjaa", sum := "99a90f629ec5e4faadc7c0685e996e1223a81e5906395820cc0278a0407cfb94", func := "silo/silolaw23.LinkOrders", spec := "linkOrders", inPlace := ["internal/abi.NoEscape", "slices.overlaps[silo/api.Frame]"], unfollowed := true, recurses := true, apart := false, narrowed := true }
def LinkOrdersUptoSaid : Prop := linkOrdersUptoRow.holds Try.pinned (OpenSpec.upto linkOrdersSpec)

/-- 'silolaw23.LinkDies', WHERE WHAT IT READS IS OF BULK AT MOST 1048576: true; the input reads as it did. -/
def linkDiesUptoRow : OpenClaim := { program := "ytjgjhjecgdndjaa", sum := "99a90f629ec5e4faadc7c0685e996e1223a81e5906395820cc0278a0407cfb94", func := "silo/silolaw23.LinkDies", spec := "linkDies", inPlace := ["internal/abi.NoEscape", "slices.overlaps[silo/api.Frame]"], unfollowed := true, recurses := true, apart := false, narrowed := true }
def LinkDiesUptoSaid : Prop := linkDiesUptoRow.holds Try.pinned (OpenSpec.upto linkDiesSpec)

end Rows
end Go.Proofs.Ytjgjhjecgdndjaa
