/-
  No cell of these rows narrows 'for every input' (looked for: loops, veiled, ifaces, maps, wideKeys, modest, calm, conditions, laid).
  DERIVED. THE GIVEN ROWS OF THIS SEAT. 3 by the template 'for every input the law returns true; each argument reads behind the call as it read before'; 0 by the template 'total and deterministic' (their statements: YteidlngffikboaaTotals.lean).
  GIVEN WITH THE SEED: the statements are not yours to turn. If you find one false, say at which input.
  Laid BY PROGRAM, IN A SANDBOX (cutbox-rows.mjs): the forced cells as the released guide's own fill.sh prints them over the translation 7f6bfd9da950bb71… (all of the seat's roots in one cut). By AI agents, Wed Nov 11 2026. No macro, syntax, notation, axiom, sorry.
-/
import Derived.Test.YteidlngffikboaaChecked
import GoSem.Claim
import GoSem.ClaimJoined
import GoSem.ClaimMapViews
import Derived.JoinedTies
import Derived.KernelRfl
namespace Go.Proofs.Yteidlngffikboaa
/- THE CELL 'sum', in the pinned program and in every row, IS THE sha256 OF THE DUMP (.gsa) THAT YteidlngffikboaaProg.lean LOADS. Nothing in Lean hashes anything: it is a label: what it is worth is what the hold of that sum in a sandbox is worth. -/
noncomputable def Try.pinned : Pinned := { name := "yteidlngffikboaa", sum := "7f6bfd9da950bb71622e9e07c05322803967b0e2c1e03e81f55ae5ae2aad6607", checked := Try.checked }
namespace Rows
def none {H : Type} : Left H := { results := [], args := [] }

/-- 'silolaw38.LsmBytes': WHATEVER THE INPUT: true; the input reads as it did. -/
def lsmBytesSpec : ChangeSpec := { name := "lsmBytes", fn := fun _ => fun
  | [d1, d2] => { results := [.lit (.bool true)], args := [d1, d2] }
  | _ => none }
def lsmBytesRow : OpenClaim := { program := "yteidlngffikboaa", sum := "7f6bfd9da950bb71622e9e07c05322803967b0e2c1e03e81f55ae5ae2aad6607", func := "silo/silolaw38.LsmBytes", spec := "lsmBytes", inPlace := ["internal/abi.NoEscape"], unfollowed := true, recurses := true, apart := false }
def LsmBytesSaid : Prop := lsmBytesRow.holds Try.pinned (OpenSpec.ofChange lsmBytesSpec)

/-- ITS FALSE NEIGHBOUR: 'it returns false'. Refute it at one input. -/
def lsmBytesWrong : ChangeSpec := { name := "lsmBytes", fn := fun _ => fun
  | [d1, d2] => { results := [.lit (.bool false)], args := [d1, d2] }
  | _ => none }
def LsmBytesWrongFalsely : Prop := lsmBytesRow.holds Try.pinned (OpenSpec.ofChange lsmBytesWrong)

/-- 'silolaw38.LsmDoes': WHATEVER THE INPUT: true; the input reads as it did. -/
def lsmDoesSpec : ChangeSpec := { name := "lsmDoes", fn := fun _ => fun
  | [d1, d2, d3, d4] => { results := [.lit (.bool true)], args := [d1, d2, d3, d4] }
  | _ => none }
def lsmDoesRow : OpenClaim := { program := "yteidlngffikboaa", sum := "7f6bfd9da950bb71622e9e07c05322803967b0e2c1e03e81f55ae5ae2aad6607", func := "silo/silolaw38.LsmDoes", spec := "lsmDoes", unfollowed := true, recurses := true, apart := false }
def LsmDoesSaid : Prop := lsmDoesRow.holds Try.pinned (OpenSpec.ofChange lsmDoesSpec)

/-- ITS FALSE NEIGHBOUR: 'it returns false'. Refute it at one input. -/
def lsmDoesWrong : ChangeSpec := { name := "lsmDoes", fn := fun _ => fun
  | [d1, d2, d3, d4] => { results := [.lit (.bool false)], args := [d1, d2, d3, d4] }
  | _ => none }
def LsmDoesWrongFalsely : Prop := lsmDoesRow.holds Try.pinned (OpenSpec.ofChange lsmDoesWrong)

/-- 'silolaw38.LsmSums': WHATEVER THE INPUT: true; the input reads as it did. -/
def lsmSumsSpec : ChangeSpec := { name := "lsmSums", fn := fun _ => fun
  | [d] => { results := [.lit (.bool true)], args := [d] }
  | _ => none }
def lsmSumsRow : OpenClaim := { program := "yteidlngffikboaa", sum := "7f6bfd9da950bb71622e9e07c05322803967b0e2c1e03e81f55ae5ae2aad6607", func := "silo/silolaw38.LsmSums", spec := "lsmSums", inPlace := ["internal/abi.NoEscape"], unfollowed := true, recurses := true, apart := false }
def LsmSumsSaid : Prop := lsmSumsRow.holds Try.pinned (OpenSpec.ofChange lsmSumsSpec)

/-- ITS FALSE NEIGHBOUR: 'it returns false'. Refute it at one input. -/
def lsmSumsWrong : ChangeSpec := { name := "lsmSums", fn := fun _ => fun
  | [d] => { results := [.lit (.bool false)], args := [d] }
  | _ => none }
def LsmSumsWrongFalsely : Prop := lsmSumsRow.holds Try.pinned (OpenSpec.ofChange lsmSumsWrong)

/- THE SECOND FORM. 'bulk': how many values and letters a reading holds, each counted each time it is reached (what is shared counts as often as it is met; a slice's spare places count too). A statement '..UptoSaid' is the law's where the arguments, and the package variables that the reading takes, are together of bulk at most 1048576: NARROWER than '..Said'. Prove '..Said' where nothing that the law and all that it calls make is longer than what came in: it says more and counts as full. Else prove '..UptoSaid'. A law counts once. -/
mutual
def uptoBulk {H : Type} : DataW H → Nat
  | .lit (.string bytes) => bytes.length + 1
  | .lit _ => 1
  | .nil => 1
  | .ptr d => uptoBulk d + 1
  | .slice elems spare => uptoBulkAll elems + uptoBulkAll spare + 1
  | .agg parts => uptoBulkAll parts + 1
  | .iface _ d => uptoBulk d + 1
  | .map entries => uptoBulkEntries entries + 1
  | .held _ => 1
def uptoBulkAll {H : Type} : List (DataW H) → Nat
  | [] => 0
  | d :: r => uptoBulk d + uptoBulkAll r
def uptoBulkEntries {H : Type} : List (Lit × DataW H) → Nat
  | [] => 0
  | x :: r => uptoBulkEntry x + uptoBulkEntries r
def uptoBulkEntry {H : Type} : Lit × DataW H → Nat
  | (.string bytes, d) => bytes.length + uptoBulk d + 1
  | (_, d) => uptoBulk d + 1
 end
def uptoSmall : (H : Type) → List (DataW H) → Bool := fun _ ds => decide (uptoBulkAll ds ≤ 1048576)
def OpenSpec.upto (s : _root_.Go.ChangeSpec) : _root_.Go.OpenSpec := { _root_.Go.OpenSpec.ofChange s with cond := some uptoSmall }

/-- 'silolaw38.LsmBytes', WHERE WHAT IT READS IS OF BULK AT MOST 1048576: true; the input reads as it did. -/
def lsmBytesUptoRow : OpenClaim := { program := "yteidlngffikboaa", sum := "7f6bfd9da950bb71622e9e07c05322803967b0e2c1e03e81f55ae5ae2aad6607", func := "silo/silolaw38.LsmBytes", spec := "lsmBytes", inPlace := ["internal/abi.NoEscape"], unfollowed := true, recurses := true, apart := false, narrowed := true }
def LsmBytesUptoSaid : Prop := lsmBytesUptoRow.holds Try.pinned (OpenSpec.upto lsmBytesSpec)

/-- 'silolaw38.LsmDoes', WHERE WHAT IT READS IS OF BULK AT MOST 1048576: true; the input reads as it did. -/
def lsmDoesUptoRow : OpenClaim := { program := "yteidlngffikboaa", sum := "7f6bfd9da950bb71622e9e07c05322803967b0e2c1e03e81f55ae5ae2aad6607", func := "silo/silolaw38.LsmDoes", spec := "lsmDoes", unfollowed := true, recurses := true, apart := false, narrowed := true }
def LsmDoesUptoSaid : Prop := lsmDoesUptoRow.holds Try.pinned (OpenSpec.upto lsmDoesSpec)

/-- 'silolaw38.LsmSums', WHERE WHAT IT READS IS OF BULK AT MOST 1048576: true; the input reads as it did. -/
def lsmSumsUptoRow : OpenClaim := { program := "yteidlngffikboaa", sum := "7f6bfd9da950bb71622e9e07c05322803967b0e2c1e03e81f55ae5ae2aad6607", func := "silo/silolaw38.LsmSums", spec := "lsmSums", inPlace := ["internal/abi.NoEscape"], unfollowed := true, recurses := true, apart := false, narrowed := true }
def LsmSumsUptoSaid : Prop := lsmSumsUptoRow.holds Try.pinned (OpenSpec.upto lsmSumsSpec)

end Rows
end Go.Proofs.Yteidlngffikboaa
