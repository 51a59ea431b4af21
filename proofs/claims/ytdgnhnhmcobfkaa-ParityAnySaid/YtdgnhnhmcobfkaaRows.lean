/-
  No cell of these rows narrows 'for every input' (looked for: loops, veiled, ifaces, maps, wideKeys, modest, calm, conditions, laid).
  DERIVED. THE GIVEN ROWS OF THIS SEAT. 7 by the template 'for every input the law returns true; each argument reads behind the call as it read before'; 0 by the template 'total and deterministic' (their statements: YtdgnhnhmcobfkaaTotals.lean).
  GIVEN WITH THE SEED: the statements are not yours to turn. If you find one false, say at which input.
  Laid BY PROGRAM, IN A SANDBOX (cutbox-rows.mjs): the forced cells as the released guide's own fill.sh prints them over the translation 7c2f2f3bfaf34118… (all of the seat's roots in one cut). By AI agents, Wed Nov 11 2026. No macro, syntax, notation, axiom, sorry.
-/
import Derived.Test.YtdgnhnhmcobfkaaChecked
import GoSem.Claim
import GoSem.ClaimJoined
import GoSem.ClaimMapViews
import Derived.JoinedTies
import Derived.KernelRfl
namespace Go.Proofs.Ytdgnhnhmcobfkaa
/- THE CELL 'sum', in the pinned program and in every row, IS THE sha256 OF THE DUMP (.gsa) THAT YtdgnhnhmcobfkaaProg.lean LOADS. Nothing in Lean hashes anything: it is a label: what it is worth is what the hold of that sum in a sandbox is worth. -/
noncomputable def Try.pinned : Pinned := { name := "ytdgnhnhmcobfkaa", sum := "7c2f2f3bfaf34118ded7cae01afa01a29fbee22ce27965ceb65fcb7a020725aa", checked := Try.checked }
namespace Rows
def none {H : Type} : Left H := { results := [], args := [] }

/-- 'silolaw35.GfField': WHATEVER THE INPUT: true; the input reads as it did. -/
def gfFieldSpec : ChangeSpec := { name := "gfField", fn := fun _ => fun
  | [d1, d2, d3, d4, d5] => { results := [.lit (.bool true)], args := [d1, d2, d3, d4, d5] }
  | _ => none }
def gfFieldRow : OpenClaim := { program := "ytdgnhnhmcobfkaa", sum := "7c2f2f3bfaf34118ded7cae01afa01a29fbee22ce27965ceb65fcb7a020725aa", func := "silo/silolaw35.GfField", spec := "gfField", unfollowed := true, recurses := true, apart := false }
def GfFieldSaid : Prop := gfFieldRow.holds Try.pinned (OpenSpec.ofChange gfFieldSpec)

/-- ITS FALSE NEIGHBOUR: 'it returns false'. Refute it at one input. -/
def gfFieldWrong : ChangeSpec := { name := "gfField", fn := fun _ => fun
  | [d1, d2, d3, d4, d5] => { results := [.lit (.bool false)], args := [d1, d2, d3, d4, d5] }
  | _ => none }
def GfFieldWrongFalsely : Prop := gfFieldRow.holds Try.pinned (OpenSpec.ofChange gfFieldWrong)

/-- 'silolaw35.GfDoes': WHATEVER THE INPUT: true; the input reads as it did. -/
def gfDoesSpec : ChangeSpec := { name := "gfDoes", fn := fun _ => fun
  | [d1, d2, d3, d4, d5] => { results := [.lit (.bool true)], args := [d1, d2, d3, d4, d5] }
  | _ => none }
def gfDoesRow : OpenClaim := { program := "ytdgnhnhmcobfkaa", sum := "7c2f2f3bfaf34118ded7cae01afa01a29fbee22ce27965ceb65fcb7a020725aa", func := "silo/silolaw35.GfDoes", spec := "gfDoes", unfollowed := true, recurses := true, apart := false }
def GfDoesSaid : Prop := gfDoesRow.holds Try.pinned (OpenSpec.ofChange gfDoesSpec)

/-- ITS FALSE NEIGHBOUR: 'it returns false'. Refute it at one input. -/
def gfDoesWrong : ChangeSpec := { name := "gfDoes", fn := fun _ => fun
  | [d1, d2, d3, d4, d5] => { results := [.lit (.bool false)], args := [d1, d2, d3, d4, d5] }
  | _ => none }
def GfDoesWrongFalsely : Prop := gfDoesRow.holds Try.pinned (OpenSpec.ofChange gfDoesWrong)

/-- 'silolaw35.GfRows': WHATEVER THE INPUT: true; the input reads as it did. -/
def gfRowsSpec : ChangeSpec := { name := "gfRows", fn := fun _ => fun
  | [d1, d2] => { results := [.lit (.bool true)], args := [d1, d2] }
  | _ => none }
def gfRowsRow : OpenClaim := { program := "ytdgnhnhmcobfkaa", sum := "7c2f2f3bfaf34118ded7cae01afa01a29fbee22ce27965ceb65fcb7a020725aa", func := "silo/silolaw35.GfRows", spec := "gfRows", unfollowed := true, recurses := true, apart := false }
def GfRowsSaid : Prop := gfRowsRow.holds Try.pinned (OpenSpec.ofChange gfRowsSpec)

/-- ITS FALSE NEIGHBOUR: 'it returns false'. Refute it at one input. -/
def gfRowsWrong : ChangeSpec := { name := "gfRows", fn := fun _ => fun
  | [d1, d2] => { results := [.lit (.bool false)], args := [d1, d2] }
  | _ => none }
def GfRowsWrongFalsely : Prop := gfRowsRow.holds Try.pinned (OpenSpec.ofChange gfRowsWrong)

/-- 'silolaw35.GfBack': WHATEVER THE INPUT: true; the input reads as it did. -/
def gfBackSpec : ChangeSpec := { name := "gfBack", fn := fun _ => fun
  | [d1, d2] => { results := [.lit (.bool true)], args := [d1, d2] }
  | _ => none }
def gfBackRow : OpenClaim := { program := "ytdgnhnhmcobfkaa", sum := "7c2f2f3bfaf34118ded7cae01afa01a29fbee22ce27965ceb65fcb7a020725aa", func := "silo/silolaw35.GfBack", spec := "gfBack", unfollowed := true, recurses := true, apart := false }
def GfBackSaid : Prop := gfBackRow.holds Try.pinned (OpenSpec.ofChange gfBackSpec)

/-- ITS FALSE NEIGHBOUR: 'it returns false'. Refute it at one input. -/
def gfBackWrong : ChangeSpec := { name := "gfBack", fn := fun _ => fun
  | [d1, d2] => { results := [.lit (.bool false)], args := [d1, d2] }
  | _ => none }
def GfBackWrongFalsely : Prop := gfBackRow.holds Try.pinned (OpenSpec.ofChange gfBackWrong)

/-- 'silolaw36.ParityMends': WHATEVER THE INPUT: true; the input reads as it did. -/
def parityMendsSpec : ChangeSpec := { name := "parityMends", fn := fun _ => fun
  | [d1, d2, d3] => { results := [.lit (.bool true)], args := [d1, d2, d3] }
  | _ => none }
def parityMendsRow : OpenClaim := { program := "ytdgnhnhmcobfkaa", sum := "7c2f2f3bfaf34118ded7cae01afa01a29fbee22ce27965ceb65fcb7a020725aa", func := "silo/silolaw36.ParityMends", spec := "parityMends", inPlace := ["internal/abi.NoEscape", "internal/bytealg.MakeNoZero"], unfollowed := true, recurses := true, apart := false }
def ParityMendsSaid : Prop := parityMendsRow.holds Try.pinned (OpenSpec.ofChange parityMendsSpec)

/-- ITS FALSE NEIGHBOUR: 'it returns false'. Refute it at one input. -/
def parityMendsWrong : ChangeSpec := { name := "parityMends", fn := fun _ => fun
  | [d1, d2, d3] => { results := [.lit (.bool false)], args := [d1, d2, d3] }
  | _ => none }
def ParityMendsWrongFalsely : Prop := parityMendsRow.holds Try.pinned (OpenSpec.ofChange parityMendsWrong)

/-- 'silolaw36.ParityDoes': WHATEVER THE INPUT: true; the input reads as it did. -/
def parityDoesSpec : ChangeSpec := { name := "parityDoes", fn := fun _ => fun
  | [d1, d2, d3, d4, d5] => { results := [.lit (.bool true)], args := [d1, d2, d3, d4, d5] }
  | _ => none }
def parityDoesRow : OpenClaim := { program := "ytdgnhnhmcobfkaa", sum := "7c2f2f3bfaf34118ded7cae01afa01a29fbee22ce27965ceb65fcb7a020725aa", func := "silo/silolaw36.ParityDoes", spec := "parityDoes", inPlace := ["internal/abi.NoEscape", "internal/bytealg.MakeNoZero"], unfollowed := true, recurses := true, apart := false }
def ParityDoesSaid : Prop := parityDoesRow.holds Try.pinned (OpenSpec.ofChange parityDoesSpec)

/-- ITS FALSE NEIGHBOUR: 'it returns false'. Refute it at one input. -/
def parityDoesWrong : ChangeSpec := { name := "parityDoes", fn := fun _ => fun
  | [d1, d2, d3, d4, d5] => { results := [.lit (.bool false)], args := [d1, d2, d3, d4, d5] }
  | _ => none }
def ParityDoesWrongFalsely : Prop := parityDoesRow.holds Try.pinned (OpenSpec.ofChange parityDoesWrong)

/-- 'silolaw36.ParityAny': WHATEVER THE INPUT: true; the input reads as it did. -/
def parityAnySpec : ChangeSpec := { name := "parityAny", fn := fun _ => fun
  | [d1, d2, d3, d4] => { results := [.lit (.bool true)], args := [d1, d2, d3, d4] }
  | _ => none }
def parityAnyRow : OpenClaim := { program := "ytdgnhnhmcobfkaa", sum := "7c2f2f3bfaf34118ded7cae01afa01a29fbee22ce27965ceb65fcb7a020725aa", func := "silo/silolaw36.ParityAny", spec := "parityAny", inPlace := ["internal/abi.NoEscape", "internal/bytealg.MakeNoZero"], unfollowed := true, recurses := true, apart := false }
def ParityAnySaid : Prop := parityAnyRow.holds Try.pinned (OpenSpec.ofChange parityAnySpec)

/-- ITS FALSE NEIGHBOUR: 'it returns false'. Refute it at one input. -/
def parityAnyWrong : ChangeSpec := { name := "parityAny", fn := fun _ => fun
  | [d1, d2, d3, d4] => { results := [.lit (.bool false)], args := [d1, d2, d3, d4] }
  | _ => none }
def ParityAnyWrongFalsely : Prop := parityAnyRow.holds Try.pinned (OpenSpec.ofChange parityAnyWrong)

/- THE SECOND FORM. 'bulk': how many values and letters a reading holds, each counted each time it is reached (what is shared counts as often as it is met; a slice's spare places count too). A statement '..UptoSaid' is the law's where the arguments, and the package variables that the reading takes, are together of bulk at most 1048576: NARROWER than '..Said'. Prove '..Said' where nothing that the law and all that it calls make is longer than what came in: it says more and counts as full. Else prove '..UptoSaid'. A law counts once. -/
mutual
def uptoBulk {H : Type} : DataW H → Nat
  | .lit (.string bytes) => bytes.length + 1
  | .lit _ => 1
  | .nil => 1
  | .ptr d => uptoBulk d + 1
  | .slice elems spare => uptoBulkAll elems + uptoBulkAll spare + 1
  | .agg parts => uptoBulkAll parts + 1
  | .iface _ d => uptoBulk d + 1
  | .map entries => uptoBulkEntries entries + 1
  | .held _ => 1
def uptoBulkAll {H : Type} : List (DataW H) → Nat
  | [] => 0
  | d :: r => uptoBulk d + uptoBulkAll r
def uptoBulkEntries {H : Type} : List (Lit × DataW H) → Nat
  | [] => 0
  | x :: r => uptoBulkEntry x + uptoBulkEntries r
def uptoBulkEntry {H : Type} : Lit × DataW H → Nat
  | (.string bytes, d) => bytes.length + uptoBulk d + 1
  | (_, d) => uptoBulk d + 1
 end
def uptoSmall : (H : Type) → List (DataW H) → Bool := fun _ ds => decide (uptoBulkAll ds ≤ 1048576)
def OpenSpec.upto (s : _root_.Go.ChangeSpec) : _root_.Go.OpenSpec := { _root_.Go.OpenSpec.ofChange s with cond := some uptoSmall }

/-- 'silolaw35.GfField', WHERE WHAT IT READS IS OF BULK AT MOST 1048576: true; the input reads as it did. -/
def gfFieldUptoRow : OpenClaim := { program := "ytdgnhnhmcobfkaa", sum := "7c2f2f3bfaf34118ded7cae01afa01a29fbee22ce27965ceb65fcb7a020725aa", func := "silo/silolaw35.GfField", spec := "gfField", unfollowed := true, recurses := true, apart := false, narrowed := true }
def GfFieldUptoSaid : Prop := gfFieldUptoRow.holds Try.pinned (OpenSpec.upto gfFieldSpec)

/-- 'silolaw35.GfDoes', WHERE WHAT IT READS IS OF BULK AT MOST 1048576: true; the input reads as it did. -/
def gfDoesUptoRow : OpenClaim := { program := "ytdgnhnhmcobfkaa", sum := "7c2f2f3bfaf34118ded7cae01afa01a29fbee22ce27965ceb65fcb7a020725aa", func := "silo/silolaw35.GfDoes", spec := "gfDoes", unfollowed := true, recurses := true, apart := false, narrowed := true }
def GfDoesUptoSaid : Prop := gfDoesUptoRow.holds Try.pinned (OpenSpec.upto gfDoesSpec)

/-- 'silolaw35.GfRows', WHERE WHAT IT READS IS OF BULK AT MOST 1048576: true; the input reads as it did. -/
def gfRowsUptoRow : OpenClaim := { program := "ytdgnhnhmcobfkaa", sum := "7c2f2f3bfaf34118ded7cae01afa01a29fbee22ce27965ceb65fcb7a020725aa", func := "silo/silolaw35.GfRows", spec := "gfRows", unfollowed := true, recurses := true, apart := false, narrowed := true }
def GfRowsUptoSaid : Prop := gfRowsUptoRow.holds Try.pinned (OpenSpec.upto gfRowsSpec)

/-- 'silolaw35.GfBack', WHERE WHAT IT READS IS OF BULK AT MOST 1048576: true; the input reads as it did. -/
def gfBackUptoRow : OpenClaim := { program := "ytdgnhnhmcobfkaa", sum := "7c2f2f3bfaf34118ded7cae01afa01a29fbee22ce27965ceb65fcb7a020725aa", func := "silo/silolaw35.GfBack", spec := "gfBack", unfollowed := true, recurses := true, apart := false, narrowed := true }
def GfBackUptoSaid : Prop := gfBackUptoRow.holds Try.pinned (OpenSpec.upto gfBackSpec)

/-- 'silolaw36.ParityMends', WHERE WHAT IT READS IS OF BULK AT MOST 1048576: true; the input reads as it did. -/
def parityMendsUptoRow : OpenClaim := { program := "ytdgnhnhmcobfkaa", sum := "7c2f2f3bfaf34118ded7cae01afa01a29fbee22ce27965ceb65fcb7a020725aa", func := "silo/silolaw36.ParityMends", spec := "parityMends", inPlace := ["internal/abi.NoEscape", "internal/bytealg.MakeNoZero"], unfollowed := true, recurses := true, apart := false, narrowed := true }
def ParityMendsUptoSaid : Prop := parityMendsUptoRow.holds Try.pinned (OpenSpec.upto parityMendsSpec)

/-- 'silolaw36.ParityDoes', WHERE WHAT IT READS IS OF BULK AT MOST 1048576: true; the input reads as it did. -/
def parityDoesUptoRow : OpenClaim := { program := "ytdgnhnhmcobfkaa", sum := "7c2f2f3bfaf34118ded7cae01afa01a29fbee22ce27965ceb65fcb7a020725aa", func := "silo/silolaw36.ParityDoes", spec := "parityDoes", inPlace := ["internal/abi.NoEscape", "internal/bytealg.MakeNoZero"], unfollowed := true, recurses := true, apart := false, narrowed := true }
def ParityDoesUptoSaid : Prop := parityDoesUptoRow.holds Try.pinned (OpenSpec.upto parityDoesSpec)

/-- 'silolaw36.ParityAny', WHERE WHAT IT READS IS OF BULK AT MOST 1048576: true; the input reads as it did. -/
def parityAnyUptoRow : OpenClaim := { program := "ytdgnhnhmcobfkaa", sum := "7c2f2f3bfaf34118ded7cae01afa01a29fbee22ce27965ceb65fcb7a020725aa", func := "silo/silolaw36.ParityAny", spec := "parityAny", inPlace := ["internal/abi.NoEscape", "internal/bytealg.MakeNoZero"], unfollowed := true, recurses := true, apart := false, narrowed := true }
def ParityAnyUptoSaid : Prop := parityAnyUptoRow.holds Try.pinned (OpenSpec.upto parityAnySpec)

end Rows
end Go.Proofs.Ytdgnhnhmcobfkaa
