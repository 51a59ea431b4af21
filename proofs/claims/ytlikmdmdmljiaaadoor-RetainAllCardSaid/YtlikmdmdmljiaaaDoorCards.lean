/-
  DERIVED. GIVEN WITH THE SEED: THE CARDS: each row of YtlikmdmdmljiaaaDoorRows.lean that lists a variable, with what it lists TIED to the program's text (the seventh form; the later family's looks); each row that meets fmt, with fmt's text TOLD by the authors' own Lean function (tested against real Go, not proved from fmt's source: count such statements apart). THE CARD IS WHAT COUNTS. Prove the row's statement (the work); the ties are given (YtlikmdmdmljiaaaDoorTie.lean); close each card by the builder's one call (the guide's Derived/Test/ToyasCard.lean, 'card_holds'). Laid BY PROGRAM, IN A SANDBOX (cutbox-door.mjs). By AI agents, Wed Nov 11 2026. No macro, syntax, notation, axiom, sorry.
-/
import Derived.Test.YtlikmdmdmljiaaaDoorRows
import GoSem.ClaimSeven
namespace Go.Proofs.YtlikmdmdmljiaaaDoor
namespace Rows

/-- THE TIED CARD OF 'silolaw42.RetainAll'. -/
def retainAllCard : Claim7 := { stood := { row := retainAllRow, standIns := [], harness := (true, "56d3fc5a84bc1400f69f423a180886e0912208fa2085cf6483c4f71d50eded6f"), looks := false }, kinds := [], alts := [], laidByText := true, laidKinds := [.data, .data, .data], laidTests := true, laidLooks := .later }
def RetainAllCardSaid : Prop := Claim7.holds Tryd.pinned (.plain (OpenSpec.ofChange retainAllSpec)) retainAllCard

/-- THE TIED CARD OF 'silolaw42.RetainDays'. -/
def retainDaysCard : Claim7 := { stood := { row := retainDaysRow, standIns := [], harness := (true, "56d3fc5a84bc1400f69f423a180886e0912208fa2085cf6483c4f71d50eded6f"), looks := false }, kinds := [], alts := [], laidByText := true, laidKinds := [.data, .data, .data], laidTests := true, laidLooks := .later }
def RetainDaysCardSaid : Prop := Claim7.holds Tryd.pinned (.plain (OpenSpec.ofChange retainDaysSpec)) retainDaysCard

/-- THE TIED CARD OF 'silolaw42.RetainTurns'. -/
def retainTurnsCard : Claim7 := { stood := { row := retainTurnsRow, standIns := [], harness := (true, "56d3fc5a84bc1400f69f423a180886e0912208fa2085cf6483c4f71d50eded6f"), looks := false }, kinds := [], alts := [], laidByText := true, laidKinds := [.data, .data, .data], laidTests := true, laidLooks := .later }
def RetainTurnsCardSaid : Prop := Claim7.holds Tryd.pinned (.plain (OpenSpec.ofChange retainTurnsSpec)) retainTurnsCard

/-- THE SECOND FORM's CARD OF 'silolaw42.RetainAll'. -/
def retainAllUptoCard : Claim7 := { stood := { row := retainAllUptoRow, standIns := [], harness := (true, "56d3fc5a84bc1400f69f423a180886e0912208fa2085cf6483c4f71d50eded6f"), looks := false }, kinds := [], alts := [], laidByText := true, laidKinds := [.data, .data, .data], laidTests := true, laidLooks := .later }
def RetainAllUptoCardSaid : Prop := Claim7.holds Tryd.pinned (.plain (OpenSpec.upto retainAllSpec)) retainAllUptoCard

/-- THE SECOND FORM's CARD OF 'silolaw42.RetainDays'. -/
def retainDaysUptoCard : Claim7 := { stood := { row := retainDaysUptoRow, standIns := [], harness := (true, "56d3fc5a84bc1400f69f423a180886e0912208fa2085cf6483c4f71d50eded6f"), looks := false }, kinds := [], alts := [], laidByText := true, laidKinds := [.data, .data, .data], laidTests := true, laidLooks := .later }
def RetainDaysUptoCardSaid : Prop := Claim7.holds Tryd.pinned (.plain (OpenSpec.upto retainDaysSpec)) retainDaysUptoCard

/-- THE SECOND FORM's CARD OF 'silolaw42.RetainTurns'. -/
def retainTurnsUptoCard : Claim7 := { stood := { row := retainTurnsUptoRow, standIns := [], harness := (true, "56d3fc5a84bc1400f69f423a180886e0912208fa2085cf6483c4f71d50eded6f"), looks := false }, kinds := [], alts := [], laidByText := true, laidKinds := [.data, .data, .data], laidTests := true, laidLooks := .later }
def RetainTurnsUptoCardSaid : Prop := Claim7.holds Tryd.pinned (.plain (OpenSpec.upto retainTurnsSpec)) retainTurnsUptoCard
end Rows
end Go.Proofs.YtlikmdmdmljiaaaDoor
