/- A row of bytes as a text. -/
import Derived.Test.YtkbpkodakfknoaaShaPlain
namespace Go.Proofs.Ytkbpkodakfknoaa
open Go.RowKit
set_option linter.unusedVariables false
theorem own_str (w : World) (B : Nat) (v : Value) (l : List UInt8) (h : w.ownsRow B 5 1 v l.length (Lib.byteCells l)) (h0 : l ≠ []) :
    (convert 49 9 v).run Try.prog w = .ok (.string ⟨l.toArray⟩) w := by
  have hl0 : l.length ≠ 0 := by simpa using h0
  obtain ⟨g, cap, rfl⟩ : ∃ g cap, v = .slice (some ⟨g, 0, none⟩) l.length cap := by
    rcases h.2 with ⟨_, hz⟩ | ⟨g, cap, cur, hv, r⟩
    · exact absurd hz hl0
    · exact ⟨g, cap, hv⟩
  refine run_bytes_str _ 49 9 5 Try.underlying49 Try.underlying5 Try.underlying9 g 0 l.length cap l rfl ?_
  intro i hi
  have := h.cells (g := g) rfl i (.int .u8 l[i].toNat) (by simp [Lib.byteCells, hi])
  rw [Addr.add_mid] at this
  exact this
end Go.Proofs.Ytkbpkodakfknoaa
