/- Plain: a struct of three one-cell fields, opened. -/
import Derived.Test.YtlikmdmdmljiaaaDoorArgs
import Derived.ChangeSame
namespace Go.Proofs.YtlikmdmdmljiaaaDoor
open Go.ChangeShapes Go.WideShapes Go.ChangeAt Go.RowKit
section
variable {H : Type} {enc : TypeId × Value → H} {P : Program} {w : World}
def ES3 {α β γ : Type} (E0 : α → List Value) (E1 : β → List Value) (E2 : γ → List Value) (x : α × β × γ) : List Value := E0 x.1 ++ (E1 x.2.1 ++ E2 x.2.2)
theorem opens_struct3 {α β γ : Type} {E0 : α → List Value} {E1 : β → List Value} {E2 : γ → List Value} {Q0 : α → Prop} {Q1 : β → Prop} {Q2 : γ → Prop} {t : TypeId} {f0 f1 f2 : Field}
    (ht : P.underlying t = some (.struct #[f0, f1, f2])) (hc : [P.cellsOf t, f0.offset, P.cellsOf f0.type, f1.offset, P.cellsOf f1.type, f2.offset, P.cellsOf f2.type] = [3, 0, 1, 1, 1, 2, 1])
    (o0 : Opens enc P w f0.type E0 Q0) (o1 : Opens enc P w f1.type E1 Q1) (o2 : Opens enc P w f2.type E2 Q2) : Opens enc P w t (ES3 E0 E1 E2) (fun x => Q0 x.1 ∧ Q1 x.2.1 ∧ Q2 x.2.2) := by
  intro fuel cs y h
  simp only [List.cons.injEq, and_true] at hc
  obtain ⟨c0, c1, c2, c3, c4, c5, c6⟩ := hc
  obtain ⟨xs, n, _, rfl, hl, hlen, hf⟩ := DataW.trod_struct ht h
  match xs, hlen with
  | [y0, y1, y2], _ =>
    have h0 := hf 0 f0 rfl
    have h1 := hf 1 f1 rfl
    have h2 := hf 2 f2 rfl
    rw [c0] at hl
    rw [c1, c2] at h0
    rw [c3, c4] at h1
    rw [c5, c6] at h2
    match cs, hl with
    | [a, b, c], _ =>
      obtain ⟨x0, e0, q0⟩ := o0 n _ _ h0
      obtain ⟨x1, e1, q1⟩ := o1 n _ _ h1
      obtain ⟨x2, e2, q2⟩ := o2 n _ _ h2
      refine ⟨(x0, x1, x2), ?_, q0, q1, q2⟩
      show [a, b, c] = E0 x0 ++ (E1 x1 ++ E2 x2)
      rw [← e0, ← e1, ← e2]
      rfl
end
end Go.Proofs.YtlikmdmdmljiaaaDoor
