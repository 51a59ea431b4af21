/- Plain: structs of one-cell fields, opened. -/
import Derived.Test.YtlikmdmdmljiaaaDoorArgs
import Derived.ChangeSame
namespace Go.Proofs.YtlikmdmdmljiaaaDoor
open Go.ChangeShapes Go.WideShapes Go.ChangeAt Go.RowKit
section
variable {H : Type} {enc : TypeId × Value → H} {P : Program} {w : World}
def ES2 {α0 α1 : Type} (E0 : α0 → List Value) (E1 : α1 → List Value) (x : α0 × α1) : List Value := E0 x.1 ++ (E1 x.2)
theorem opens_struct2 {α0 α1 : Type} {E0 : α0 → List Value} {E1 : α1 → List Value} {Q0 : α0 → Prop} {Q1 : α1 → Prop} {t : TypeId} {f0 f1 : Field}
    (ht : P.underlying t = some (.struct #[f0, f1])) (hc : [P.cellsOf t, f0.offset, P.cellsOf f0.type, f1.offset, P.cellsOf f1.type] = [2, 0, 1, 1, 1])
    (o0 : Opens enc P w f0.type E0 Q0) (o1 : Opens enc P w f1.type E1 Q1) : Opens enc P w t (ES2 E0 E1) (fun x => Q0 x.1 ∧ Q1 x.2) := by
  intro fuel cs y h
  simp only [List.cons.injEq, and_true] at hc
  obtain ⟨c0, c1, c2, c3, c4⟩ := hc
  obtain ⟨xs, n, _, rfl, hl, hlen, hf⟩ := DataW.trod_struct ht h
  match xs, hlen with
  | [y0, y1], _ =>
    have h0 := hf 0 f0 rfl
    have h1 := hf 1 f1 rfl
    rw [c0] at hl
    rw [c1, c2] at h0
    rw [c3, c4] at h1
    match cs, hl with
    | [a0, a1], _ =>
      obtain ⟨x0, e0, q0⟩ := o0 n _ _ h0
      obtain ⟨x1, e1, q1⟩ := o1 n _ _ h1
      refine ⟨(x0, x1), ?_, q0, q1⟩
      show [a0, a1] = E0 x0 ++ (E1 x1)
      rw [← e0, ← e1]
      rfl
def ES3 {α0 α1 α2 : Type} (E0 : α0 → List Value) (E1 : α1 → List Value) (E2 : α2 → List Value) (x : α0 × α1 × α2) : List Value := E0 x.1 ++ (E1 x.2.1 ++ (E2 x.2.2))
theorem opens_struct3 {α0 α1 α2 : Type} {E0 : α0 → List Value} {E1 : α1 → List Value} {E2 : α2 → List Value} {Q0 : α0 → Prop} {Q1 : α1 → Prop} {Q2 : α2 → Prop} {t : TypeId} {f0 f1 f2 : Field}
    (ht : P.underlying t = some (.struct #[f0, f1, f2])) (hc : [P.cellsOf t, f0.offset, P.cellsOf f0.type, f1.offset, P.cellsOf f1.type, f2.offset, P.cellsOf f2.type] = [3, 0, 1, 1, 1, 2, 1])
    (o0 : Opens enc P w f0.type E0 Q0) (o1 : Opens enc P w f1.type E1 Q1) (o2 : Opens enc P w f2.type E2 Q2) : Opens enc P w t (ES3 E0 E1 E2) (fun x => Q0 x.1 ∧ Q1 x.2.1 ∧ Q2 x.2.2) := by
  intro fuel cs y h
  simp only [List.cons.injEq, and_true] at hc
  obtain ⟨c0, c1, c2, c3, c4, c5, c6⟩ := hc
  obtain ⟨xs, n, _, rfl, hl, hlen, hf⟩ := DataW.trod_struct ht h
  match xs, hlen with
  | [y0, y1, y2], _ =>
    have h0 := hf 0 f0 rfl
    have h1 := hf 1 f1 rfl
    have h2 := hf 2 f2 rfl
    rw [c0] at hl
    rw [c1, c2] at h0
    rw [c3, c4] at h1
    rw [c5, c6] at h2
    match cs, hl with
    | [a0, a1, a2], _ =>
      obtain ⟨x0, e0, q0⟩ := o0 n _ _ h0
      obtain ⟨x1, e1, q1⟩ := o1 n _ _ h1
      obtain ⟨x2, e2, q2⟩ := o2 n _ _ h2
      refine ⟨(x0, x1, x2), ?_, q0, q1, q2⟩
      show [a0, a1, a2] = E0 x0 ++ (E1 x1 ++ (E2 x2))
      rw [← e0, ← e1, ← e2]
      rfl
def ES4 {α0 α1 α2 α3 : Type} (E0 : α0 → List Value) (E1 : α1 → List Value) (E2 : α2 → List Value) (E3 : α3 → List Value) (x : α0 × α1 × α2 × α3) : List Value := E0 x.1 ++ (E1 x.2.1 ++ (E2 x.2.2.1 ++ (E3 x.2.2.2)))
theorem opens_struct4 {α0 α1 α2 α3 : Type} {E0 : α0 → List Value} {E1 : α1 → List Value} {E2 : α2 → List Value} {E3 : α3 → List Value} {Q0 : α0 → Prop} {Q1 : α1 → Prop} {Q2 : α2 → Prop} {Q3 : α3 → Prop} {t : TypeId} {f0 f1 f2 f3 : Field}
    (ht : P.underlying t = some (.struct #[f0, f1, f2, f3])) (hc : [P.cellsOf t, f0.offset, P.cellsOf f0.type, f1.offset, P.cellsOf f1.type, f2.offset, P.cellsOf f2.type, f3.offset, P.cellsOf f3.type] = [4, 0, 1, 1, 1, 2, 1, 3, 1])
    (o0 : Opens enc P w f0.type E0 Q0) (o1 : Opens enc P w f1.type E1 Q1) (o2 : Opens enc P w f2.type E2 Q2) (o3 : Opens enc P w f3.type E3 Q3) : Opens enc P w t (ES4 E0 E1 E2 E3) (fun x => Q0 x.1 ∧ Q1 x.2.1 ∧ Q2 x.2.2.1 ∧ Q3 x.2.2.2) := by
  intro fuel cs y h
  simp only [List.cons.injEq, and_true] at hc
  obtain ⟨c0, c1, c2, c3, c4, c5, c6, c7, c8⟩ := hc
  obtain ⟨xs, n, _, rfl, hl, hlen, hf⟩ := DataW.trod_struct ht h
  match xs, hlen with
  | [y0, y1, y2, y3], _ =>
    have h0 := hf 0 f0 rfl
    have h1 := hf 1 f1 rfl
    have h2 := hf 2 f2 rfl
    have h3 := hf 3 f3 rfl
    rw [c0] at hl
    rw [c1, c2] at h0
    rw [c3, c4] at h1
    rw [c5, c6] at h2
    rw [c7, c8] at h3
    match cs, hl with
    | [a0, a1, a2, a3], _ =>
      obtain ⟨x0, e0, q0⟩ := o0 n _ _ h0
      obtain ⟨x1, e1, q1⟩ := o1 n _ _ h1
      obtain ⟨x2, e2, q2⟩ := o2 n _ _ h2
      obtain ⟨x3, e3, q3⟩ := o3 n _ _ h3
      refine ⟨(x0, x1, x2, x3), ?_, q0, q1, q2, q3⟩
      show [a0, a1, a2, a3] = E0 x0 ++ (E1 x1 ++ (E2 x2 ++ (E3 x3)))
      rw [← e0, ← e1, ← e2, ← e3]
      rfl
def ES6 {α0 α1 α2 α3 α4 α5 : Type} (E0 : α0 → List Value) (E1 : α1 → List Value) (E2 : α2 → List Value) (E3 : α3 → List Value) (E4 : α4 → List Value) (E5 : α5 → List Value) (x : α0 × α1 × α2 × α3 × α4 × α5) : List Value := E0 x.1 ++ (E1 x.2.1 ++ (E2 x.2.2.1 ++ (E3 x.2.2.2.1 ++ (E4 x.2.2.2.2.1 ++ (E5 x.2.2.2.2.2)))))
theorem opens_struct6 {α0 α1 α2 α3 α4 α5 : Type} {E0 : α0 → List Value} {E1 : α1 → List Value} {E2 : α2 → List Value} {E3 : α3 → List Value} {E4 : α4 → List Value} {E5 : α5 → List Value} {Q0 : α0 → Prop} {Q1 : α1 → Prop} {Q2 : α2 → Prop} {Q3 : α3 → Prop} {Q4 : α4 → Prop} {Q5 : α5 → Prop} {t : TypeId} {f0 f1 f2 f3 f4 f5 : Field}
    (ht : P.underlying t = some (.struct #[f0, f1, f2, f3, f4, f5])) (hc : [P.cellsOf t, f0.offset, P.cellsOf f0.type, f1.offset, P.cellsOf f1.type, f2.offset, P.cellsOf f2.type, f3.offset, P.cellsOf f3.type, f4.offset, P.cellsOf f4.type, f5.offset, P.cellsOf f5.type] = [6, 0, 1, 1, 1, 2, 1, 3, 1, 4, 1, 5, 1])
    (o0 : Opens enc P w f0.type E0 Q0) (o1 : Opens enc P w f1.type E1 Q1) (o2 : Opens enc P w f2.type E2 Q2) (o3 : Opens enc P w f3.type E3 Q3) (o4 : Opens enc P w f4.type E4 Q4) (o5 : Opens enc P w f5.type E5 Q5) : Opens enc P w t (ES6 E0 E1 E2 E3 E4 E5) (fun x => Q0 x.1 ∧ Q1 x.2.1 ∧ Q2 x.2.2.1 ∧ Q3 x.2.2.2.1 ∧ Q4 x.2.2.2.2.1 ∧ Q5 x.2.2.2.2.2) := by
  intro fuel cs y h
  simp only [List.cons.injEq, and_true] at hc
  obtain ⟨c0, c1, c2, c3, c4, c5, c6, c7, c8, c9, c10, c11, c12⟩ := hc
  obtain ⟨xs, n, _, rfl, hl, hlen, hf⟩ := DataW.trod_struct ht h
  match xs, hlen with
  | [y0, y1, y2, y3, y4, y5], _ =>
    have h0 := hf 0 f0 rfl
    have h1 := hf 1 f1 rfl
    have h2 := hf 2 f2 rfl
    have h3 := hf 3 f3 rfl
    have h4 := hf 4 f4 rfl
    have h5 := hf 5 f5 rfl
    rw [c0] at hl
    rw [c1, c2] at h0
    rw [c3, c4] at h1
    rw [c5, c6] at h2
    rw [c7, c8] at h3
    rw [c9, c10] at h4
    rw [c11, c12] at h5
    match cs, hl with
    | [a0, a1, a2, a3, a4, a5], _ =>
      obtain ⟨x0, e0, q0⟩ := o0 n _ _ h0
      obtain ⟨x1, e1, q1⟩ := o1 n _ _ h1
      obtain ⟨x2, e2, q2⟩ := o2 n _ _ h2
      obtain ⟨x3, e3, q3⟩ := o3 n _ _ h3
      obtain ⟨x4, e4, q4⟩ := o4 n _ _ h4
      obtain ⟨x5, e5, q5⟩ := o5 n _ _ h5
      refine ⟨(x0, x1, x2, x3, x4, x5), ?_, q0, q1, q2, q3, q4, q5⟩
      show [a0, a1, a2, a3, a4, a5] = E0 x0 ++ (E1 x1 ++ (E2 x2 ++ (E3 x3 ++ (E4 x4 ++ (E5 x5)))))
      rw [← e0, ← e1, ← e2, ← e3, ← e4, ← e5]
      rfl
def ES8 {α0 α1 α2 α3 α4 α5 α6 α7 : Type} (E0 : α0 → List Value) (E1 : α1 → List Value) (E2 : α2 → List Value) (E3 : α3 → List Value) (E4 : α4 → List Value) (E5 : α5 → List Value) (E6 : α6 → List Value) (E7 : α7 → List Value) (x : α0 × α1 × α2 × α3 × α4 × α5 × α6 × α7) : List Value := E0 x.1 ++ (E1 x.2.1 ++ (E2 x.2.2.1 ++ (E3 x.2.2.2.1 ++ (E4 x.2.2.2.2.1 ++ (E5 x.2.2.2.2.2.1 ++ (E6 x.2.2.2.2.2.2.1 ++ (E7 x.2.2.2.2.2.2.2)))))))
theorem opens_struct8 {α0 α1 α2 α3 α4 α5 α6 α7 : Type} {E0 : α0 → List Value} {E1 : α1 → List Value} {E2 : α2 → List Value} {E3 : α3 → List Value} {E4 : α4 → List Value} {E5 : α5 → List Value} {E6 : α6 → List Value} {E7 : α7 → List Value} {Q0 : α0 → Prop} {Q1 : α1 → Prop} {Q2 : α2 → Prop} {Q3 : α3 → Prop} {Q4 : α4 → Prop} {Q5 : α5 → Prop} {Q6 : α6 → Prop} {Q7 : α7 → Prop} {t : TypeId} {f0 f1 f2 f3 f4 f5 f6 f7 : Field}
    (ht : P.underlying t = some (.struct #[f0, f1, f2, f3, f4, f5, f6, f7])) (hc : [P.cellsOf t, f0.offset, P.cellsOf f0.type, f1.offset, P.cellsOf f1.type, f2.offset, P.cellsOf f2.type, f3.offset, P.cellsOf f3.type, f4.offset, P.cellsOf f4.type, f5.offset, P.cellsOf f5.type, f6.offset, P.cellsOf f6.type, f7.offset, P.cellsOf f7.type] = [8, 0, 1, 1, 1, 2, 1, 3, 1, 4, 1, 5, 1, 6, 1, 7, 1])
    (o0 : Opens enc P w f0.type E0 Q0) (o1 : Opens enc P w f1.type E1 Q1) (o2 : Opens enc P w f2.type E2 Q2) (o3 : Opens enc P w f3.type E3 Q3) (o4 : Opens enc P w f4.type E4 Q4) (o5 : Opens enc P w f5.type E5 Q5) (o6 : Opens enc P w f6.type E6 Q6) (o7 : Opens enc P w f7.type E7 Q7) : Opens enc P w t (ES8 E0 E1 E2 E3 E4 E5 E6 E7) (fun x => Q0 x.1 ∧ Q1 x.2.1 ∧ Q2 x.2.2.1 ∧ Q3 x.2.2.2.1 ∧ Q4 x.2.2.2.2.1 ∧ Q5 x.2.2.2.2.2.1 ∧ Q6 x.2.2.2.2.2.2.1 ∧ Q7 x.2.2.2.2.2.2.2) := by
  intro fuel cs y h
  simp only [List.cons.injEq, and_true] at hc
  obtain ⟨c0, c1, c2, c3, c4, c5, c6, c7, c8, c9, c10, c11, c12, c13, c14, c15, c16⟩ := hc
  obtain ⟨xs, n, _, rfl, hl, hlen, hf⟩ := DataW.trod_struct ht h
  match xs, hlen with
  | [y0, y1, y2, y3, y4, y5, y6, y7], _ =>
    have h0 := hf 0 f0 rfl
    have h1 := hf 1 f1 rfl
    have h2 := hf 2 f2 rfl
    have h3 := hf 3 f3 rfl
    have h4 := hf 4 f4 rfl
    have h5 := hf 5 f5 rfl
    have h6 := hf 6 f6 rfl
    have h7 := hf 7 f7 rfl
    rw [c0] at hl
    rw [c1, c2] at h0
    rw [c3, c4] at h1
    rw [c5, c6] at h2
    rw [c7, c8] at h3
    rw [c9, c10] at h4
    rw [c11, c12] at h5
    rw [c13, c14] at h6
    rw [c15, c16] at h7
    match cs, hl with
    | [a0, a1, a2, a3, a4, a5, a6, a7], _ =>
      obtain ⟨x0, e0, q0⟩ := o0 n _ _ h0
      obtain ⟨x1, e1, q1⟩ := o1 n _ _ h1
      obtain ⟨x2, e2, q2⟩ := o2 n _ _ h2
      obtain ⟨x3, e3, q3⟩ := o3 n _ _ h3
      obtain ⟨x4, e4, q4⟩ := o4 n _ _ h4
      obtain ⟨x5, e5, q5⟩ := o5 n _ _ h5
      obtain ⟨x6, e6, q6⟩ := o6 n _ _ h6
      obtain ⟨x7, e7, q7⟩ := o7 n _ _ h7
      refine ⟨(x0, x1, x2, x3, x4, x5, x6, x7), ?_, q0, q1, q2, q3, q4, q5, q6, q7⟩
      show [a0, a1, a2, a3, a4, a5, a6, a7] = E0 x0 ++ (E1 x1 ++ (E2 x2 ++ (E3 x3 ++ (E4 x4 ++ (E5 x5 ++ (E6 x6 ++ (E7 x7)))))))
      rw [← e0, ← e1, ← e2, ← e3, ← e4, ← e5, ← e6, ← e7]
      rfl
end
end Go.Proofs.YtlikmdmdmljiaaaDoor
