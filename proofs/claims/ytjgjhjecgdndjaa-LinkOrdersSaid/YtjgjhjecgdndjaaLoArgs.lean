/- Plain: arguments opened with their sizes (the texts ArgsX and StructsW). -/
import Derived.Test.YtjgjhjecgdndjaaArgsW
namespace Go.Proofs.Ytjgjhjecgdndjaa
open Go.ChangeShapes Go.WideShapes Go.ChangeAt Go.RowKit Go.Deep
section
variable {H : Type} {enc : TypeId × Value → H} {P : Program} {w : World}
theorem opensW_of {α : Type} {t : TypeId} {E : α → List Value} {Q : α → Prop} (o : Opens enc P w t E Q) : OpensW enc P w t E Q := fun fuel cs y h _ => o fuel cs y h
theorem slice_reach {t e : TypeId} (ht : P.underlying t = some (.slice e)) (hb : 1 ≤ P.bytesOf e) {fuel : Nat} {A : Option Addr} {n c : Nat} {y : DataW H × List MemPlace}
    (h : DataW.trod enc P w 0 (fun _ => true) true fuel t [.slice A n c] = some y) (hW : ∀ k ∈ y.1.weights P t, k ≤ reachBytes) : n ≤ 140737488351232 := by
  rcases open_slice ht h with ⟨h1, rfl⟩ | ⟨a, len, cap, m, k, D, Pl, h1, _, hl, hm, hmm, rfl, hx⟩
  · simp only [List.cons.injEq, Value.slice.injEq, and_true] at h1
    omega
  · simp only [List.cons.injEq, Value.slice.injEq, and_true] at h1
    obtain ⟨_, rfl, rfl⟩ := h1
    have := hW _ (by simp only [DataW.weights, ht]; exact List.mem_cons_self ..)
    simp only [List.length_map, List.length_range, reachBytes] at this
    have h2 := Nat.le_mul_of_pos_right (n + 0) hb
    have h3 : n * 1 ≤ (n + (m - n)) * P.bytesOf e := Nat.mul_le_mul (by omega) hb
    first | omega | (simp at this; omega)
theorem opensX_slice {α : Type} {t e : TypeId} {k : Nat} {E : α → List Value} {Q : α → Prop} (ht : P.underlying t = some (.slice e)) (hb : 1 ≤ P.bytesOf e) (hk : P.cellsOf e = k) (hk0 : 0 < k) (he : OpensW enc P w e E Q) :
    OpensW enc P w t (ESl (α := α)) (fun x => (Sl w x.1 x.2.1 x.2.2.1 k (x.2.2.2.flatMap E) ∧ x.2.2.2.length = x.2.1 ∧ (x.1 = none → x.2.2.1 = 0) ∧ ∀ y ∈ x.2.2.2, Q y) ∧ x.2.1 ≤ 140737488351232) := by
  intro fuel cs y h hW
  obtain ⟨x, rfl, hq⟩ := opensW_slice ht hk hk0 he fuel cs y h hW
  exact ⟨x, rfl, hq, slice_reach ht hb h hW⟩
theorem topAW {α : Type} {t : TypeId} {v : Value} {cs : Array Value} {d : DataW H} {p : List MemPlace} {E : α → List Value} {Q : α → Prop} (ho : OpensW enc P w t E Q) (h : DataW.Trod enc P w 0 (fun _ => true) true t v d p) (hv : v = .agg cs) (hW : ∀ n ∈ d.weights P t, n ≤ reachBytes) :
    ∃ x, v = .agg (E x).toArray ∧ Q x := by
  obtain ⟨fuel, hf⟩ := h
  subst hv
  obtain ⟨x, hx, hq⟩ := ho _ _ _ hf hW
  refine ⟨x, ?_, hq⟩
  rw [← hx]; simp [Value.cells]
end
end Go.Proofs.Ytjgjhjecgdndjaa
namespace Go.Proofs.Ytjgjhjecgdndjaa
open Go.ChangeShapes Go.WideShapes Go.ChangeAt Go.RowKit Go.Deep
section
variable {H : Type} {enc : TypeId × Value → H} {P : Program} {w : World}
theorem opensW_struct3 {α0 α1 α2 : Type} {E0 : α0 → List Value} {E1 : α1 → List Value} {E2 : α2 → List Value} {Q0 : α0 → Prop} {Q1 : α1 → Prop} {Q2 : α2 → Prop} {t : TypeId} {f0 f1 f2 : Field}
    (ht : P.underlying t = some (.struct #[f0, f1, f2])) (hc : [P.cellsOf t, f0.offset, P.cellsOf f0.type, f1.offset, P.cellsOf f1.type, f2.offset, P.cellsOf f2.type] = [3, 0, 1, 1, 1, 2, 1])
    (o0 : OpensW enc P w f0.type E0 Q0) (o1 : OpensW enc P w f1.type E1 Q1) (o2 : OpensW enc P w f2.type E2 Q2) : OpensW enc P w t (ES3 E0 E1 E2) (fun x => Q0 x.1 ∧ Q1 x.2.1 ∧ Q2 x.2.2) := by
  intro fuel cs y h hW
  simp only [List.cons.injEq, and_true] at hc
  obtain ⟨c0, c1, c2, c3, c4, c5, c6⟩ := hc
  obtain ⟨xs, n, _, rfl, hl, hlen, hf⟩ := DataW.trod_struct ht h
  match xs, hlen with
  | [y0, y1, y2], _ =>
    have h0 := hf 0 f0 rfl
    have h1 := hf 1 f1 rfl
    have h2 := hf 2 f2 rfl
    rw [c0] at hl
    rw [c1, c2] at h0
    rw [c3, c4] at h1
    rw [c5, c6] at h2
    have hw0 : ∀ n ∈ y0.1.weights P f0.type, n ≤ reachBytes := fun n hn => hW n (by
      simp only [DataW.weights, ht, List.map_cons, List.map_nil, DataW.weightsEach, List.mem_append]
      exact .inl hn)
    have hw1 : ∀ n ∈ y1.1.weights P f1.type, n ≤ reachBytes := fun n hn => hW n (by
      simp only [DataW.weights, ht, List.map_cons, List.map_nil, DataW.weightsEach, List.mem_append]
      exact .inr (.inl hn))
    have hw2 : ∀ n ∈ y2.1.weights P f2.type, n ≤ reachBytes := fun n hn => hW n (by
      simp only [DataW.weights, ht, List.map_cons, List.map_nil, DataW.weightsEach, List.mem_append]
      exact .inr (.inr (.inl hn)))
    match cs, hl with
    | [a0, a1, a2], _ =>
      obtain ⟨x0, e0, q0⟩ := o0 n _ _ h0 hw0
      obtain ⟨x1, e1, q1⟩ := o1 n _ _ h1 hw1
      obtain ⟨x2, e2, q2⟩ := o2 n _ _ h2 hw2
      refine ⟨(x0, x1, x2), ?_, q0, q1, q2⟩
      show [a0, a1, a2] = E0 x0 ++ (E1 x1 ++ (E2 x2))
      rw [← e0, ← e1, ← e2]
      rfl
theorem opensW_struct4 {α0 α1 α2 α3 : Type} {E0 : α0 → List Value} {E1 : α1 → List Value} {E2 : α2 → List Value} {E3 : α3 → List Value} {Q0 : α0 → Prop} {Q1 : α1 → Prop} {Q2 : α2 → Prop} {Q3 : α3 → Prop} {t : TypeId} {f0 f1 f2 f3 : Field}
    (ht : P.underlying t = some (.struct #[f0, f1, f2, f3])) (hc : [P.cellsOf t, f0.offset, P.cellsOf f0.type, f1.offset, P.cellsOf f1.type, f2.offset, P.cellsOf f2.type, f3.offset, P.cellsOf f3.type] = [4, 0, 1, 1, 1, 2, 1, 3, 1])
    (o0 : OpensW enc P w f0.type E0 Q0) (o1 : OpensW enc P w f1.type E1 Q1) (o2 : OpensW enc P w f2.type E2 Q2) (o3 : OpensW enc P w f3.type E3 Q3) : OpensW enc P w t (ES4 E0 E1 E2 E3) (fun x => Q0 x.1 ∧ Q1 x.2.1 ∧ Q2 x.2.2.1 ∧ Q3 x.2.2.2) := by
  intro fuel cs y h hW
  simp only [List.cons.injEq, and_true] at hc
  obtain ⟨c0, c1, c2, c3, c4, c5, c6, c7, c8⟩ := hc
  obtain ⟨xs, n, _, rfl, hl, hlen, hf⟩ := DataW.trod_struct ht h
  match xs, hlen with
  | [y0, y1, y2, y3], _ =>
    have h0 := hf 0 f0 rfl
    have h1 := hf 1 f1 rfl
    have h2 := hf 2 f2 rfl
    have h3 := hf 3 f3 rfl
    rw [c0] at hl
    rw [c1, c2] at h0
    rw [c3, c4] at h1
    rw [c5, c6] at h2
    rw [c7, c8] at h3
    have hw0 : ∀ n ∈ y0.1.weights P f0.type, n ≤ reachBytes := fun n hn => hW n (by
      simp only [DataW.weights, ht, List.map_cons, List.map_nil, DataW.weightsEach, List.mem_append]
      exact .inl hn)
    have hw1 : ∀ n ∈ y1.1.weights P f1.type, n ≤ reachBytes := fun n hn => hW n (by
      simp only [DataW.weights, ht, List.map_cons, List.map_nil, DataW.weightsEach, List.mem_append]
      exact .inr (.inl hn))
    have hw2 : ∀ n ∈ y2.1.weights P f2.type, n ≤ reachBytes := fun n hn => hW n (by
      simp only [DataW.weights, ht, List.map_cons, List.map_nil, DataW.weightsEach, List.mem_append]
      exact .inr (.inr (.inl hn)))
    have hw3 : ∀ n ∈ y3.1.weights P f3.type, n ≤ reachBytes := fun n hn => hW n (by
      simp only [DataW.weights, ht, List.map_cons, List.map_nil, DataW.weightsEach, List.mem_append]
      exact .inr (.inr (.inr (.inl hn))))
    match cs, hl with
    | [a0, a1, a2, a3], _ =>
      obtain ⟨x0, e0, q0⟩ := o0 n _ _ h0 hw0
      obtain ⟨x1, e1, q1⟩ := o1 n _ _ h1 hw1
      obtain ⟨x2, e2, q2⟩ := o2 n _ _ h2 hw2
      obtain ⟨x3, e3, q3⟩ := o3 n _ _ h3 hw3
      refine ⟨(x0, x1, x2, x3), ?_, q0, q1, q2, q3⟩
      show [a0, a1, a2, a3] = E0 x0 ++ (E1 x1 ++ (E2 x2 ++ (E3 x3)))
      rw [← e0, ← e1, ← e2, ← e3]
      rfl
end
end Go.Proofs.Ytjgjhjecgdndjaa
