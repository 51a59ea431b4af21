/- Plain: as Args and Structs, with the bound on all texts that an argument reaches. -/
import Derived.Test.YtjgjhjecgdndjaaStructs
import Derived.SizedLaws
namespace Go.Proofs.Ytjgjhjecgdndjaa
open Go.ChangeShapes Go.WideShapes Go.ChangeAt Go.RowKit Go.Deep
section
variable {H : Type} {enc : TypeId × Value → H} {P : Program} {w : World}
theorem weightsAll_mem {e : TypeId} {d : DataW H} : ∀ {ds : List (DataW H)}, d ∈ ds → ∀ n ∈ d.weights P e, n ∈ DataW.weightsAll P e ds
  | d0 :: ds, h, n, hn => by
    simp only [DataW.weightsAll, List.mem_append]
    rcases List.mem_cons.1 h with rfl | h
    · exact .inl hn
    · exact .inr (weightsAll_mem h n hn)
def OpensW {α : Type} (enc : TypeId × Value → H) (P : Program) (w : World) (t : TypeId) (E : α → List Value) (Q : α → Prop) : Prop :=
  ∀ (fuel : Nat) (cs : List Value) (y : DataW H × List MemPlace), DataW.trod enc P w 0 (fun _ => true) true fuel t cs = some y → (∀ n ∈ y.1.weights P t, n ≤ reachBytes) → ∃ x, cs = E x ∧ Q x
theorem opensW_string {t : TypeId} (ht : P.underlying t = some .string) : OpensW enc P w t EStr (fun s => s.size ≤ 140737488351232) := by
  intro fuel cs y h hW
  obtain ⟨s, rfl, rfl, hs⟩ := DataW.trod_string ht h
  refine ⟨s, rfl, ?_⟩
  have := hW s.data.toList.length (by simp [DataW.weights])
  rw [Array.length_toList] at this
  exact this
theorem opensW_struct2 {α0 α1 : Type} {E0 : α0 → List Value} {E1 : α1 → List Value} {Q0 : α0 → Prop} {Q1 : α1 → Prop} {t : TypeId} {f0 f1 : Field}
    (ht : P.underlying t = some (.struct #[f0, f1])) (hc : [P.cellsOf t, f0.offset, P.cellsOf f0.type, f1.offset, P.cellsOf f1.type] = [2, 0, 1, 1, 1])
    (o0 : OpensW enc P w f0.type E0 Q0) (o1 : OpensW enc P w f1.type E1 Q1) : OpensW enc P w t (ES2 E0 E1) (fun x => Q0 x.1 ∧ Q1 x.2) := by
  intro fuel cs y h hW
  simp only [List.cons.injEq, and_true] at hc
  obtain ⟨c0, c1, c2, c3, c4⟩ := hc
  obtain ⟨xs, n, _, rfl, hl, hlen, hf⟩ := DataW.trod_struct ht h
  match xs, hlen with
  | [y0, y1], _ =>
    have h0 := hf 0 f0 rfl
    have h1 := hf 1 f1 rfl
    rw [c0] at hl
    rw [c1, c2] at h0
    rw [c3, c4] at h1
    have hw0 : ∀ n ∈ y0.1.weights P f0.type, n ≤ reachBytes := fun n hn => hW n (by
      simp only [DataW.weights, ht, List.map_cons, List.map_nil, DataW.weightsEach, List.mem_append]
      exact .inl hn)
    have hw1 : ∀ n ∈ y1.1.weights P f1.type, n ≤ reachBytes := fun n hn => hW n (by
      simp only [DataW.weights, ht, List.map_cons, List.map_nil, DataW.weightsEach, List.mem_append]
      exact .inr (.inl hn))
    match cs, hl with
    | [a0, a1], _ =>
      obtain ⟨x0, e0, q0⟩ := o0 n _ _ h0 hw0
      obtain ⟨x1, e1, q1⟩ := o1 n _ _ h1 hw1
      refine ⟨(x0, x1), ?_, q0, q1⟩
      show [a0, a1] = E0 x0 ++ E1 x1
      rw [← e0, ← e1]
      rfl
theorem opensW_slice {α : Type} {t e : TypeId} {k : Nat} {E : α → List Value} {Q : α → Prop} (ht : P.underlying t = some (.slice e)) (hk : P.cellsOf e = k) (hk0 : 0 < k) (he : OpensW enc P w e E Q) :
    OpensW enc P w t (ESl (α := α)) (fun x => Sl w x.1 x.2.1 x.2.2.1 k (x.2.2.2.flatMap E) ∧ x.2.2.2.length = x.2.1 ∧ (x.1 = none → x.2.2.1 = 0) ∧ ∀ y ∈ x.2.2.2, Q y) := by
  intro fuel cs y h hW
  rcases open_slice ht h with ⟨rfl, rfl⟩ | ⟨a, len, cap, m, n, D, Pl, rfl, _, hl, hm, hmm, rfl, hx⟩
  · exact ⟨(none, 0, 0, []), rfl, ⟨by simp, by simp, by unfold maxLen; simp, fun h => absurd h (by simp)⟩, rfl, fun _ => rfl, by simp⟩
  · obtain rfl : m = cap := by simpa using hmm
    rw [hk] at hx
    -- the cells, as one list
    by_cases h0 : len = 0
    · subst h0
      exact ⟨(some a, 0, m, []), rfl, ⟨by simp, by simp, hm, fun h => absurd h (by simp)⟩, rfl, fun h => by simp at h, by simp⟩
    obtain ⟨c0, hc0, _⟩ := hx 0 (by omega)
    obtain ⟨_, hl0, hcell0⟩ := World.cells?_some hc0
    have hs0 : w.cell? (a.add 0) = c0[0]? := by
      have h2 := hcell0 0 hk0
      rw [Deep.add_add] at h2; simpa using h2
    have hsome : w.cell? (a.add 0) = some (c0[0]'(by omega)) := by rw [hs0]; exact List.getElem?_eq_getElem _
    have hspot : a.spot = none := by
      have := World.cell?_spot hsome
      simpa [Addr.add] using this
    obtain ⟨b, off, sp⟩ := a
    simp only at hspot; subst hspot
    have hb : b < w.heap.size := by
      rcases Nat.lt_or_ge b w.heap.size with h | h
      · exact h
      · simp [Addr.add, World.cell?, Array.getElem?_eq_none h] at hsome
    have each : ∀ i, i < len → ∃ x, (∃ cs', cs' = E x ∧ cs'.length = k ∧ ∀ j, j < k → w.cell? ⟨b, off + (i * k + j), none⟩ = cs'[j]?) ∧ Q x := fun i hi => by
      obtain ⟨cs', h1, h2⟩ := hx i (by omega)
      obtain ⟨x, hx1, hx2⟩ := he _ _ _ h2 (fun q hq => hW q (by
        simp only [DataW.weights, ht]
        exact List.mem_cons_of_mem _ (List.mem_append_left _ (weightsAll_mem (List.mem_map.2 ⟨i, List.mem_range.2 hi, rfl⟩) q hq))))
      obtain ⟨_, hlen, hcell⟩ := World.cells?_some h1
      refine ⟨x, ⟨cs', hx1, hlen, fun j hj => ?_⟩, hx2⟩
      have := hcell j hj
      rwa [Deep.add_add, add_eq] at this
    have build : ∀ n, n ≤ len → ∃ xs : List α, xs.length = n ∧ (xs.flatMap E).length = n * k ∧ (∀ j, j < n * k → w.cell? ⟨b, off + j, none⟩ = (xs.flatMap E)[j]?) ∧ ∀ x ∈ xs, Q x := by
      intro n
      induction n with
      | zero => intro _; exact ⟨[], rfl, by simp, by simp, by simp⟩
      | succ n ih =>
        intro hn
        obtain ⟨xs, h1, h2, h3, h4⟩ := ih (by omega)
        obtain ⟨x, ⟨cs', hc1, hc2, hc3⟩, hq⟩ := each n (by omega)
        subst hc1
        refine ⟨xs ++ [x], by simp [h1], by simp only [List.flatMap_append, List.length_append, h2]; simp [hc2, Nat.succ_mul], ?_, ?_⟩
        · intro j hj
          rw [List.flatMap_append]
          by_cases hjn : j < n * k
          · rw [List.getElem?_append_left (by omega)]; exact h3 j hjn
          · rw [List.getElem?_append_right (by omega), h2]
            have := hc3 (j - n * k) (by rw [Nat.succ_mul] at hj; omega)
            rw [show n * k + (j - n * k) = j by omega] at this
            simpa using this
        · intro y hy
          rcases List.mem_append.1 hy with hy | hy
          · exact h4 y hy
          · simp at hy; subst hy; exact hq
    obtain ⟨xs, h1, h2, h3, h4⟩ := build len (Nat.le_refl _)
    exact ⟨(some ⟨b, off, none⟩, len, m, xs), rfl, ⟨h2, hl, hm, fun _ => ⟨b, off, rfl, hb, h3⟩⟩, h1, fun h => by simp at h, h4⟩

theorem sizedW {ts : List TypeId} {ds : List (DataW H)} (h : (DataW.weightsEach P ts ds).all (· ≤ reachBytes) = true) {j : Nat} {t : TypeId} {d : DataW H} (ht : ts[j]? = some t) (hd : ds[j]? = some d) : ∀ n ∈ d.weights P t, n ≤ reachBytes := fun n hn => by
  simpa using List.all_eq_true.1 h _ (DataW.weights_mem_each ht hd n hn)
theorem top1W {α : Type} {t : TypeId} {v : Value} {d : DataW H} {p : List MemPlace} {E : α → List Value} {Q : α → Prop} (ho : OpensW enc P w t E Q) (h : DataW.Trod enc P w 0 (fun _ => true) true t v d p) (hv : ∀ cs, v ≠ .agg cs) (hW : ∀ n ∈ d.weights P t, n ≤ reachBytes) :
    ∃ x, [v] = E x ∧ Q x := by
  obtain ⟨fuel, hf⟩ := h
  have e : v.cells.toList = [v] := by
    cases v <;> first | rfl | exact absurd rfl (hv _)
  rw [e] at hf
  exact ho _ _ _ hf hW
end
end Go.Proofs.Ytjgjhjecgdndjaa
