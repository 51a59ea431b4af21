/- Plain: as ArgsW, with the slices' own lengths within the reach. -/
import Derived.Test.YteidlngffikboaaArgsW
namespace Go.Proofs.Yteidlngffikboaa
open Go.ChangeShapes Go.WideShapes Go.ChangeAt Go.RowKit Go.Deep
section
variable {H : Type} {enc : TypeId × Value → H} {P : Program} {w : World}
theorem opensW_of {α : Type} {t : TypeId} {E : α → List Value} {Q : α → Prop} (o : Opens enc P w t E Q) : OpensW enc P w t E Q := fun fuel cs y h _ => o fuel cs y h
theorem slice_reach {t e : TypeId} (ht : P.underlying t = some (.slice e)) (hb : 1 ≤ P.bytesOf e) {fuel : Nat} {A : Option Addr} {n c : Nat} {y : DataW H × List MemPlace}
    (h : DataW.trod enc P w 0 (fun _ => true) true fuel t [.slice A n c] = some y) (hW : ∀ k ∈ y.1.weights P t, k ≤ reachBytes) : n ≤ 140737488351232 := by
  rcases open_slice ht h with ⟨h1, rfl⟩ | ⟨a, len, cap, m, k, D, Pl, h1, _, hl, hm, hmm, rfl, hx⟩
  · simp only [List.cons.injEq, Value.slice.injEq, and_true] at h1
    omega
  · simp only [List.cons.injEq, Value.slice.injEq, and_true] at h1
    obtain ⟨_, rfl, rfl⟩ := h1
    have := hW _ (by simp only [DataW.weights, ht]; exact List.mem_cons_self ..)
    simp only [List.length_map, List.length_range, reachBytes] at this
    have h2 := Nat.le_mul_of_pos_right (n + 0) hb
    have h3 : n * 1 ≤ (n + (m - n)) * P.bytesOf e := Nat.mul_le_mul (by omega) hb
    first | omega | (simp at this; omega)
theorem opensX_slice {α : Type} {t e : TypeId} {k : Nat} {E : α → List Value} {Q : α → Prop} (ht : P.underlying t = some (.slice e)) (hb : 1 ≤ P.bytesOf e) (hk : P.cellsOf e = k) (hk0 : 0 < k) (he : OpensW enc P w e E Q) :
    OpensW enc P w t (ESl (α := α)) (fun x => (Sl w x.1 x.2.1 x.2.2.1 k (x.2.2.2.flatMap E) ∧ x.2.2.2.length = x.2.1 ∧ (x.1 = none → x.2.2.1 = 0) ∧ ∀ y ∈ x.2.2.2, Q y) ∧ x.2.1 ≤ 140737488351232) := by
  intro fuel cs y h hW
  obtain ⟨x, rfl, hq⟩ := opensW_slice ht hk hk0 he fuel cs y h hW
  exact ⟨x, rfl, hq, slice_reach ht hb h hW⟩
theorem topAW {α : Type} {t : TypeId} {v : Value} {cs : Array Value} {d : DataW H} {p : List MemPlace} {E : α → List Value} {Q : α → Prop} (ho : OpensW enc P w t E Q) (h : DataW.Trod enc P w 0 (fun _ => true) true t v d p) (hv : v = .agg cs) (hW : ∀ n ∈ d.weights P t, n ≤ reachBytes) :
    ∃ x, v = .agg (E x).toArray ∧ Q x := by
  obtain ⟨fuel, hf⟩ := h
  subst hv
  obtain ⟨x, hx, hq⟩ := ho _ _ _ hf hW
  refine ⟨x, ?_, hq⟩
  rw [← hx]; simp [Value.cells]
end
end Go.Proofs.Yteidlngffikboaa
