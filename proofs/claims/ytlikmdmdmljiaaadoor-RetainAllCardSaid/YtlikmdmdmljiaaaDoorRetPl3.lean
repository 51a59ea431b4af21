/- The marks that play a part, in their order: plain. -/
import Derived.Test.YtlikmdmdmljiaaaDoorRetPl2
namespace Go.Proofs.YtlikmdmdmljiaaaDoor
set_option linter.unusedVariables false
set_option linter.unusedSimpArgs false
def okAt (x : Mk) : Bool := decide (0 ≤ x.2) && decide (x.2 ≤ 274877906944)
section
variable {nlt : ByteArray → ByteArray → Bool}
def kn (nlt : ByteArray → ByteArray → Bool) (l : List Mk) : List Mk := (l.filter okAt).mergeSort fun x y => !(ltM nlt y x)
theorem kn_perm (l : List Mk) : (kn nlt l).Perm (l.filter okAt) := List.mergeSort_perm _ _
theorem kn_sorted (h : NOrd nlt) (l : List Mk) : (kn nlt l).Pairwise fun x y => (!(ltM nlt y x)) = true := by
  refine List.pairwise_mergeSort (fun a b c h1 h2 => ?_) (fun a b => ?_) _
  · simp at h1 h2 ⊢
    exact ltM_ntrans h _ _ _ h2 h1
  · simp
    cases h1 : ltM nlt b a with
    | false => exact .inl rfl
    | true =>
      right
      cases h2 : ltM nlt a b with
      | false => rfl
      | true => have := ltM_trans h _ _ _ h1 h2; rw [ltM_irrefl h] at this; cases this
theorem kn_of (h : NOrd nlt) (l : List Mk) (d : List Mk) (hp : d.Perm (l.filter okAt)) (hs : d.Pairwise fun x y => (!(ltM nlt y x)) = true) : d = kn nlt l := by
  refine List.Perm.eq_of_pairwise (le := fun x y => (!(ltM nlt y x)) = true) ?_ hs (kn_sorted h l) (hp.trans (kn_perm l).symm)
  intro a b _ _ h1 h2
  simp at h1 h2
  exact ltM_tri h _ _ h2 h1
theorem kn_same (h : NOrd nlt) {l m : List Mk} (hp : l.Perm m) : kn nlt l = kn nlt m :=
  kn_of h m _ ((kn_perm l).trans (hp.filter _)) (kn_sorted h l)
theorem kn_head (h : NOrd nlt) (l : List Mk) {x : Mk} {r : List Mk} (e : kn nlt l = x :: r) : ∀ y ∈ kn nlt l, ltM nlt y x = false := by
  have hs := kn_sorted h l
  rw [e] at hs ⊢
  intro y hy
  rcases List.mem_cons.1 hy with rfl | hy
  · exact ltM_irrefl h _
  · have := (List.pairwise_cons.1 hs).1 y hy
    simpa using this
/-- names in order -/
def sn (nlt : ByteArray → ByteArray → Bool) (l : List ByteArray) : List ByteArray := l.mergeSort fun x y => !(nlt y x)
theorem nlt_ntrans (h : NOrd nlt) (x y z : ByteArray) (h1 : nlt x y = false) (h2 : nlt y z = false) : nlt x z = false := by
  cases h3 : nlt x z with
  | false => rfl
  | true =>
    exfalso
    by_cases e : y = z
    · subst e; rw [h1] at h3; cases h3
    · have h4 : nlt z y = true := by
        cases h5 : nlt z y with
        | true => rfl
        | false => exact absurd (h.tri _ _ h2 h5) e
      rw [h.trans _ _ _ h3 h4] at h1
      cases h1
theorem sn_sorted (h : NOrd nlt) (l : List ByteArray) : (sn nlt l).Pairwise fun x y => (!(nlt y x)) = true := by
  refine List.pairwise_mergeSort (fun a b c h1 h2 => ?_) (fun a b => ?_) _
  · simp at h1 h2 ⊢
    exact nlt_ntrans h _ _ _ h2 h1
  · simp
    cases h1 : nlt b a with
    | false => exact .inl rfl
    | true =>
      right
      cases h2 : nlt a b with
      | false => rfl
      | true => have := h.trans _ _ _ h1 h2; rw [h.irrefl] at this; cases this
theorem sn_of (h : NOrd nlt) (l d : List ByteArray) (hp : d.Perm l) (hs : d.Pairwise fun x y => (!(nlt y x)) = true) : d = sn nlt l := by
  refine List.Perm.eq_of_pairwise (le := fun x y => (!(nlt y x)) = true) ?_ hs (sn_sorted h l) (hp.trans (List.mergeSort_perm _ _).symm)
  intro a b _ _ h1 h2
  simp at h1 h2
  exact h.tri _ _ h2 h1
theorem sn_mem (l : List ByteArray) (s : ByteArray) : s ∈ sn nlt l ↔ s ∈ l := (List.mergeSort_perm _ _).mem_iff
theorem sn_len (l : List ByteArray) : (sn nlt l).length = l.length := (List.mergeSort_perm _ _).length_eq
end
/-- names unlike stay so -/
theorem unl_nodup {K : List Mk} : Unl K ↔ (K.map (·.1)).Nodup := by
  constructor
  · intro h
    show List.Pairwise (· ≠ ·) _
    rw [List.pairwise_iff_getElem]
    intro i j hi hj hij e
    simp only [List.getElem_map] at e
    have := h i j _ _ (List.getElem?_eq_getElem (by simpa using hi)) (List.getElem?_eq_getElem (by simpa using hj)) e
    omega
  · intro h i j x y hx hy e
    have h : List.Pairwise (· ≠ ·) (K.map (·.1)) := h
    rw [List.pairwise_iff_getElem] at h
    refine Decidable.byContradiction fun hne => ?_
    obtain ⟨hi, ei⟩ := List.getElem?_eq_some_iff.1 hx
    obtain ⟨hj, ej⟩ := List.getElem?_eq_some_iff.1 hy
    rcases Nat.lt_or_gt_of_ne hne with hlt | hlt
    · exact h i j (by simpa using hi) (by simpa using hj) hlt (by simp only [List.getElem_map]; rw [ei, ej]; exact e)
    · exact h j i (by simpa using hj) (by simpa using hi) hlt (by simp only [List.getElem_map]; rw [ei, ej]; exact e.symm)
theorem unl_filter {l : List Mk} (h : Unl l) (p : Mk → Bool) : Unl (l.filter p) := by
  rw [unl_nodup] at h ⊢
  exact h.sublist ((List.filter_sublist).map _)
theorem unl_perm {l m : List Mk} (h : Unl l) (hp : m.Perm l) : Unl m := by
  rw [unl_nodup] at h ⊢
  exact (hp.map _).nodup_iff.2 h
end Go.Proofs.YtlikmdmdmljiaaaDoor
