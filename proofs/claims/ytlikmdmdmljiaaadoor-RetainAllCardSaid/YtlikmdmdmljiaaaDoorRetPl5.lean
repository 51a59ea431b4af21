/- The law's own loops: plain. -/
import Derived.Test.YtlikmdmdmljiaaaDoorRetPl4
namespace Go.Proofs.YtlikmdmdmljiaaaDoor
set_option linter.unusedVariables false
set_option linter.unusedSimpArgs false
/-- those of the first j that play a part -/
def okTo (l : List Mk) (j : Nat) : List Mk := (l.take j).filter okAt
theorem okTo_step (l : List Mk) (j : Nat) (h : j < l.length) : okTo l (j + 1) = if okAt l[j] = true then okTo l j ++ [l[j]] else okTo l j := by
  unfold okTo
  rw [List.take_succ_eq_append_getElem h, List.filter_append]
  by_cases ho : okAt l[j] = true
  · rw [if_pos ho]; simp [ho]
  · rw [if_neg ho]; simp [ho]
theorem okTo_all (l : List Mk) : okTo l l.length = l.filter okAt := by unfold okTo; rw [List.take_length]
theorem best_snoc (nlt : ByteArray → ByteArray → Bool) (l : List Mk) (x : Mk) : bestL nlt (l ++ [x]) = bestStep nlt (bestL nlt l) x := by unfold bestL; rw [List.foldl_append]; rfl
/-- the names of those that were seen -/
theorem okTo_new {l : List Mk} (hU : Unl l) (j : Nat) (h : j < l.length) : ∀ x ∈ okTo l j, x.1 ≠ l[j].1 := by
  intro x hx e
  obtain ⟨i, hi⟩ := List.mem_iff_getElem?.1 (List.mem_filter.1 hx).1
  rw [List.getElem?_take] at hi
  split at hi
  · rename_i hij
    have := hU i j x l[j] hi (List.getElem?_eq_getElem h) e
    omega
  · cases hi
/-- m is built from the front: the other way round -/
theorem rev_step (l : List Mk) (j : Nat) (h : j < l.length) : (l.take (j + 1)).reverse = l[j] :: (l.take j).reverse := by
  rw [List.take_succ_eq_append_getElem h, List.reverse_append]; rfl
/-- names unlike so far -/
def UnlTo (l : List Mk) (j : Nat) : Prop := ∀ (a b : Nat) (x y : Mk), a < b → b < j → l[a]? = some x → l[b]? = some y → x.1 ≠ y.1
theorem unlTo_step {l : List Mk} {j : Nat} (h : UnlTo l j) (hn : ∀ (a : Nat) (x y : Mk), a < j → l[a]? = some x → l[j]? = some y → y.1 ≠ x.1) : UnlTo l (j + 1) := by
  intro a b x y hab hb hx hy
  by_cases e : b = j
  · subst e; exact fun e2 => hn a x y hab hx hy e2.symm
  · exact h a b x y hab (by omega) hx hy
theorem unlTo_all {l : List Mk} (h : UnlTo l l.length) : Unl l := by
  intro i j x y hx hy e
  have hi := (List.getElem?_eq_some_iff.1 hx).1
  have hj := (List.getElem?_eq_some_iff.1 hy).1
  rcases Nat.lt_trichotomy i j with h1 | h1 | h1
  · exact absurd e (h i j x y h1 hj hx hy)
  · exact h1
  · exact absurd e.symm (h j i y x h1 hi hy hx)
end Go.Proofs.YtlikmdmdmljiaaaDoor
