/- Plain: the places that a rule's firsts are handed out at, and what comes of marking them. -/
import Derived.Test.YtlikmdmdmljiaaaDoorRetPl5
namespace Go.Proofs.YtlikmdmdmljiaaaDoor
set_option linter.unusedVariables false
set_option linter.unusedSimpArgs false
/-- the places that are handed out -/
def posF (f : Mk → Int) : Int → Int → Nat → List Mk → List Nat
  | _, _, _, [] => []
  | n, last, i, x :: r => if n < 1 then [] else if f x = last then posF f n last (i + 1) r else i :: posF f (n - 1) (f x) (i + 1) r
def setO (b : Nat) (W : List Nat) (i : Nat) : List Nat := W.set i (W.getD i 0 ||| b)
theorem setO_len (b : Nat) (W : List Nat) (i : Nat) : (setO b W i).length = W.length := by simp [setO]
theorem orW_none' (b : Nat) : ∀ (W : List Nat) (l : List Mk), W.length = l.length → orW b W (l.map fun _ => false) = W
  | [], _, _ => by simp [orW]
  | w :: W, x :: l, h => by
    have ih := orW_none' b W l (by simpa using h)
    unfold orW at ih ⊢
    simp only [List.map_cons, List.zipWith_cons_cons]
    rw [ih]; rfl
theorem posF_fold (f : Mk → Int) (b : Nat) : ∀ (K : List Mk) (n last : Int) (i : Nat) (W : List Nat), W.length = i + K.length → (posF f n last i K).foldl (setO b) W = W.take i ++ orW b (W.drop i) (firstsL f n last K)
  | [], n, last, i, W, h => by
    have h' : W.length = i := by simpa using h
    simp only [posF, List.foldl_nil, firstsL]
    rw [List.take_of_length_le (by omega)]
    simp [orW]
  | x :: r, n, last, i, W, h => by
    have hi : i < W.length := by simp at h; omega
    have hr : W.length = (i + 1) + r.length := by simp at h; omega
    have hd : W.drop i = W[i] :: W.drop (i + 1) := List.drop_eq_getElem_cons hi
    unfold posF
    by_cases h1 : n < 1
    · rw [if_pos h1, List.foldl_nil, firsts_none f _ n last h1, orW_none' b _ _ (by rw [List.length_drop]; simp at h ⊢; omega), List.take_append_drop]
    · rw [if_neg h1]
      by_cases h2 : f x = last
      · rw [if_pos h2, posF_fold f b r n last (i + 1) W hr]
        conv => rhs; unfold firstsL
        rw [if_neg h1, if_pos h2, hd, List.take_succ_eq_append_getElem hi]
        simp only [orW, List.zipWith_cons_cons, List.append_assoc, List.singleton_append, Bool.false_eq_true, if_false]
      · rw [if_neg h2, List.foldl_cons, posF_fold f b r (n - 1) (f x) (i + 1) _ (by rw [setO_len]; exact hr)]
        conv => rhs; unfold firstsL
        rw [if_neg h1, if_neg h2, hd]
        have e1 : (setO b W i).take (i + 1) = W.take i ++ [W[i] ||| b] := by
          unfold setO
          rw [List.take_succ_eq_append_getElem (by simpa using hi)]
          rw [List.take_set_of_le (Nat.le_refl _)]
          simp [List.getD, hi]
        have e2 : (setO b W i).drop (i + 1) = W.drop (i + 1) := by
          unfold setO
          rw [List.drop_set_of_lt (by omega)]
        rw [e1, e2]
        simp only [orW, List.zipWith_cons_cons, List.append_assoc, List.singleton_append, if_true]
theorem posF_all (f : Mk → Int) (b : Nat) (K : List Mk) (n : Int) (W : List Nat) (h : W.length = K.length) : (posF f n (-1) 0 K).foldl (setO b) W = orW b W (firstsL f n (-1) K) := by
  have := posF_fold f b K n (-1) 0 W (by omega)
  simpa using this
theorem posF_lt (f : Mk → Int) : ∀ (K : List Mk) (n last : Int) (i : Nat), ∀ j ∈ posF f n last i K, i ≤ j ∧ j < i + K.length
  | [], _, _, _, j, h => by simp [posF] at h
  | x :: r, n, last, i, j, h => by
    unfold posF at h
    by_cases h1 : n < 1
    · rw [if_pos h1] at h; cases h
    · rw [if_neg h1] at h
      by_cases h2 : f x = last
      · rw [if_pos h2] at h
        have := posF_lt f r n last (i + 1) j h
        simp; omega
      · rw [if_neg h2] at h
        rcases List.mem_cons.1 h with rfl | h
        · simp
        · have := posF_lt f r (n - 1) (f x) (i + 1) j h
          simp; omega
theorem foldO_len (b : Nat) : ∀ (ps W : List Nat), (ps.foldl (setO b) W).length = W.length
  | [], _ => rfl
  | p :: ps, W => by rw [List.foldl_cons, foldO_len b ps, setO_len]
theorem setO_lt (b : Nat) (hb : b < 64) (W : List Nat) (i : Nat) (h : ∀ w ∈ W, w < 64) : ∀ w ∈ setO b W i, w < 64 := by
  intro w hw
  unfold setO at hw
  rcases List.mem_or_eq_of_mem_set hw with hw | rfl
  · exact h w hw
  · have h0 : W.getD i 0 < 64 := by
      by_cases hi : i < W.length
      · have : W.getD i 0 = W[i] := by simp [List.getD, hi]
        rw [this]; exact h _ (List.getElem_mem hi)
      · have : W.getD i 0 = 0 := by simp [List.getD, List.getElem?_eq_none (Nat.le_of_not_lt hi)]
        omega
    exact Nat.or_lt_two_pow (n := 6) h0 hb
theorem foldO_lt (b : Nat) (hb : b < 64) : ∀ (ps W : List Nat), (∀ w ∈ W, w < 64) → ∀ w ∈ ps.foldl (setO b) W, w < 64
  | [], W, h => h
  | p :: ps, W, h => foldO_lt b hb ps _ (setO_lt b hb W p h)
end Go.Proofs.YtlikmdmdmljiaaaDoor
