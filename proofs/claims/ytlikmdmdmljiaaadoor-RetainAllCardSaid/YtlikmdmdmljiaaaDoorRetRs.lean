/- Plain: reasons, one after another. -/
import Derived.Test.YtlikmdmdmljiaaaDoorRetPl5
namespace Go.Proofs.YtlikmdmdmljiaaaDoor
set_option linter.unusedVariables false
set_option linter.unusedSimpArgs false
def rsL : List Mk → List Nat → List Mk
  | x :: K, w :: W => if w = 0 then rsL K W else (x.1, (w : Int)) :: rsL K W
  | _, _ => []
theorem rsL_names : ∀ (K : List Mk) (W : List Nat), (rsL K W).map (·.1) = nzN K W
  | [], W => by cases W <;> simp [rsL, nzN]
  | x :: K, [] => by simp [rsL, nzN]
  | x :: K, w :: W => by
    have ih := rsL_names K W
    unfold rsL nzN
    by_cases h : w = 0
    · simp [h, ih]
    · simp [h, ih]
theorem rsL_bd : ∀ (K : List Mk) (W : List Nat), (∀ w ∈ W, w < 64) → ∀ r ∈ rsL K W, 1 ≤ r.2 ∧ r.2 ≤ 63
  | [], W, _, r, h => by cases W <;> simp [rsL] at h
  | x :: K, [], _, r, h => by simp [rsL] at h
  | x :: K, w :: W, hW, r, h => by
    unfold rsL at h
    have hw := hW w (by simp)
    by_cases h0 : w = 0
    · rw [if_pos h0] at h
      exact rsL_bd K W (fun u hu => hW u (by simp [hu])) r h
    · rw [if_neg h0] at h
      rcases List.mem_cons.1 h with rfl | h
      · show 1 ≤ (w : Int) ∧ (w : Int) ≤ 63; omega
      · exact rsL_bd K W (fun u hu => hW u (by simp [hu])) r h
theorem rsL_snoc : ∀ (K : List Mk) (W : List Nat) (x : Mk) (w : Nat), K.length = W.length → rsL (K ++ [x]) (W ++ [w]) = rsL K W ++ if w = 0 then [] else [(x.1, (w : Int))]
  | [], [], x, w, _ => by simp [rsL]
  | [], w' :: W, x, w, h => by simp at h
  | x' :: K, [], x, w, h => by simp at h
  | x' :: K, w' :: W, x, w, h => by
    have ih := rsL_snoc K W x w (by simpa using h)
    simp only [List.cons_append, rsL]
    by_cases h0 : w' = 0
    · rw [if_pos h0, if_pos h0, ih]
    · rw [if_neg h0, if_neg h0, ih, List.cons_append]
theorem zN_snoc : ∀ (K : List Mk) (W : List Nat) (x : Mk) (w : Nat), K.length = W.length → zN (K ++ [x]) (W ++ [w]) = zN K W ++ if w = 0 then [x.1] else []
  | [], [], x, w, _ => by by_cases h : w = 0 <;> simp [zN, h]
  | [], w' :: W, x, w, h => by simp at h
  | x' :: K, [], x, w, h => by simp at h
  | x' :: K, w' :: W, x, w, h => by
    have ih := zN_snoc K W x w (by simpa using h)
    simp only [List.cons_append, zN]
    by_cases h0 : w' = 0
    · simp [h0, ih]
    · simp [h0, ih]
def rsTo (K : List Mk) (W : List Nat) (j : Nat) : List Mk := rsL (K.take j) (W.take j)
def zTo (K : List Mk) (W : List Nat) (j : Nat) : List ByteArray := zN (K.take j) (W.take j)
theorem rsTo_step (K : List Mk) (W : List Nat) (j : Nat) (hK : j < K.length) (hl : W.length = K.length) : rsTo K W (j + 1) = rsTo K W j ++ if W.getD j 0 = 0 then [] else [(K[j].1, ((W.getD j 0 : Nat) : Int))] := by
  have hW : j < W.length := by omega
  unfold rsTo
  rw [List.take_succ_eq_append_getElem hK, List.take_succ_eq_append_getElem hW, rsL_snoc _ _ _ _ (by simp; omega)]
  have : W.getD j 0 = W[j] := by simp [List.getD, hW]
  rw [this]
theorem zTo_step (K : List Mk) (W : List Nat) (j : Nat) (hK : j < K.length) (hl : W.length = K.length) : zTo K W (j + 1) = zTo K W j ++ if W.getD j 0 = 0 then [K[j].1] else [] := by
  have hW : j < W.length := by omega
  unfold zTo
  rw [List.take_succ_eq_append_getElem hK, List.take_succ_eq_append_getElem hW, zN_snoc _ _ _ _ (by simp; omega)]
  have : W.getD j 0 = W[j] := by simp [List.getD, hW]
  rw [this]
theorem rsTo_len (K : List Mk) (W : List Nat) : ∀ (j : Nat), (rsTo K W j).length ≤ j := by
  have : ∀ (K : List Mk) (W : List Nat), (rsL K W).length ≤ K.length := by
    intro K
    induction K with
    | nil => intro W; cases W <;> simp [rsL]
    | cons x K ih =>
      intro W
      cases W with
      | nil => simp [rsL]
      | cons w W =>
        unfold rsL
        have := ih W
        by_cases h : w = 0
        · rw [if_pos h]; simp; omega
        · rw [if_neg h]; simp; omega
  intro j
  exact Nat.le_trans (this _ _) (by simp; omega)
theorem zTo_len (K : List Mk) (W : List Nat) : ∀ (j : Nat), (zTo K W j).length ≤ j := by
  have : ∀ (K : List Mk) (W : List Nat), (zN K W).length ≤ K.length := by
    intro K
    induction K with
    | nil => intro W; cases W <;> simp [zN]
    | cons x K ih =>
      intro W
      cases W with
      | nil => simp [zN]
      | cons w W =>
        have := ih W
        by_cases h : w = 0
        · simp [zN, h]; omega
        · simp [zN, h]; omega
  intro j
  exact Nat.le_trans (this _ _) (by simp; omega)
theorem rsTo_all (K : List Mk) (W : List Nat) (hl : W.length = K.length) : rsTo K W K.length = rsL K W := by
  unfold rsTo; rw [List.take_length, List.take_of_length_le (by omega)]
theorem zTo_all (K : List Mk) (W : List Nat) (hl : W.length = K.length) : zTo K W K.length = zN K W := by
  unfold zTo; rw [List.take_length, List.take_of_length_le (by omega)]
end Go.Proofs.YtlikmdmdmljiaaaDoor
