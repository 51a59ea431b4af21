/- Which marks are kept, and which are not: plain. -/
import Derived.Test.YtlikmdmdmljiaaaDoorRetPl
namespace Go.Proofs.YtlikmdmdmljiaaaDoor
set_option linter.unusedVariables false
set_option linter.unusedSimpArgs false
def nzN : List Mk → List Nat → List ByteArray
  | x :: K, w :: W => if w = 0 then nzN K W else x.1 :: nzN K W
  | _, _ => []
def zN : List Mk → List Nat → List ByteArray
  | x :: K, w :: W => if w = 0 then x.1 :: zN K W else zN K W
  | _, _ => []
theorem nz_z_len : ∀ (K : List Mk) (W : List Nat), W.length = K.length → (nzN K W).length + (zN K W).length = K.length
  | [], W, h => by cases W <;> simp_all [nzN, zN]
  | x :: K, [], h => by simp at h
  | x :: K, w :: W, h => by
    have ih := nz_z_len K W (by simpa using h)
    unfold nzN zN
    split <;> simp <;> omega
theorem nz_mem : ∀ (K : List Mk) (W : List Nat) (s : ByteArray), s ∈ nzN K W ↔ ∃ (i : Nat) (x : Mk) (w : Nat), K[i]? = some x ∧ W[i]? = some w ∧ w ≠ 0 ∧ x.1 = s
  | [], W, s => by simp [nzN]
  | x :: K, [], s => by simp [nzN]
  | x :: K, w :: W, s => by
    have ih := nz_mem K W s
    unfold nzN
    constructor
    · intro h
      by_cases hw : w = 0
      · rw [if_pos hw] at h
        obtain ⟨i, y, v, h1, h2, h3, h4⟩ := ih.1 h
        exact ⟨i + 1, y, v, by simpa using h1, by simpa using h2, h3, h4⟩
      · rw [if_neg hw] at h
        rcases List.mem_cons.1 h with rfl | h
        · exact ⟨0, x, w, rfl, rfl, hw, rfl⟩
        · obtain ⟨i, y, v, h1, h2, h3, h4⟩ := ih.1 h
          exact ⟨i + 1, y, v, by simpa using h1, by simpa using h2, h3, h4⟩
    · rintro ⟨i, y, v, h1, h2, h3, h4⟩
      cases i with
      | zero =>
        simp at h1 h2
        subst h1 h2
        rw [if_neg h3, h4]
        exact List.mem_cons_self
      | succ i =>
        have := ih.2 ⟨i, y, v, by simpa using h1, by simpa using h2, h3, h4⟩
        split
        · exact this
        · exact List.mem_cons_of_mem _ this
theorem z_mem : ∀ (K : List Mk) (W : List Nat) (s : ByteArray), s ∈ zN K W ↔ ∃ (i : Nat) (x : Mk), K[i]? = some x ∧ W[i]? = some 0 ∧ x.1 = s
  | [], W, s => by simp [zN]
  | x :: K, [], s => by simp [zN]
  | x :: K, w :: W, s => by
    have ih := z_mem K W s
    unfold zN
    constructor
    · intro h
      by_cases hw : w = 0
      · subst hw
        rw [if_pos rfl] at h
        rcases List.mem_cons.1 h with rfl | h
        · exact ⟨0, x, rfl, rfl, rfl⟩
        · obtain ⟨i, y, h1, h2, h4⟩ := ih.1 h
          exact ⟨i + 1, y, by simpa using h1, by simpa using h2, h4⟩
      · rw [if_neg hw] at h
        obtain ⟨i, y, h1, h2, h4⟩ := ih.1 h
        exact ⟨i + 1, y, by simpa using h1, by simpa using h2, h4⟩
    · rintro ⟨i, y, h1, h2, h4⟩
      cases i with
      | zero =>
        simp at h1 h2
        subst h1 h2
        rw [if_pos rfl, h4]
        exact List.mem_cons_self
      | succ i =>
        have := ih.2 ⟨i, y, by simpa using h1, by simpa using h2, h4⟩
        split
        · exact List.mem_cons_of_mem _ this
        · exact this
/-- names unlike -/
def Unl (K : List Mk) : Prop := ∀ (i j : Nat) (x y : Mk), K[i]? = some x → K[j]? = some y → x.1 = y.1 → i = j
theorem in_one {K : List Mk} {W : List Nat} (hU : Unl K) {i : Nat} {x : Mk} {w : Nat} (hx : K[i]? = some x) (hw : W[i]? = some w) : (x.1 ∈ nzN K W ↔ w ≠ 0) ∧ (x.1 ∈ zN K W ↔ w = 0) := by
  constructor
  · rw [nz_mem]
    constructor
    · rintro ⟨j, y, v, h1, h2, h3, h4⟩
      have := hU i j x y hx h1 h4.symm
      subst this
      rw [hw] at h2
      cases h2
      exact h3
    · intro h
      exact ⟨i, x, w, hx, hw, h, rfl⟩
  · rw [z_mem]
    constructor
    · rintro ⟨j, y, h1, h2, h4⟩
      have := hU i j x y hx h1 h4.symm
      subst this
      rw [hw] at h2
      cases h2
      rfl
    · rintro rfl
      exact ⟨i, x, hx, hw, rfl⟩
/-- greater numbers keep all that smaller ones do -/
theorem nz_mono {K : List Mk} {W V : List Nat} (h : NzLe W V) (hl : W.length = K.length) (s : ByteArray) (hs : s ∈ nzN K W) : s ∈ nzN K V := by
  rw [nz_mem] at hs ⊢
  obtain ⟨i, x, w, h1, h2, h3, h4⟩ := hs
  have hi : i < V.length := by rw [← h.1]; exact (List.getElem?_eq_some_iff.1 h2).1
  exact ⟨i, x, V[i], h1, List.getElem?_eq_getElem hi, h.2 i _ _ h2 (List.getElem?_eq_getElem hi) h3, h4⟩
theorem nz_none : ∀ (K : List Mk) (W : List Nat), (∀ w ∈ W, w = 0) → nzN K W = []
  | [], W, _ => by simp [nzN]
  | x :: K, [], _ => by simp [nzN]
  | x :: K, w :: W, h => by
    unfold nzN
    rw [if_pos (h w List.mem_cons_self)]
    exact nz_none K W fun v hv => h v (List.mem_cons_of_mem _ hv)
theorem lastW_none (n : Int) (k : Nat) (h : n < 1) : ∀ w ∈ lastW n k, w = 0 := by
  intro w hw
  unfold lastW at hw
  rw [List.mem_map] at hw
  obtain ⟨i, _, rfl⟩ := hw
  rw [if_neg (by omega)]
theorem lastW_lt (n : Int) (k : Nat) : ∀ w ∈ lastW n k, w < 64 := by
  intro w hw
  unfold lastW at hw
  rw [List.mem_map] at hw
  obtain ⟨i, _, rfl⟩ := hw
  split <;> omega
/-- the order of marks: the latest first, then by name -/
structure NOrd (nlt : ByteArray → ByteArray → Bool) : Prop where
  irrefl : ∀ x, nlt x x = false
  trans : ∀ x y z, nlt x y = true → nlt y z = true → nlt x z = true
  tri : ∀ x y, nlt x y = false → nlt y x = false → x = y
def ltM (nlt : ByteArray → ByteArray → Bool) (x y : Mk) : Bool := decide (y.2 < x.2) || (decide (x.2 = y.2) && nlt x.1 y.1)
section
variable {nlt : ByteArray → ByteArray → Bool}
theorem ltM_irrefl (h : NOrd nlt) (x : Mk) : ltM nlt x x = false := by simp [ltM, h.irrefl]
theorem ltM_trans (h : NOrd nlt) (x y z : Mk) (h1 : ltM nlt x y = true) (h2 : ltM nlt y z = true) : ltM nlt x z = true := by
  simp [ltM] at h1 h2 ⊢
  rcases h1 with h1 | ⟨h1, h3⟩
  · rcases h2 with h2 | ⟨h2, h4⟩
    · left; omega
    · left; omega
  · rcases h2 with h2 | ⟨h2, h4⟩
    · left; omega
    · right; exact ⟨by omega, h.trans _ _ _ h3 h4⟩
theorem ltM_tri (h : NOrd nlt) (x y : Mk) (h1 : ltM nlt x y = false) (h2 : ltM nlt y x = false) : x = y := by
  simp [ltM] at h1 h2
  have e : x.2 = y.2 := by omega
  exact Prod.ext (h.tri _ _ (h1.2 e) (h2.2 e.symm)) e
/-- the best of those that were seen -/
def bestStep (nlt : ByteArray → ByteArray → Bool) (b : Mk) (x : Mk) : Mk := if ltM nlt x b then x else b
def bestL (nlt : ByteArray → ByteArray → Bool) (l : List Mk) : Mk := l.foldl (bestStep nlt) (⟨#[]⟩, -1)
theorem ltM_ntrans (h : NOrd nlt) (x y z : Mk) (h1 : ltM nlt x y = false) (h2 : ltM nlt y z = false) : ltM nlt x z = false := by
  cases h3 : ltM nlt x z with
  | false => rfl
  | true =>
    exfalso
    by_cases e : y = z
    · subst e; rw [h1] at h3; cases h3
    · have h4 : ltM nlt z y = true := by
        cases h5 : ltM nlt z y with
        | true => rfl
        | false => exact absurd (ltM_tri h _ _ h2 h5) e
      rw [ltM_trans h _ _ _ h3 h4] at h1
      cases h1
theorem best_fold (h : NOrd nlt) : ∀ (l : List Mk) (b : Mk), (l.foldl (bestStep nlt) b = b ∨ l.foldl (bestStep nlt) b ∈ l) ∧ (∀ y ∈ l, ltM nlt y (l.foldl (bestStep nlt) b) = false) ∧ ltM nlt b (l.foldl (bestStep nlt) b) = false
  | [], b => ⟨.inl rfl, by simp, ltM_irrefl h b⟩
  | x :: l, b => by
    obtain ⟨h1, h2, h3⟩ := best_fold h l (bestStep nlt b x)
    have hb : ltM nlt b (bestStep nlt b x) = false ∧ ltM nlt x (bestStep nlt b x) = false := by
      unfold bestStep
      cases hx : ltM nlt x b with
      | true =>
        rw [if_pos rfl]
        refine ⟨?_, ltM_irrefl h x⟩
        cases h5 : ltM nlt b x with
        | false => rfl
        | true => have := ltM_trans h _ _ _ hx h5; rw [ltM_irrefl h] at this; cases this
      | false => rw [if_neg (by simp)]; exact ⟨ltM_irrefl h b, hx⟩
    rw [List.foldl_cons]
    refine ⟨?_, fun y hy => ?_, ltM_ntrans h _ _ _ hb.1 h3⟩
    · rcases h1 with h1 | h1
      · rw [h1]
        unfold bestStep
        split
        · exact .inr List.mem_cons_self
        · exact .inl rfl
      · exact .inr (List.mem_cons_of_mem _ h1)
    · rcases List.mem_cons.1 hy with rfl | hy
      · exact ltM_ntrans h _ _ _ hb.2 h3
      · exact h2 y hy
/-- the best is the first of those that are sorted -/
theorem best_first (h : NOrd nlt) (l K : List Mk) (hp : K.Perm l) (x : Mk) (r : List Mk) (hK : K = x :: r) (hs : ∀ y ∈ K, ltM nlt y x = false) (h0 : ∀ y ∈ l, 0 ≤ y.2) : bestL nlt l = x := by
  obtain ⟨h1, h2, h3⟩ := best_fold h l (⟨#[]⟩, -1)
  have hx : x ∈ l := hp.mem_iff.1 (by rw [hK]; exact List.mem_cons_self)
  have hne : bestL nlt l ∈ l := by
    rcases h1 with h1 | h1
    · exfalso
      have := h2 x hx
      rw [h1] at this
      have h4 := h0 x hx
      simp [ltM] at this
      omega
    · exact h1
  exact ltM_tri h _ _ (hs _ (hp.mem_iff.2 hne)) (h2 x hx)
end
end Go.Proofs.YtlikmdmdmljiaaaDoor
