/- Which marks are kept: plain. -/
import Derived.Lib.Hide
namespace Go.Proofs.YtlikmdmdmljiaaaDoor
set_option linter.unusedVariables false
set_option linter.unusedSimpArgs false
abbrev Mk := ByteArray × Int
/-- the firsts of their part, so many at most -/
def firstsL (f : Mk → Int) : Int → Int → List Mk → List Bool
  | _, _, [] => []
  | n, last, x :: r => if n < 1 then false :: firstsL f n last r else if f x = last then false :: firstsL f n last r else true :: firstsL f (n - 1) (f x) r
theorem firsts_len (f : Mk → Int) : ∀ (l : List Mk) (n last : Int), (firstsL f n last l).length = l.length
  | [], _, _ => rfl
  | x :: r, n, last => by
    unfold firstsL
    split
    · simp [firsts_len f r]
    · split <;> simp [firsts_len f r]
theorem firsts_none (f : Mk → Int) : ∀ (l : List Mk) (n last : Int), n < 1 → firstsL f n last l = l.map (fun _ => false)
  | [], _, _, _ => rfl
  | x :: r, n, last, h => by
    unfold firstsL
    rw [if_pos h, firsts_none f r n last h]
    rfl
theorem firsts_head (f : Mk → Int) (x : Mk) (r : List Mk) (n last : Int) (h : 1 ≤ n) (hx : f x ≠ last) : (firstsL f n last (x :: r))[0]? = some true := by
  unfold firstsL
  rw [if_neg (by omega), if_neg hx]
  rfl
theorem firsts_mono (f : Mk → Int) : ∀ (l : List Mk) (n m last : Int), n ≤ m → ∀ i : Nat, (firstsL f n last l)[i]? = some true → (firstsL f m last l)[i]? = some true
  | [], _, _, _, _, i, h => by simp [firstsL] at h
  | x :: r, n, m, last, hnm, i, h => by
    by_cases h1 : n < 1
    · rw [firsts_none f _ n last h1] at h
      simp only [List.getElem?_map] at h
      cases hq : (x :: r)[i]? with
      | none => rw [hq] at h; cases h
      | some q => rw [hq] at h; cases h
    · unfold firstsL at h ⊢
      rw [if_neg h1] at h
      rw [if_neg (by omega)]
      by_cases h2 : f x = last
      · rw [if_pos h2] at h ⊢
        cases i with
        | zero => simp at h
        | succ i => simpa using firsts_mono f r n m last hnm i (by simpa using h)
      · rw [if_neg h2] at h ⊢
        cases i with
        | zero => rfl
        | succ i => simpa using firsts_mono f r (n - 1) (m - 1) (f x) (by omega) i (by simpa using h)
/-- a rule: its bit, how many, the part -/
abbrev Rule := Nat × Int × (Mk → Int)
def orW (b : Nat) (W : List Nat) (t : List Bool) : List Nat := List.zipWith (fun w q => if q then w ||| b else w) W t
def whysR (K : List Mk) : List Nat → List Rule → List Nat
  | W, [] => W
  | W, r :: rs => whysR K (orW r.1 W (firstsL r.2.2 r.2.1 (-1) K)) rs
def lastW (n : Int) (k : Nat) : List Nat := (List.range k).map fun (i : Nat) => if (i : Int) < n then 1 else 0
theorem lastW_len (n : Int) (k : Nat) : (lastW n k).length = k := by simp [lastW]
theorem orW_len (b : Nat) (W : List Nat) (t : List Bool) (h : W.length = t.length) : (orW b W t).length = W.length := by simp [orW, h]
theorem whysR_len (K : List Mk) : ∀ (rs : List Rule) (W : List Nat), W.length = K.length → (whysR K W rs).length = K.length
  | [], W, h => h
  | r :: rs, W, h => by
    unfold whysR
    exact whysR_len K rs _ (by rw [orW_len _ _ _ (by rw [firsts_len]; exact h)]; exact h)
theorem orW_get (b : Nat) (W : List Nat) (t : List Bool) (i : Nat) (w : Nat) (q : Bool) (hw : W[i]? = some w) (hq : t[i]? = some q) : (orW b W t)[i]? = some (if q then w ||| b else w) := by
  unfold orW
  rw [List.getElem?_zipWith, hw, hq]
/-- not less: where one is not nought the other one is not -/
def NzLe (W V : List Nat) : Prop := W.length = V.length ∧ ∀ (i w v : Nat), W[i]? = some w → V[i]? = some v → w ≠ 0 → v ≠ 0
theorem or_nz {w b : Nat} (h : w ≠ 0) : w ||| b ≠ 0 := by
  intro e
  exact h (by have := Nat.or_eq_zero_iff.1 e; exact this.1)
theorem or_nz' {w b : Nat} (h : b ≠ 0) : w ||| b ≠ 0 := by
  intro e
  exact h (by have := Nat.or_eq_zero_iff.1 e; exact this.2)
theorem orW_mono (f : Mk → Int) (K : List Mk) (b : Nat) (hb : b ≠ 0) (n m : Int) (hnm : n ≤ m) {W V : List Nat} (h : NzLe W V) (hl : W.length = K.length) : NzLe (orW b W (firstsL f n (-1) K)) (orW b V (firstsL f m (-1) K)) := by
  have h1 : W.length = (firstsL f n (-1) K).length := by rw [firsts_len]; exact hl
  have h2 : V.length = (firstsL f m (-1) K).length := by rw [firsts_len, ← h.1]; exact hl
  refine ⟨by rw [orW_len _ _ _ h1, orW_len _ _ _ h2]; exact h.1, fun i w v hw hv hnz => ?_⟩
  have hi : i < W.length := by
    have := (List.getElem?_eq_some_iff.1 hw).1
    rw [orW_len _ _ _ h1] at this; exact this
  have a1 := List.getElem?_eq_getElem hi
  have a2 := List.getElem?_eq_getElem (show i < V.length by rw [← h.1]; exact hi)
  have a3 := List.getElem?_eq_getElem (show i < (firstsL f n (-1) K).length by rw [← h1]; exact hi)
  have a4 := List.getElem?_eq_getElem (show i < (firstsL f m (-1) K).length by rw [← h2, ← h.1]; exact hi)
  rw [orW_get b _ _ i _ _ a1 a3] at hw
  rw [orW_get b _ _ i _ _ a2 a4] at hv
  cases hw
  cases hv
  have hm := firsts_mono f K n m (-1) hnm i
  rw [a3, a4] at hm
  split
  · exact or_nz' hb
  · rename_i h4
    split at hnz
    · rename_i h3
      exact absurd (Option.some.inj (hm (by rw [h3]))) h4
    · exact h.2 i _ _ a1 a2 hnz
/-- greater numbers, of like rules -/
inductive RLe : List Rule → List Rule → Prop
  | nil : RLe [] []
  | cons (b : Nat) (f : Mk → Int) (n m : Int) (hb : b ≠ 0) (hnm : n ≤ m) {rs ss : List Rule} (h : RLe rs ss) : RLe ((b, n, f) :: rs) ((b, m, f) :: ss)
theorem whysR_mono (K : List Mk) {rs ss : List Rule} (h : RLe rs ss) : ∀ {W V : List Nat}, NzLe W V → W.length = K.length → NzLe (whysR K W rs) (whysR K V ss) := by
  induction h with
  | nil => intro W V h _; exact h
  | cons b f n m hb hnm h ih =>
    intro W V hw hl
    unfold whysR
    exact ih (orW_mono f K b hb n m hnm hw hl) (by rw [orW_len _ _ _ (by rw [firsts_len]; exact hl)]; exact hl)
theorem lastW_mono (n m : Int) (k : Nat) (h : n ≤ m) : NzLe (lastW n k) (lastW m k) := by
  refine ⟨by rw [lastW_len, lastW_len], fun i w v hw hv hnz => ?_⟩
  unfold lastW at hw hv
  rw [List.getElem?_map] at hw hv
  cases hq : (List.range k)[i]? with
  | none => rw [hq] at hw; cases hw
  | some q =>
    rw [hq] at hw hv
    cases hw
    cases hv
    dsimp only at hnz ⊢
    split
    · decide
    · rename_i h1
      rw [if_neg (by omega)] at hnz
      exact absurd rfl hnz
/-- a first one is kept if any number is 1 at least -/
theorem whysR_keep (K : List Mk) : ∀ (rs : List Rule) (W : List Nat) (i w : Nat), W.length = K.length → W[i]? = some w → w ≠ 0 → ∃ v, (whysR K W rs)[i]? = some v ∧ v ≠ 0
  | [], W, i, w, _, h, hn => ⟨w, h, hn⟩
  | r :: rs, W, i, w, hl, h, hn => by
    unfold whysR
    have hi : i < K.length := by rw [← hl]; exact (List.getElem?_eq_some_iff.1 h).1
    have a3 := List.getElem?_eq_getElem (show i < (firstsL r.2.2 r.2.1 (-1) K).length by rw [firsts_len]; exact hi)
    refine whysR_keep K rs _ i _ (by rw [orW_len _ _ _ (by rw [firsts_len]; exact hl)]; exact hl) (orW_get r.1 _ _ i _ _ h a3) ?_
    split
    · exact or_nz hn
    · exact hn
theorem whysR_first (x : Mk) (r : List Mk) : ∀ (rs : List Rule) (W : List Nat), W.length = (x :: r).length → (∃ q ∈ rs, 1 ≤ q.2.1 ∧ q.1 ≠ 0 ∧ q.2.2 x ≠ -1) → ∃ v, (whysR (x :: r) W rs)[0]? = some v ∧ v ≠ 0
  | [], W, _, h => by obtain ⟨q, hq, _⟩ := h; cases hq
  | q :: rs, W, hl, h => by
    unfold whysR
    have hl2 : (orW q.1 W (firstsL q.2.2 q.2.1 (-1) (x :: r))).length = (x :: r).length := by rw [orW_len _ _ _ (by rw [firsts_len]; exact hl)]; exact hl
    by_cases hq : 1 ≤ q.2.1 ∧ q.1 ≠ 0 ∧ q.2.2 x ≠ -1
    · have a1 := List.getElem?_eq_getElem (show 0 < W.length by rw [hl]; simp)
      have a2 := firsts_head q.2.2 x r q.2.1 (-1) hq.1 hq.2.2
      exact whysR_keep (x :: r) rs _ 0 _ hl2 (orW_get q.1 _ _ 0 _ _ a1 a2) (by rw [if_pos rfl]; exact or_nz' hq.2.1)
    · obtain ⟨p, hp, h1⟩ := h
      rcases List.mem_cons.1 hp with rfl | hp
      · exact absurd h1 hq
      · exact whysR_first x r rs _ hl2 ⟨p, hp, h1⟩
/-- none is kept if no number is 1 at least -/
theorem orW_none (f : Mk → Int) (K : List Mk) (b : Nat) (n : Int) (hn : n < 1) (W : List Nat) (hl : W.length = K.length) : orW b W (firstsL f n (-1) K) = W := by
  rw [firsts_none f K n (-1) hn]
  refine List.ext_getElem? fun i => ?_
  by_cases hi : i < W.length
  · have a1 := List.getElem?_eq_getElem hi
    have a2 : (K.map fun _ => false)[i]? = some false := by rw [List.getElem?_map, List.getElem?_eq_getElem (show i < K.length by omega)]; rfl
    rw [orW_get b _ _ i _ _ a1 a2, a1]
    rfl
  · rw [List.getElem?_eq_none (by rw [orW_len _ _ _ (by simp [hl])]; omega), List.getElem?_eq_none (by omega)]
theorem whysR_none (K : List Mk) : ∀ (rs : List Rule) (W : List Nat), W.length = K.length → (∀ q ∈ rs, q.2.1 < 1) → whysR K W rs = W
  | [], W, _, _ => rfl
  | r :: rs, W, hl, h => by
    unfold whysR
    rw [orW_none _ K _ _ (h r List.mem_cons_self) W hl]
    exact whysR_none K rs W hl fun q hq => h q (List.mem_cons_of_mem _ hq)
/-- the numbers stay small -/
theorem whysR_lt (K : List Mk) : ∀ (rs : List Rule) (W : List Nat), (∀ w ∈ W, w < 64) → (∀ q ∈ rs, q.1 < 64) → ∀ w ∈ whysR K W rs, w < 64
  | [], W, h, _ => h
  | r :: rs, W, h, hr => by
    unfold whysR
    refine whysR_lt K rs _ (fun w hw => ?_) fun q hq => hr q (List.mem_cons_of_mem _ hq)
    unfold orW at hw
    rw [List.mem_iff_getElem?] at hw
    obtain ⟨i, hi⟩ := hw
    rw [List.getElem?_zipWith] at hi
    cases h1 : W[i]? with
    | none => rw [h1] at hi; cases hi
    | some a =>
      cases h2 : (firstsL r.2.2 r.2.1 (-1) K)[i]? with
      | none => rw [h1, h2] at hi; cases hi
      | some q =>
        rw [h1, h2] at hi
        cases hi
        have ha := h a (List.mem_of_getElem? h1)
        split
        · exact Nat.or_lt_two_pow (n := 6) ha (hr r List.mem_cons_self)
        · exact ha
end Go.Proofs.YtlikmdmdmljiaaaDoor
