/- Plain: chapter 33: what makes one text of another, and the text that is made. -/
import Derived.Test.YtlkpgefapcfdbaaVarintPlain
import Derived.Test.YtlkpgefapcfdbaaCrcSpec
namespace Go.Proofs.Ytlkpgefapcfdbaa
set_option linter.unusedVariables false
set_option linter.unusedSimpArgs false
/-- how many bytes two texts begin with together -/
def comm : List UInt8 → List UInt8 → Nat
  | x :: a, y :: b => if x = y then comm a b + 1 else 0
  | _, _ => 0
theorem comm_le : ∀ a b : List UInt8, comm a b ≤ a.length ∧ comm a b ≤ b.length
  | [], b => by simp [comm]
  | x :: a, [] => by simp [comm]
  | x :: a, y :: b => by
    have := comm_le a b
    unfold comm
    split
    · simp; omega
    · simp
theorem comm_take : ∀ a b : List UInt8, a.take (comm a b) = b.take (comm a b)
  | [], b => by simp [comm]
  | x :: a, [] => by simp [comm]
  | x :: a, y :: b => by
    unfold comm
    split
    · rename_i h
      subst h
      rw [List.take_succ_cons, List.take_succ_cons, comm_take a b]
    · simp
theorem comm_self : ∀ a : List UInt8, comm a a = a.length
  | [] => rfl
  | x :: a => by unfold comm; rw [if_pos rfl, comm_self a]; rfl
/-- the longest beginning of s that stands in the base, at one of the first k places -/
def bestK (base s : List UInt8) : Nat → Nat × Nat
  | 0 => (0, 0)
  | k + 1 => if 8 ≤ comm (base.drop k) s ∧ (bestK base s k).1 < comm (base.drop k) s then (comm (base.drop k) s, k) else bestK base s k
def bestD (base s : List UInt8) : Nat × Nat := bestK base s base.length
theorem bestK_ok (base s : List UInt8) : ∀ k, ((bestK base s k).1 = 0 ∧ (bestK base s k).2 = 0) ∨ (8 ≤ (bestK base s k).1 ∧ (bestK base s k).2 < k ∧ comm (base.drop (bestK base s k).2) s = (bestK base s k).1)
  | 0 => .inl ⟨rfl, rfl⟩
  | k + 1 => by
    unfold bestK
    split
    · rename_i h
      exact .inr ⟨h.1, by simp, rfl⟩
    · rcases bestK_ok base s k with h | h
      · exact .inl h
      · exact .inr ⟨h.1, by omega, h.2.2⟩
theorem bestK_max (base s : List UInt8) : ∀ k i, i < k → 8 ≤ comm (base.drop i) s → comm (base.drop i) s ≤ (bestK base s k).1
  | 0, i, h, _ => absurd h (Nat.not_lt_zero _)
  | k + 1, i, h, h8 => by
    unfold bestK
    by_cases e : i = k
    · subst e
      split
      · exact Nat.le_refl _
      · rename_i hn
        exact Nat.le_of_not_lt fun hh => hn ⟨h8, hh⟩
    · have := bestK_max base s k i (by omega) h8
      split
      · dsimp only; omega
      · exact this
/-- the copy lies in the base, and is what the text begins with -/
theorem bestD_ok (base s : List UInt8) (h : (bestD base s).1 ≠ 0) : 8 ≤ (bestD base s).1 ∧ (bestD base s).1 ≤ s.length ∧ (bestD base s).2 + (bestD base s).1 ≤ base.length ∧ (base.drop (bestD base s).2).take (bestD base s).1 = s.take (bestD base s).1 := by
  rcases bestK_ok base s base.length with h0 | ⟨h1, h2, h3⟩
  · exact absurd h0.1 h
  · have hl := comm_le (base.drop (bestD base s).2) s
    have ht := comm_take (base.drop (bestD base s).2) s
    unfold bestD at *
    rw [h3] at hl ht
    rw [List.length_drop] at hl
    exact ⟨h1, hl.2, by omega, ht⟩
inductive Part where
  | lit (b : List UInt8)
  | cop (n at' : Nat)
def flushP (inn : List UInt8) : List Part := if inn = [] then [] else [.lit inn]
/-- the parts that make s behind what is to be put in -/
def mkP (base : List UInt8) : Nat → List UInt8 → List UInt8 → List Part
  | 0, _, inn => flushP inn
  | _ + 1, [], inn => flushP inn
  | f + 1, c :: s, inn => if (bestD base (c :: s)).1 = 0 then mkP base f s (inn ++ [c]) else flushP inn ++ Part.cop (bestD base (c :: s)).1 (bestD base (c :: s)).2 :: mkP base f ((c :: s).drop (bestD base (c :: s)).1) []
def textP (base : List UInt8) : Part → List UInt8
  | .lit b => b
  | .cop n k => (base.drop k).take n
def copied : Part → Nat
  | .lit _ => 0
  | .cop n _ => n
def putIn : Part → Nat
  | .lit b => b.length
  | .cop _ _ => 0
def goodP (base : List UInt8) (m : Nat) : Part → Prop
  | .lit b => 1 ≤ b.length ∧ b.length ≤ m
  | .cop n k => 1 ≤ n ∧ k + n ≤ base.length
theorem flush_text (base inn : List UInt8) : (flushP inn).flatMap (textP base) = inn := by
  unfold flushP
  split
  · rename_i h; simp [h]
  · simp [textP]
theorem mkP_text (base : List UInt8) : ∀ (f : Nat) (s inn : List UInt8), s.length ≤ f → (mkP base f s inn).flatMap (textP base) = inn ++ s
  | 0, s, inn, h => by
    obtain rfl : s = [] := List.eq_nil_of_length_eq_zero (by omega)
    unfold mkP; rw [flush_text, List.append_nil]
  | f + 1, [], inn, _ => by unfold mkP; rw [flush_text, List.append_nil]
  | f + 1, c :: s, inn, h => by
    unfold mkP
    split
    · rw [mkP_text base f s (inn ++ [c]) (by simp at h; omega)]; simp
    · rename_i h0
      obtain ⟨b1, b2, b3, b4⟩ := bestD_ok base (c :: s) h0
      rw [List.flatMap_append, flush_text, List.flatMap_cons, mkP_text base f _ [] (by rw [List.length_drop]; omega)]
      show inn ++ (((base.drop (bestD base (c :: s)).2).take (bestD base (c :: s)).1) ++ ([] ++ (c :: s).drop (bestD base (c :: s)).1)) = inn ++ c :: s
      rw [b4, List.nil_append, List.take_append_drop]
theorem mkP_good (base : List UInt8) (m : Nat) : ∀ (f : Nat) (s inn : List UInt8), s.length ≤ f → inn.length + s.length ≤ m → ∀ p ∈ mkP base f s inn, goodP base m p
  | 0, s, inn, h, hm, p, hp => by
    unfold mkP flushP at hp
    split at hp
    · simp at hp
    · rename_i hi
      simp only [List.mem_singleton] at hp
      subst hp
      have : inn.length ≠ 0 := fun e => hi (List.eq_nil_of_length_eq_zero e)
      exact ⟨by omega, by omega⟩
  | f + 1, [], inn, h, hm, p, hp => by
    unfold mkP flushP at hp
    split at hp
    · simp at hp
    · rename_i hi
      simp only [List.mem_singleton] at hp
      subst hp
      have : inn.length ≠ 0 := fun e => hi (List.eq_nil_of_length_eq_zero e)
      exact ⟨by omega, by omega⟩
  | f + 1, c :: s, inn, h, hm, p, hp => by
    unfold mkP at hp
    split at hp
    · exact mkP_good base m f s (inn ++ [c]) (by simp at h; omega) (by simp at hm ⊢; omega) p hp
    · rename_i h0
      obtain ⟨b1, b2, b3, b4⟩ := bestD_ok base (c :: s) h0
      rw [List.mem_append, List.mem_cons] at hp
      rcases hp with hp | rfl | hp
      · unfold flushP at hp
        split at hp
        · simp at hp
        · rename_i hi
          simp only [List.mem_singleton] at hp
          subst hp
          have : inn.length ≠ 0 := fun e => hi (List.eq_nil_of_length_eq_zero e)
          exact ⟨by omega, by omega⟩
      · exact ⟨by omega, b3⟩
      · refine mkP_good base m f _ [] (by rw [List.length_drop]; omega) (by rw [List.length_drop]; simp at hm ⊢; omega) p hp
theorem sum_parts (base : List UInt8) (m : Nat) : ∀ (l : List Part), (∀ p ∈ l, goodP base m p) → (l.map copied).sum + (l.map putIn).sum = (l.flatMap (textP base)).length
  | [], _ => rfl
  | p :: l, h => by
    have ih := sum_parts base m l (fun q hq => h q (by simp [hq]))
    have hp := h p (by simp)
    rw [List.map_cons, List.map_cons, List.sum_cons, List.sum_cons, List.flatMap_cons, List.length_append, ← ih]
    cases p with
    | lit b => simp [copied, putIn, textP]; omega
    | cop n k =>
      have : k + n ≤ base.length := hp.2
      simp [copied, putIn, textP]; omega
/-- at a place of the base with eight bytes or more ahead of it, all the rest is one copy -/
theorem best_tail (t : List UInt8) (i : Nat) (h : 8 ≤ (t.drop i).length) : (bestD t (t.drop i)).1 = (t.drop i).length := by
  have hi : i < t.length := by rw [List.length_drop] at h; omega
  have h1 := bestK_max t (t.drop i) t.length i hi (by rw [comm_self]; exact h)
  rw [comm_self] at h1
  have h2 : (bestD t (t.drop i)).1 ≠ 0 := by unfold bestD; omega
  have h3 := (bestD_ok t (t.drop i) h2).2.1
  unfold bestD at *
  omega
theorem mkP_tail (t : List UInt8) : ∀ (f : Nat) (i : Nat) (inn : List UInt8), (t.drop i).length ≤ f → ((mkP t f (t.drop i) inn).map putIn).sum ≤ inn.length + 7 := by
  intro f
  induction f with
  | zero =>
    intro i inn h
    unfold mkP flushP
    split <;> simp [putIn]
  | succ f ih =>
    intro i inn h
    cases hs : t.drop i with
    | nil =>
      unfold mkP flushP
      split <;> simp [putIn]
    | cons c s =>
      rw [hs] at h
      by_cases h8 : 8 ≤ (t.drop i).length
      · have hb := best_tail t i h8
        rw [hs] at hb
        unfold mkP
        rw [if_neg (by rw [hb]; simp), hb, List.drop_length]
        have : mkP t f [] [] = [] := by cases f <;> simp [mkP, flushP]
        rw [this]
        unfold flushP
        split <;> simp [putIn]
      · rw [hs] at h8
        have hall : ∀ (g : Nat) (s' inn' : List UInt8), s'.length ≤ 7 → ((mkP t g s' inn').map putIn).sum ≤ inn'.length + s'.length := by
          intro g
          induction g with
          | zero => intro s' inn' _; unfold mkP flushP; split <;> simp [putIn]
          | succ g ihg =>
            intro s' inn' h7
            cases s' with
            | nil => unfold mkP flushP; split <;> simp [putIn]
            | cons c' s'' =>
              unfold mkP
              have hz : (bestD t (c' :: s'')).1 = 0 := by
                refine Decidable.byContradiction fun hne => ?_
                have := bestD_ok t (c' :: s'') hne
                omega
              rw [if_pos hz]
              have := ihg s'' (inn' ++ [c']) (by simp at h7; omega)
              simp at this ⊢
              omega
        have := hall (f + 1) (c :: s) inn (by omega)
        omega
theorem mkP_mid (t : List UInt8) : ∀ (f : Nat) (s inn : List UInt8), (s ++ t).length ≤ f → ((mkP t f (s ++ t) inn).map putIn).sum ≤ inn.length + s.length + 7 := by
  intro f
  induction f with
  | zero => intro s inn h; unfold mkP flushP; split <;> simp [putIn] <;> omega
  | succ f ih =>
    intro s inn h
    cases s with
    | nil =>
      have := mkP_tail t (f + 1) 0 inn (by simpa using h)
      simpa using this
    | cons c s =>
      rw [List.cons_append]
      unfold mkP
      split
      · have := ih s (inn ++ [c]) (by simp at h ⊢; omega)
        simp at this ⊢
        omega
      · rename_i h0
        obtain ⟨b1, b2, b3, b4⟩ := bestD_ok t (c :: (s ++ t)) h0
        generalize (bestD t (c :: (s ++ t))).1 = z at *
        have hfl : ((flushP inn).map putIn).sum = inn.length := by
          unfold flushP
          split
          · rename_i e; simp [e]
          · simp [putIn]
        rw [List.map_append, List.sum_append, hfl, List.map_cons, List.sum_cons]
        show inn.length + (0 + _) ≤ _
        by_cases hz : z ≤ s.length + 1
        · have e : (c :: (s ++ t)).drop z = ((c :: s).drop z) ++ t := by
            rw [← List.cons_append, List.drop_append_of_le_length (by simp; omega)]
          rw [e]
          have := ih ((c :: s).drop z) [] (by rw [List.length_append, List.length_drop]; simp at h ⊢; omega)
          rw [List.length_drop] at this
          simp at this ⊢
          omega
        · have e : (c :: (s ++ t)).drop z = t.drop (z - (s.length + 1)) := by
            rw [← List.cons_append, List.drop_append, List.drop_eq_nil_of_le (by simp; omega)]
            simp
          rw [e]
          have := mkP_tail t f (z - (s.length + 1)) [] (by rw [List.length_drop]; simp at h b2 ⊢; omega)
          simp at this ⊢
          omega
end Go.Proofs.Ytlkpgefapcfdbaa
