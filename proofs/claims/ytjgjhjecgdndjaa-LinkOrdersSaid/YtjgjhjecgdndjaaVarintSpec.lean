/- Plain: numbers as bytes, as functions on lists of bytes. No program in sight. -/
namespace Go.Proofs.Ytjgjhjecgdndjaa
/-- the number that 7 bits of each byte make -/
def vNum : List UInt8 → Nat
  | [] => 0
  | c :: s => c.toNat % 128 + 128 * vNum s
/-- what is told at byte c behind the bytes q: number, how many, error -/
def vOut (q : List UInt8) (c : UInt8) : Nat × Nat × Nat :=
  if q.length = 9 ∧ 1 < c.toNat then (0, 0, 4) else if c.toNat = 0 ∧ 0 < q.length then (0, 0, 2) else (vNum (q ++ [c]), q.length + 1, 0)
def vEnds (q : List UInt8) (c : UInt8) : Prop := (q.length = 9 ∧ 1 < c.toNat) ∨ c.toNat < 128
instance (q : List UInt8) (c : UInt8) : Decidable (vEnds q c) := inferInstanceAs (Decidable (_ ∨ _))
def vGo : List UInt8 → List UInt8 → Nat × Nat × Nat
  | _, [] => (0, 0, 1)
  | q, c :: s => if vEnds q c then vOut q c else vGo (q ++ [c]) s
def vTake (s : List UInt8) : Nat × Nat × Nat := vGo [] s
/-- the bytes that are handed out: up to the first below 128, at most n -/
def vAll : Nat → List UInt8 → List UInt8
  | 0, _ => []
  | _ + 1, [] => []
  | n + 1, c :: s => if c.toNat < 128 then [c] else c :: vAll n s
def vHigh (l : List UInt8) : Prop := ∀ c ∈ l, 128 ≤ c.toNat

theorem vHigh_snoc {l : List UInt8} {c : UInt8} (h : vHigh l) (hc : 128 ≤ c.toNat) : vHigh (l ++ [c]) := by
  intro x hx
  rcases List.mem_append.1 hx with hx | hx
  · exact h x hx
  · simp at hx; subst hx; exact hc
theorem vNum_snoc (l : List UInt8) (c : UInt8) : vNum (l ++ [c]) = vNum l + c.toNat % 128 * 2 ^ (7 * l.length) := by
  induction l with
  | nil => simp [vNum]
  | cons d l ih =>
    simp only [List.cons_append, vNum, ih, List.length_cons]
    rw [show 7 * (l.length + 1) = 7 + 7 * l.length by omega, Nat.pow_add, Nat.mul_add, Nat.mul_left_comm (c.toNat % 128)]
    omega
theorem vNum_lt (l : List UInt8) : vNum l < 2 ^ (7 * l.length) := by
  induction l with
  | nil => simp [vNum]
  | cons d l ih =>
    simp only [vNum, List.length_cons]
    rw [show 7 * (l.length + 1) = 7 + 7 * l.length by omega, Nat.pow_add]
    have : d.toNat % 128 < 128 := Nat.mod_lt _ (by decide)
    generalize 2 ^ (7 * l.length) = p at *
    omega
theorem vAll_step (n : Nat) (l : List UInt8) (c : UInt8) (hc : 128 ≤ c.toNat) (s : List UInt8) : l ++ vAll (n + 1) (c :: s) = (l ++ [c]) ++ vAll n s := by
  simp [vAll, show ¬ c.toNat < 128 by omega]
theorem vAll_len (n : Nat) : ∀ s, (vAll n s).length ≤ n := by
  induction n with
  | zero => intro s; simp [vAll]
  | succ n ih =>
    intro s
    cases s with
    | nil => simp [vAll]
    | cons c s =>
      simp only [vAll]
      split
      · simp
      · have := ih s; simp; exact this
/-- nothing ends it: too short -/
theorem vGo_short (n : Nat) : ∀ (q s : List UInt8), q.length + n = 10 → vHigh (vAll n s) → (vAll n s).length + q.length ≤ 9 → vGo q s = (0, 0, 1) := by
  induction n with
  | zero => intro q s h1 _ h3; simp [vAll] at h3; omega
  | succ n ih =>
    intro q s h1 h2 h3
    cases s with
    | nil => rfl
    | cons c s =>
      by_cases hc : c.toNat < 128
      · have := h2 c (by simp [vAll, hc]); omega
      · simp only [vAll, hc, if_false, List.length_cons] at h2 h3
        have hne : ¬ vEnds q c := by unfold vEnds; omega
        rw [vGo, if_neg hne]
        exact ih _ _ (by simp; omega) (fun x hx => h2 x (by simp [hx])) (by simp; omega)
theorem vTake_short (s : List UInt8) (h2 : vHigh (vAll 10 s)) (h3 : (vAll 10 s).length ≤ 9) : vTake s = (0, 0, 1) := vGo_short 10 [] s rfl h2 (by simpa using h3)
/-- it ends at c behind q -/
theorem vGo_ends (n : Nat) : ∀ (p q s : List UInt8) (c : UInt8), p.length + n ≤ 10 → q ++ [c] <+: vAll n s → vHigh q → (p ++ q).length ≤ 9 → vEnds (p ++ q) c → vGo p s = vOut (p ++ q) c := by
  induction n with
  | zero => intro p q s c _ h; simp [vAll] at h
  | succ n ih =>
    intro p q s c hp h hq hl he
    cases s with
    | nil => simp [vAll] at h
    | cons d s =>
      cases q with
      | nil =>
        simp only [List.nil_append, List.append_nil] at *
        have : c = d := by
          simp only [vAll] at h
          split at h <;> simpa using h
        subst this
        rw [vGo, if_pos he]
      | cons e q =>
        simp only [vAll, List.cons_append] at h
        have he0 := hq e (by simp)
        split at h
        · rename_i hd
          obtain ⟨rfl, _⟩ := List.cons_prefix_cons.1 h
          omega
        · obtain ⟨rfl, h'⟩ := List.cons_prefix_cons.1 h
          have hne : ¬ vEnds p e := by unfold vEnds; simp at hl; omega
          rw [vGo, if_neg hne, ih (p ++ [e]) q s c (by simp; omega) h' (fun x hx => hq x (by simp [hx])) (by simpa using hl) (by simpa using he)]
          simp
theorem vTake_ends (q s : List UInt8) (c : UInt8) (h : q ++ [c] <+: vAll 10 s) (hq : vHigh q) (hl : q.length ≤ 9) (he : vEnds q c) : vTake s = vOut q c := vGo_ends 10 [] q s c (by simp) h hq hl he
end Go.Proofs.Ytjgjhjecgdndjaa
