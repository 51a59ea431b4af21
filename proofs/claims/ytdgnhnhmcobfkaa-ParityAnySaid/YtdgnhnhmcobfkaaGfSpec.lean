/- Plain: the numbers of which there are 256. No program in sight. -/
namespace Go.Proofs.Ytdgnhnhmcobfkaa
set_option linter.unusedVariables false
/-- a number times 2 -/
def gTwice (a : Nat) : Nat := if 128 ≤ a then (a * 2 % 256) ^^^ 29 else a * 2
/-- the sum of a, 2a, 4a .. where b has a bit; k bits are looked at -/
def gG : Nat → Nat → Nat → Nat
  | 0, _, _ => 0
  | k + 1, a, b => (if b % 2 = 1 then a else 0) ^^^ gG k (gTwice a) (b / 2)
def gMul (a b : Nat) : Nat := gG 8 a b
def gPow (a : Nat) : Nat → Nat
  | 0 => 1
  | n + 1 => gMul (gPow a n) a

theorem xlt {a b : Nat} (ha : a < 256) (hb : b < 256) : a ^^^ b < 256 := Nat.xor_lt_two_pow (n := 8) ha hb
theorem gTwice_lt {a : Nat} (ha : a < 256) : gTwice a < 256 := by
  unfold gTwice
  split
  · exact xlt (Nat.mod_lt _ (by decide)) (by decide)
  · omega
theorem gTwice_xor : ∀ a < 256, ∀ b < 256, gTwice (a ^^^ b) = gTwice a ^^^ gTwice b := by decide +kernel
theorem gG_lt (k : Nat) : ∀ a b, a < 256 → gG k a b < 256 := by
  induction k with
  | zero => intro a b _; simp [gG]
  | succ k ih =>
    intro a b ha
    simp only [gG]
    refine xlt ?_ (ih _ _ (gTwice_lt ha))
    split <;> omega
theorem gMul_lt {a : Nat} (b : Nat) (ha : a < 256) : gMul a b < 256 := gG_lt 8 a b ha
theorem x4 (a b c d : Nat) : (a ^^^ b) ^^^ (c ^^^ d) = (a ^^^ c) ^^^ (b ^^^ d) := by
  rw [Nat.xor_assoc, Nat.xor_assoc, ← Nat.xor_assoc b, ← Nat.xor_assoc c, Nat.xor_comm b c]
theorem gG_left (k : Nat) : ∀ a a' b, a < 256 → a' < 256 → gG k (a ^^^ a') b = gG k a b ^^^ gG k a' b := by
  induction k with
  | zero => intro a a' b _ _; simp [gG]
  | succ k ih =>
    intro a a' b ha ha'
    simp only [gG]
    rw [gTwice_xor a ha a' ha', ih _ _ _ (gTwice_lt ha) (gTwice_lt ha'), x4]
    by_cases h : b % 2 = 1
    · simp only [h, if_true]
    · simp only [h, if_false, Nat.xor_self]
theorem gG_right (k : Nat) : ∀ a b b', gG k a (b ^^^ b') = gG k a b ^^^ gG k a b' := by
  induction k with
  | zero => intro a b b'; simp [gG]
  | succ k ih =>
    intro a b b'
    simp only [gG]
    have h1 : (b ^^^ b') / 2 = b / 2 ^^^ b' / 2 := Nat.xor_div_two
    have h2 : (b ^^^ b') % 2 = (b % 2 + b' % 2) % 2 := by
      have := Nat.xor_mod_two_pow (a := b) (b := b') (n := 1)
      simp only [Nat.pow_one] at this
      rw [this]
      rcases Nat.mod_two_eq_zero_or_one b with e | e <;> rcases Nat.mod_two_eq_zero_or_one b' with e' | e' <;> rw [e, e'] <;> rfl
    rw [h1, h2, ih, x4]
    rcases Nat.mod_two_eq_zero_or_one b with e | e <;> rcases Nat.mod_two_eq_zero_or_one b' with e' | e' <;> rw [e, e'] <;> simp
theorem gMul_left {a a' : Nat} (b : Nat) (h : a < 256) (h' : a' < 256) : gMul (a ^^^ a') b = gMul a b ^^^ gMul a' b := gG_left 8 a a' b h h'
theorem gMul_right (a b b' : Nat) : gMul a (b ^^^ b') = gMul a b ^^^ gMul a b' := gG_right 8 a b b'
theorem split_basis : ∀ k < 8, ∀ y < 2 ^ k, 2 ^ k + y = 2 ^ k ^^^ y := by decide +kernel
/-- what holds of 0 and the powers of 2, and of the sum of two of which it holds, holds of all -/
theorem bit_ind (P : Nat → Prop) (h0 : P 0) (hb : ∀ i < 8, P (2 ^ i)) (hx : ∀ x y, x < 256 → y < 256 → P x → P y → P (x ^^^ y)) : ∀ x < 256, P x := by
  have key : ∀ k, k ≤ 8 → ∀ x, x < 2 ^ k → P x := by
    intro k
    induction k with
    | zero => intro _ x hx2; obtain rfl : x = 0 := by simpa using hx2
              exact h0
    | succ k ih =>
      intro hk x hx2
      by_cases h : x < 2 ^ k
      · exact ih (by omega) x h
      · have hp : 2 ^ (k + 1) = 2 ^ k * 2 := Nat.pow_succ 2 k
        have hlt : x - 2 ^ k < 2 ^ k := by omega
        have h8 : 2 ^ (k + 1) ≤ 2 ^ 8 := Nat.pow_le_pow_right (by decide) hk
        have e : x = 2 ^ k ^^^ (x - 2 ^ k) := by
          rw [← split_basis k (by omega) _ hlt]; omega
        rw [e]
        exact hx _ _ (by omega) (by omega) (hb k (by omega)) (ih (by omega) _ hlt)
  intro x hx2
  exact key 8 (by omega) x hx2
theorem gMul_zero (a : Nat) : gMul a 0 = 0 := by
  simp [gMul, gG]
theorem gG_zero_left (k : Nat) : ∀ b, gG k 0 b = 0 := by
  induction k with
  | zero => intro b; rfl
  | succ k ih => intro b; simp only [gG]; rw [show gTwice 0 = 0 from rfl, ih]; split <;> rfl
theorem gMul_zero_left (b : Nat) : gMul 0 b = 0 := gG_zero_left 8 b
theorem gMul_one (a : Nat) : gMul a 1 = a := by
  have : ∀ k a, gG k a 0 = 0 := by
    intro k
    induction k with
    | zero => intro a; rfl
    | succ k ih => intro a; simp only [gG]; rw [ih]; simp
  show (if 1 % 2 = 1 then a else 0) ^^^ gG 7 (gTwice a) (1 / 2) = a
  rw [show 1 / 2 = 0 from rfl, this]
  simp
theorem gMul_comm_basis : ∀ i < 8, ∀ j < 8, gMul (2 ^ i) (2 ^ j) = gMul (2 ^ j) (2 ^ i) := by decide +kernel
theorem gMul_comm : ∀ a < 256, ∀ b < 256, gMul a b = gMul b a := by
  refine bit_ind _ ?_ ?_ ?_
  · intro b _; rw [gMul_zero, gMul_zero_left]
  · intro i hi
    refine bit_ind _ ?_ ?_ ?_
    · rw [gMul_zero, gMul_zero_left]
    · intro j hj; exact gMul_comm_basis i hi j hj
    · intro x y hx hy h1 h2; rw [gMul_right, gMul_left _ hx hy, h1, h2]
  · intro x y hx hy h1 h2 b hb; rw [gMul_right, gMul_left _ hx hy, h1 b hb, h2 b hb]
theorem gMul_assoc_basis : ∀ i < 8, ∀ j < 8, ∀ k < 8, gMul (2 ^ i) (gMul (2 ^ j) (2 ^ k)) = gMul (gMul (2 ^ i) (2 ^ j)) (2 ^ k) := by decide +kernel
theorem p8 : ∀ i < 8, 2 ^ i < 256 := by decide
theorem gMul_assoc : ∀ a < 256, ∀ b < 256, ∀ c < 256, gMul a (gMul b c) = gMul (gMul a b) c := by
  refine bit_ind _ ?_ ?_ ?_
  · intro b _ c _; rw [gMul_zero_left, gMul_zero_left, gMul_zero_left]
  · intro i hi
    refine bit_ind _ ?_ ?_ ?_
    · intro c _; rw [gMul_zero_left, gMul_zero, gMul_zero_left]
    · intro j hj
      refine bit_ind _ ?_ ?_ ?_
      · rw [gMul_zero, gMul_zero, gMul_zero]
      · intro k hk; exact gMul_assoc_basis i hi j hj k hk
      · intro x y hx hy h1 h2; rw [gMul_right, gMul_right, gMul_right, h1, h2]
    · intro x y hx hy h1 h2 c hc
      rw [gMul_left c hx hy, gMul_right, gMul_right, gMul_left c (gMul_lt _ (p8 i hi)) (gMul_lt _ (p8 i hi)), h1 c hc, h2 c hc]
  · intro x y hx hy h1 h2 b hb c hc
    rw [gMul_left _ hx hy, gMul_left _ hx hy, gMul_left c (gMul_lt _ hx) (gMul_lt _ hy), h1 b hb c hc, h2 b hb c hc]
theorem gPow_lt {a : Nat} (n : Nat) (ha : a < 256) : gPow a n < 256 := by
  induction n with
  | zero => show 1 < 256; decide
  | succ n ih => exact gMul_lt _ ih
theorem one_gMul {a : Nat} (ha : a < 256) : gMul 1 a = a := by rw [gMul_comm 1 (by decide) a ha, gMul_one]
theorem gPow_add {a : Nat} (n m : Nat) (ha : a < 256) : gPow a (n + m) = gMul (gPow a n) (gPow a m) := by
  induction m with
  | zero => rw [Nat.add_zero, gPow, gMul_one]
  | succ m ih => rw [← Nat.add_assoc, gPow, gPow, ih, gMul_assoc _ (gPow_lt n ha) _ (gPow_lt m ha) _ ha]
/-- a number twice as often: its square so often -/
theorem gPow_sq {a : Nat} (n : Nat) (ha : a < 256) : gPow (gMul a a) n = gPow a (2 * n) := by
  induction n with
  | zero => rfl
  | succ n ih =>
    rw [gPow, ih, show 2 * (n + 1) = 2 * n + 1 + 1 by omega, gPow, gPow, gMul_assoc _ (gPow_lt _ ha) _ ha _ ha]
def gSq (a : Nat) : Nat := gMul a a
theorem gPow255_eq {a : Nat} (ha : a < 256) : gPow a 255 = gMul (gMul (gMul (gMul (gMul (gMul (gMul a (gSq a)) (gSq (gSq a))) (gSq (gSq (gSq a)))) (gSq (gSq (gSq (gSq a))))) (gSq (gSq (gSq (gSq (gSq a)))))) (gSq (gSq (gSq (gSq (gSq (gSq a))))))) (gSq (gSq (gSq (gSq (gSq (gSq (gSq a))))))) := by
  have s : ∀ n, gSq (gPow a n) = gPow a (n + n) := fun n => (gPow_add n n ha).symm
  have e1 : a = gPow a 1 := by rw [gPow, gPow, one_gMul ha]
  conv => rhs; rw [e1]
  simp only [s, ← gPow_add _ _ ha]
theorem gOrder_basis : ∀ a < 256, a ≠ 0 → gMul (gMul (gMul (gMul (gMul (gMul (gMul a (gSq a)) (gSq (gSq a))) (gSq (gSq (gSq a)))) (gSq (gSq (gSq (gSq a))))) (gSq (gSq (gSq (gSq (gSq a)))))) (gSq (gSq (gSq (gSq (gSq (gSq a))))))) (gSq (gSq (gSq (gSq (gSq (gSq (gSq a))))))) = 1 := by decide +kernel
theorem gPow255 {a : Nat} (ha : a < 256) (h : a ≠ 0) : gPow a 255 = 1 := by rw [gPow255_eq ha, gOrder_basis a ha h]
theorem gPow_zero {n : Nat} (h : 0 < n) : gPow 0 n = 0 := by
  cases n with
  | zero => omega
  | succ n => rw [gPow, gMul_zero]
theorem gPow_mod {a : Nat} (n : Nat) (ha : a < 256) (h : a ≠ 0) : gPow a (n % 255) = gPow a n := by
  have h1 : ∀ k, gPow a (255 * k) = 1 := by
    intro k
    induction k with
    | zero => rfl
    | succ k ih => rw [Nat.mul_succ, gPow_add _ _ ha, ih, gPow255 ha h]; rfl
  conv => rhs; rw [← Nat.div_add_mod n 255, gPow_add _ _ ha, h1, one_gMul (gPow_lt _ ha)]
def gInv (a : Nat) : Nat := gPow a 254
theorem gInv_mul {a : Nat} (ha : a < 256) (h : a ≠ 0) : gMul a (gInv a) = 1 := by
  have := gPow_add (a := a) 254 1 ha
  unfold gInv
  rw [gMul_comm a ha _ (gPow_lt _ ha)]
  have e1 : gPow a 1 = a := by rw [gPow, gPow, one_gMul ha]
  rw [e1] at this
  rw [← this]
  exact gPow255 ha h
theorem gInv_lt {a : Nat} (ha : a < 256) : gInv a < 256 := gPow_lt _ ha
theorem gMul_cancel {x y b : Nat} (hx : x < 256) (hy : y < 256) (hb : b < 256) (h : b ≠ 0) (e : gMul x b = gMul y b) : x = y := by
  have h1 : ∀ z, z < 256 → gMul (gMul z b) (gInv b) = z := fun z hz => by
    rw [← gMul_assoc z hz b hb _ (gInv_lt hb), gInv_mul hb h, gMul_one]
  rw [← h1 x hx, e, h1 y hy]
theorem gMul_div {x b : Nat} (hx : x < 256) (hb : b < 256) (h : b ≠ 0) : gMul (gMul x b) (gInv b) = x := by
  rw [← gMul_assoc x hx b hb _ (gInv_lt hb), gInv_mul hb h, gMul_one]
theorem gDiv_mul {x b : Nat} (hx : x < 256) (hb : b < 256) (h : b ≠ 0) : gMul (gMul x (gInv b)) b = x := by
  rw [← gMul_assoc x hx _ (gInv_lt hb) b hb, gMul_comm _ (gInv_lt hb) b hb, gInv_mul hb h, gMul_one]
theorem gMul_eq_zero {a b : Nat} (ha : a < 256) (hb : b < 256) : gMul a b = 0 ↔ a = 0 ∨ b = 0 := by
  constructor
  · intro h
    by_cases hb0 : b = 0
    · exact .inr hb0
    · left
      have := gMul_div ha hb hb0
      rw [h, gMul_zero_left] at this
      exact this.symm
  · rintro (rfl | rfl)
    · exact gMul_zero_left b
    · exact gMul_zero a
end Go.Proofs.Ytdgnhnhmcobfkaa
