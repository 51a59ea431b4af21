/- Texts of this claim's author, packed: GfSpec, GfMat, GfRowK, GfWalkK, GfRefK. Conditions: none. -/
import Derived.Test.YtfpofcfoeajkiaaGreatQR05
import Derived.Deep.MidRow
import Derived.Lib.ConvBytes
import Derived.Outline
import Derived.Test.YtfpofcfoeajkiaaGreatQR01
import Derived.Test.YtfpofcfoeajkiaaGreatProg
import Derived.WalkKit
import Derived.WalkSpells
import Derived.WalkLawsBesides
import Derived.Laws.DeepNot64
import Derived.Lib.Hide
import Derived.IntWalk
import Derived.LoopTactic
import Derived.Below
import Derived.Deep.QuietTactic
import Derived.BigQuiet
/- Plain: the numbers of which there are 256. No program in sight. -/
namespace Go.Proofs.YtfpofcfoeajkiaaGreat
set_option linter.unusedVariables false
/-- a number times 2 -/
def gTwice (a : Nat) : Nat := if 128 ≤ a then (a * 2 % 256) ^^^ 29 else a * 2
/-- the sum of a, 2a, 4a .. where b has a bit; k bits are looked at -/
def gG : Nat → Nat → Nat → Nat
  | 0, _, _ => 0
  | k + 1, a, b => (if b % 2 = 1 then a else 0) ^^^ gG k (gTwice a) (b / 2)
def gMul (a b : Nat) : Nat := gG 8 a b
def gPow (a : Nat) : Nat → Nat
  | 0 => 1
  | n + 1 => gMul (gPow a n) a

theorem xlt {a b : Nat} (ha : a < 256) (hb : b < 256) : a ^^^ b < 256 := Nat.xor_lt_two_pow (n := 8) ha hb
theorem gTwice_lt {a : Nat} (ha : a < 256) : gTwice a < 256 := by
  unfold gTwice
  split
  · exact xlt (Nat.mod_lt _ (by decide)) (by decide)
  · omega
theorem gTwice_xor : ∀ a < 256, ∀ b < 256, gTwice (a ^^^ b) = gTwice a ^^^ gTwice b := by decide +kernel
theorem gG_lt (k : Nat) : ∀ a b, a < 256 → gG k a b < 256 := by
  induction k with
  | zero => intro a b _; simp [gG]
  | succ k ih =>
    intro a b ha
    simp only [gG]
    refine xlt ?_ (ih _ _ (gTwice_lt ha))
    split <;> omega
theorem gMul_lt {a : Nat} (b : Nat) (ha : a < 256) : gMul a b < 256 := gG_lt 8 a b ha
theorem x4 (a b c d : Nat) : (a ^^^ b) ^^^ (c ^^^ d) = (a ^^^ c) ^^^ (b ^^^ d) := by
  rw [Nat.xor_assoc, Nat.xor_assoc, ← Nat.xor_assoc b, ← Nat.xor_assoc c, Nat.xor_comm b c]
theorem gG_left (k : Nat) : ∀ a a' b, a < 256 → a' < 256 → gG k (a ^^^ a') b = gG k a b ^^^ gG k a' b := by
  induction k with
  | zero => intro a a' b _ _; simp [gG]
  | succ k ih =>
    intro a a' b ha ha'
    simp only [gG]
    rw [gTwice_xor a ha a' ha', ih _ _ _ (gTwice_lt ha) (gTwice_lt ha'), x4]
    by_cases h : b % 2 = 1
    · simp only [h, if_true]
    · simp only [h, if_false, Nat.xor_self]
theorem gG_right (k : Nat) : ∀ a b b', gG k a (b ^^^ b') = gG k a b ^^^ gG k a b' := by
  induction k with
  | zero => intro a b b'; simp [gG]
  | succ k ih =>
    intro a b b'
    simp only [gG]
    have h1 : (b ^^^ b') / 2 = b / 2 ^^^ b' / 2 := Nat.xor_div_two
    have h2 : (b ^^^ b') % 2 = (b % 2 + b' % 2) % 2 := by
      have := Nat.xor_mod_two_pow (a := b) (b := b') (n := 1)
      simp only [Nat.pow_one] at this
      rw [this]
      rcases Nat.mod_two_eq_zero_or_one b with e | e <;> rcases Nat.mod_two_eq_zero_or_one b' with e' | e' <;> rw [e, e'] <;> rfl
    rw [h1, h2, ih, x4]
    rcases Nat.mod_two_eq_zero_or_one b with e | e <;> rcases Nat.mod_two_eq_zero_or_one b' with e' | e' <;> rw [e, e'] <;> simp
theorem gMul_left {a a' : Nat} (b : Nat) (h : a < 256) (h' : a' < 256) : gMul (a ^^^ a') b = gMul a b ^^^ gMul a' b := gG_left 8 a a' b h h'
theorem gMul_right (a b b' : Nat) : gMul a (b ^^^ b') = gMul a b ^^^ gMul a b' := gG_right 8 a b b'
theorem split_basis : ∀ k < 8, ∀ y < 2 ^ k, 2 ^ k + y = 2 ^ k ^^^ y := by decide +kernel
/-- what holds of 0 and the powers of 2, and of the sum of two of which it holds, holds of all -/
theorem bit_ind (P : Nat → Prop) (h0 : P 0) (hb : ∀ i < 8, P (2 ^ i)) (hx : ∀ x y, x < 256 → y < 256 → P x → P y → P (x ^^^ y)) : ∀ x < 256, P x := by
  have key : ∀ k, k ≤ 8 → ∀ x, x < 2 ^ k → P x := by
    intro k
    induction k with
    | zero => intro _ x hx2; obtain rfl : x = 0 := by simpa using hx2
              exact h0
    | succ k ih =>
      intro hk x hx2
      by_cases h : x < 2 ^ k
      · exact ih (by omega) x h
      · have hp : 2 ^ (k + 1) = 2 ^ k * 2 := Nat.pow_succ 2 k
        have hlt : x - 2 ^ k < 2 ^ k := by omega
        have h8 : 2 ^ (k + 1) ≤ 2 ^ 8 := Nat.pow_le_pow_right (by decide) hk
        have e : x = 2 ^ k ^^^ (x - 2 ^ k) := by
          rw [← split_basis k (by omega) _ hlt]; omega
        rw [e]
        exact hx _ _ (by omega) (by omega) (hb k (by omega)) (ih (by omega) _ hlt)
  intro x hx2
  exact key 8 (by omega) x hx2
theorem gMul_zero (a : Nat) : gMul a 0 = 0 := by
  simp [gMul, gG]
theorem gG_zero_left (k : Nat) : ∀ b, gG k 0 b = 0 := by
  induction k with
  | zero => intro b; rfl
  | succ k ih => intro b; simp only [gG]; rw [show gTwice 0 = 0 from rfl, ih]; split <;> rfl
theorem gMul_zero_left (b : Nat) : gMul 0 b = 0 := gG_zero_left 8 b
theorem gMul_one (a : Nat) : gMul a 1 = a := by
  have : ∀ k a, gG k a 0 = 0 := by
    intro k
    induction k with
    | zero => intro a; rfl
    | succ k ih => intro a; simp only [gG]; rw [ih]; simp
  show (if 1 % 2 = 1 then a else 0) ^^^ gG 7 (gTwice a) (1 / 2) = a
  rw [show 1 / 2 = 0 from rfl, this]
  simp
theorem gMul_comm_basis : ∀ i < 8, ∀ j < 8, gMul (2 ^ i) (2 ^ j) = gMul (2 ^ j) (2 ^ i) := by decide +kernel
theorem gMul_comm : ∀ a < 256, ∀ b < 256, gMul a b = gMul b a := by
  refine bit_ind _ ?_ ?_ ?_
  · intro b _; rw [gMul_zero, gMul_zero_left]
  · intro i hi
    refine bit_ind _ ?_ ?_ ?_
    · rw [gMul_zero, gMul_zero_left]
    · intro j hj; exact gMul_comm_basis i hi j hj
    · intro x y hx hy h1 h2; rw [gMul_right, gMul_left _ hx hy, h1, h2]
  · intro x y hx hy h1 h2 b hb; rw [gMul_right, gMul_left _ hx hy, h1 b hb, h2 b hb]
theorem gMul_assoc_basis : ∀ i < 8, ∀ j < 8, ∀ k < 8, gMul (2 ^ i) (gMul (2 ^ j) (2 ^ k)) = gMul (gMul (2 ^ i) (2 ^ j)) (2 ^ k) := by decide +kernel
theorem p8 : ∀ i < 8, 2 ^ i < 256 := by decide
theorem gMul_assoc : ∀ a < 256, ∀ b < 256, ∀ c < 256, gMul a (gMul b c) = gMul (gMul a b) c := by
  refine bit_ind _ ?_ ?_ ?_
  · intro b _ c _; rw [gMul_zero_left, gMul_zero_left, gMul_zero_left]
  · intro i hi
    refine bit_ind _ ?_ ?_ ?_
    · intro c _; rw [gMul_zero_left, gMul_zero, gMul_zero_left]
    · intro j hj
      refine bit_ind _ ?_ ?_ ?_
      · rw [gMul_zero, gMul_zero, gMul_zero]
      · intro k hk; exact gMul_assoc_basis i hi j hj k hk
      · intro x y hx hy h1 h2; rw [gMul_right, gMul_right, gMul_right, h1, h2]
    · intro x y hx hy h1 h2 c hc
      rw [gMul_left c hx hy, gMul_right, gMul_right, gMul_left c (gMul_lt _ (p8 i hi)) (gMul_lt _ (p8 i hi)), h1 c hc, h2 c hc]
  · intro x y hx hy h1 h2 b hb c hc
    rw [gMul_left _ hx hy, gMul_left _ hx hy, gMul_left c (gMul_lt _ hx) (gMul_lt _ hy), h1 b hb c hc, h2 b hb c hc]
theorem gPow_lt {a : Nat} (n : Nat) (ha : a < 256) : gPow a n < 256 := by
  induction n with
  | zero => show 1 < 256; decide
  | succ n ih => exact gMul_lt _ ih
theorem one_gMul {a : Nat} (ha : a < 256) : gMul 1 a = a := by rw [gMul_comm 1 (by decide) a ha, gMul_one]
theorem gPow_add {a : Nat} (n m : Nat) (ha : a < 256) : gPow a (n + m) = gMul (gPow a n) (gPow a m) := by
  induction m with
  | zero => rw [Nat.add_zero, gPow, gMul_one]
  | succ m ih => rw [← Nat.add_assoc, gPow, gPow, ih, gMul_assoc _ (gPow_lt n ha) _ (gPow_lt m ha) _ ha]
/-- a number twice as often: its square so often -/
theorem gPow_sq {a : Nat} (n : Nat) (ha : a < 256) : gPow (gMul a a) n = gPow a (2 * n) := by
  induction n with
  | zero => rfl
  | succ n ih =>
    rw [gPow, ih, show 2 * (n + 1) = 2 * n + 1 + 1 by omega, gPow, gPow, gMul_assoc _ (gPow_lt _ ha) _ ha _ ha]
def gSq (a : Nat) : Nat := gMul a a
theorem gPow255_eq {a : Nat} (ha : a < 256) : gPow a 255 = gMul (gMul (gMul (gMul (gMul (gMul (gMul a (gSq a)) (gSq (gSq a))) (gSq (gSq (gSq a)))) (gSq (gSq (gSq (gSq a))))) (gSq (gSq (gSq (gSq (gSq a)))))) (gSq (gSq (gSq (gSq (gSq (gSq a))))))) (gSq (gSq (gSq (gSq (gSq (gSq (gSq a))))))) := by
  have s : ∀ n, gSq (gPow a n) = gPow a (n + n) := fun n => (gPow_add n n ha).symm
  have e1 : a = gPow a 1 := by rw [gPow, gPow, one_gMul ha]
  conv => rhs; rw [e1]
  simp only [s, ← gPow_add _ _ ha]
theorem gOrder_basis : ∀ a < 256, a ≠ 0 → gMul (gMul (gMul (gMul (gMul (gMul (gMul a (gSq a)) (gSq (gSq a))) (gSq (gSq (gSq a)))) (gSq (gSq (gSq (gSq a))))) (gSq (gSq (gSq (gSq (gSq a)))))) (gSq (gSq (gSq (gSq (gSq (gSq a))))))) (gSq (gSq (gSq (gSq (gSq (gSq (gSq a))))))) = 1 := by decide +kernel
theorem gPow255 {a : Nat} (ha : a < 256) (h : a ≠ 0) : gPow a 255 = 1 := by rw [gPow255_eq ha, gOrder_basis a ha h]
theorem gPow_zero {n : Nat} (h : 0 < n) : gPow 0 n = 0 := by
  cases n with
  | zero => omega
  | succ n => rw [gPow, gMul_zero]
theorem gPow_mod {a : Nat} (n : Nat) (ha : a < 256) (h : a ≠ 0) : gPow a (n % 255) = gPow a n := by
  have h1 : ∀ k, gPow a (255 * k) = 1 := by
    intro k
    induction k with
    | zero => rfl
    | succ k ih => rw [Nat.mul_succ, gPow_add _ _ ha, ih, gPow255 ha h]; rfl
  conv => rhs; rw [← Nat.div_add_mod n 255, gPow_add _ _ ha, h1, one_gMul (gPow_lt _ ha)]
def gInv (a : Nat) : Nat := gPow a 254
theorem gInv_mul {a : Nat} (ha : a < 256) (h : a ≠ 0) : gMul a (gInv a) = 1 := by
  have := gPow_add (a := a) 254 1 ha
  unfold gInv
  rw [gMul_comm a ha _ (gPow_lt _ ha)]
  have e1 : gPow a 1 = a := by rw [gPow, gPow, one_gMul ha]
  rw [e1] at this
  rw [← this]
  exact gPow255 ha h
theorem gInv_lt {a : Nat} (ha : a < 256) : gInv a < 256 := gPow_lt _ ha
theorem gMul_cancel {x y b : Nat} (hx : x < 256) (hy : y < 256) (hb : b < 256) (h : b ≠ 0) (e : gMul x b = gMul y b) : x = y := by
  have h1 : ∀ z, z < 256 → gMul (gMul z b) (gInv b) = z := fun z hz => by
    rw [← gMul_assoc z hz b hb _ (gInv_lt hb), gInv_mul hb h, gMul_one]
  rw [← h1 x hx, e, h1 y hy]
theorem gMul_div {x b : Nat} (hx : x < 256) (hb : b < 256) (h : b ≠ 0) : gMul (gMul x b) (gInv b) = x := by
  rw [← gMul_assoc x hx b hb _ (gInv_lt hb), gInv_mul hb h, gMul_one]
theorem gDiv_mul {x b : Nat} (hx : x < 256) (hb : b < 256) (h : b ≠ 0) : gMul (gMul x (gInv b)) b = x := by
  rw [← gMul_assoc x hx _ (gInv_lt hb) b hb, gMul_comm _ (gInv_lt hb) b hb, gInv_mul hb h, gMul_one]
theorem gMul_eq_zero {a b : Nat} (ha : a < 256) (hb : b < 256) : gMul a b = 0 ↔ a = 0 ∨ b = 0 := by
  constructor
  · intro h
    by_cases hb0 : b = 0
    · exact .inr hb0
    · left
      have := gMul_div ha hb hb0
      rw [h, gMul_zero_left] at this
      exact this.symm
  · rintro (rfl | rfl)
    · exact gMul_zero_left b
    · exact gMul_zero a
end Go.Proofs.YtfpofcfoeajkiaaGreat
/- Matrices over the field of 256 numbers: elimination, and what it gives. Plain; no conditions. -/
namespace Go.Proofs.YtfpofcfoeajkiaaGreat
def um (a b : UInt8) : UInt8 := UInt8.ofNat (gMul a.toNat b.toNat)
theorem um_nat (a b : UInt8) : (um a b).toNat = gMul a.toNat b.toNat := by
  unfold um; rw [UInt8.toNat_ofNat']; exact Nat.mod_eq_of_lt (gMul_lt _ a.toNat_lt)
theorem um_comm (a b : UInt8) : um a b = um b a := by unfold um; rw [gMul_comm _ a.toNat_lt _ b.toNat_lt]
theorem um_assoc (a b c : UInt8) : um a (um b c) = um (um a b) c := UInt8.toNat_inj.1 (by
  rw [um_nat, um_nat, um_nat, um_nat, gMul_assoc _ a.toNat_lt _ b.toNat_lt _ c.toNat_lt])
theorem um_add (a b c : UInt8) : um a (b ^^^ c) = um a b ^^^ um a c := UInt8.toNat_inj.1 (by
  rw [um_nat, UInt8.toNat_xor, UInt8.toNat_xor, um_nat, um_nat, gMul_right])
theorem add_um (a b c : UInt8) : um (b ^^^ c) a = um b a ^^^ um c a := by rw [um_comm, um_add, um_comm a b, um_comm a c]
theorem um_one (a : UInt8) : um a 1 = a := UInt8.toNat_inj.1 (by rw [um_nat]; exact gMul_one _)
theorem one_um (a : UInt8) : um 1 a = a := by rw [um_comm, um_one]
theorem um_zero (a : UInt8) : um a 0 = 0 := UInt8.toNat_inj.1 (by rw [um_nat]; exact gMul_zero _)
theorem zero_um (a : UInt8) : um 0 a = 0 := by rw [um_comm, um_zero]
def ui (a : UInt8) : UInt8 := UInt8.ofNat (gInv a.toNat)
theorem ui_nat (a : UInt8) : (ui a).toNat = gInv a.toNat := by
  unfold ui; rw [UInt8.toNat_ofNat']; exact Nat.mod_eq_of_lt (gInv_lt a.toNat_lt)
theorem um_ui (a : UInt8) (h : a ≠ 0) : um a (ui a) = 1 := UInt8.toNat_inj.1 (by
  rw [um_nat, ui_nat]; exact gInv_mul a.toNat_lt (fun e => h (UInt8.toNat_inj.1 e)))
theorem um_cancel {a f : UInt8} (hf : f ≠ 0) (h : um a f = 0) : a = 0 := by
  have := congrArg (fun x => um x (ui f)) h
  simp only [← um_assoc, um_ui f hf, um_one, zero_um] at this
  exact this
theorem xx (a : UInt8) : a ^^^ a = 0 := UInt8.xor_self
theorem xor_eq_zero {a b : UInt8} (h : a ^^^ b = 0) : a = b := by
  have := congrArg (· ^^^ b) h
  simp only [UInt8.xor_assoc, xx, UInt8.xor_zero, UInt8.zero_xor] at this
  exact this
theorem x22 (a b c d : UInt8) : (a ^^^ b) ^^^ (c ^^^ d) = (a ^^^ c) ^^^ (b ^^^ d) := by
  rw [UInt8.xor_assoc, UInt8.xor_assoc, ← UInt8.xor_assoc b c d, UInt8.xor_comm b c, UInt8.xor_assoc c b d]
/-- sums -/
def sg : Nat → (Nat → UInt8) → UInt8
  | 0, _ => 0
  | n + 1, f => sg n f ^^^ f n
theorem sg_congr {n : Nat} {f g : Nat → UInt8} (h : ∀ k, k < n → f k = g k) : sg n f = sg n g := by
  induction n with
  | zero => rfl
  | succ n ih => simp only [sg]; rw [ih fun k hk => h k (by omega), h n (by omega)]
theorem sg_zero (n : Nat) : sg n (fun _ => 0) = 0 := by
  induction n with
  | zero => rfl
  | succ n ih => simp only [sg]; rw [ih]; rfl
theorem sg_add (n : Nat) (f g : Nat → UInt8) : sg n (fun k => f k ^^^ g k) = sg n f ^^^ sg n g := by
  induction n with
  | zero => exact (xx 0).symm
  | succ n ih => simp only [sg]; rw [ih, x22]
theorem um_sg (n : Nat) (a : UInt8) (f : Nat → UInt8) : um a (sg n f) = sg n (fun k => um a (f k)) := by
  induction n with
  | zero => exact um_zero a
  | succ n ih => simp only [sg]; rw [um_add, ih]
theorem sg_um (n : Nat) (a : UInt8) (f : Nat → UInt8) : um (sg n f) a = sg n (fun k => um (f k) a) := by
  rw [um_comm, um_sg]; exact sg_congr fun k _ => um_comm _ _
theorem sg_swap (n m : Nat) (f : Nat → Nat → UInt8) : sg n (fun i => sg m (fun j => f i j)) = sg m (fun j => sg n (fun i => f i j)) := by
  induction n with
  | zero => exact (sg_zero m).symm
  | succ n ih => simp only [sg]; rw [ih, ← sg_add]
def dI (i j : Nat) : UInt8 := if i = j then 1 else 0
theorem sg_one {n i : Nat} (f : Nat → UInt8) (hi : i < n) (h : ∀ k, k < n → k ≠ i → f k = 0) : sg n f = f i := by
  induction n with
  | zero => omega
  | succ n ih =>
    simp only [sg]
    by_cases e : i = n
    · subst e
      rw [sg_congr (g := fun _ => 0) (fun k hk => h k (by omega) (by omega)), sg_zero, UInt8.zero_xor]
    · rw [ih (by omega) fun k hk hne => h k (by omega) hne, h n (by omega) (fun e2 => e e2.symm), UInt8.xor_zero]
theorem sg_dI {n i : Nat} (f : Nat → UInt8) (hi : i < n) : sg n (fun k => um (dI i k) (f k)) = f i := by
  rw [sg_one (i := i) _ hi (fun k _ hne => by unfold dI; rw [if_neg (fun e => hne e.symm), zero_um])]
  unfold dI; rw [if_pos rfl, one_um]
theorem sg_dI' {n j : Nat} (f : Nat → UInt8) (hj : j < n) : sg n (fun k => um (f k) (dI k j)) = f j := by
  rw [sg_one (i := j) _ hj (fun k _ hne => by unfold dI; rw [if_neg hne, um_zero])]
  unfold dI; rw [if_pos rfl, um_one]
/-- elimination: rows as functions, the matrix of 1 and 0 behind -/
abbrev Rw := Nat → Nat → UInt8
def sw (R : Rw) (c p : Nat) : Rw := fun i => if i = c then R p else if i = p then R c else R i
def sc (R : Rw) (c : Nat) (f : UInt8) : Rw := fun i k => if i = c then um (R c k) f else R i k
def wp (R : Rw) (c : Nat) : Rw := fun i k => if i = c then R c k else R i k ^^^ um (R i c) (R c k)
/-- the first row from c on, of n, with something in column c -/
def pvt (R : Rw) (c : Nat) : Nat → Option Nat
  | 0 => none
  | n + 1 => match pvt R c n with
    | some p => some p
    | none => if c ≤ n ∧ R n c ≠ 0 then some n else none
theorem pvt_none {R : Rw} {c : Nat} : ∀ {n : Nat}, pvt R c n = none → ∀ i, c ≤ i → i < n → R i c = 0
  | 0, _, i, _, h2 => by omega
  | n + 1, h, i, h1, h2 => by
    unfold pvt at h
    cases hp : pvt R c n with
    | some q => rw [hp] at h; cases h
    | none =>
      rw [hp] at h
      simp only at h
      split at h
      · cases h
      · next hc =>
        by_cases e : i = n
        · subst e
          exact Decidable.byContradiction fun hz => hc ⟨h1, hz⟩
        · exact pvt_none hp i h1 (by omega)
theorem pvt_some {R : Rw} {c : Nat} : ∀ {n p : Nat}, pvt R c n = some p → c ≤ p ∧ p < n ∧ R p c ≠ 0 ∧ ∀ i, c ≤ i → i < p → R i c = 0
  | 0, p, h => by cases h
  | n + 1, p, h => by
    unfold pvt at h
    cases hp : pvt R c n with
    | some q => rw [hp] at h; injection h with e; subst e; obtain ⟨a, b, d, e⟩ := pvt_some hp; exact ⟨a, by omega, d, e⟩
    | none =>
      rw [hp] at h
      simp only at h
      split at h
      · next hc =>
        injection h with e; subst e
        refine ⟨hc.1, by omega, hc.2, ?_⟩
        exact fun i h1 h2 => (pvt_none hp) i h1 h2
      · cases h
theorem pvt_of {R : Rw} {c n p : Nat} (h1 : c ≤ p) (h2 : p < n) (h3 : R p c ≠ 0) (h4 : ∀ i, c ≤ i → i < p → R i c = 0) : pvt R c n = some p := by
  cases h : pvt R c n with
  | none => exact absurd (pvt_none h p h1 h2) h3
  | some q =>
    obtain ⟨a, b, d, e⟩ := pvt_some h
    rcases Nat.lt_trichotomy p q with hh | hh | hh
    · exact absurd (e p h1 hh) h3
    · rw [hh]
    · exact absurd (h4 q a hh) d
theorem pvt_no {R : Rw} {c n : Nat} (h : ∀ i, c ≤ i → i < n → R i c = 0) : pvt R c n = none := by
  cases hp : pvt R c n with
  | none => rfl
  | some q => obtain ⟨a, b, d, _⟩ := pvt_some hp; exact absurd (h q a b) d
def stp (R : Rw) (c p : Nat) : Rw := wp (sc (sw R c p) c (ui (sw R c p c c))) c
def el (n : Nat) (R : Rw) : Nat → Option Rw
  | 0 => some R
  | c + 1 => match el n R c with
    | none => none
    | some R' => match pvt R' c n with
      | none => none
      | some p => some (stp R' c p)
/-- rows that a property of rows, linear, holds for -/
theorem stp_rows {n c p : Nat} {R : Rw} (P : (Nat → UInt8) → Prop) (hs : ∀ r f, P r → P (fun k => um (r k) f)) (ha : ∀ r q f, P r → P q → P (fun k => r k ^^^ um f (q k)))
    (hc : c < n) (hp : p < n) (h : ∀ i, i < n → P (R i)) : ∀ i, i < n → P (stp R c p i) := by
  have h1 : ∀ i, i < n → P (sw R c p i) := by
    intro i hi
    unfold sw
    split
    · exact h p hp
    · split
      · exact h c hc
      · exact h i hi
  generalize hF : ui (sw R c p c c) = F
  have h2 : ∀ i, i < n → P (sc (sw R c p) c F i) := by
    intro i hi
    unfold sc
    by_cases e : i = c
    · simp only [if_pos e]; exact hs _ _ (h1 c hc)
    · simp only [if_neg e]; exact h1 i hi
  intro i hi
  unfold stp
  rw [hF]
  generalize sc (sw R c p) c F = R2 at *
  unfold wp
  by_cases e : i = c
  · simp only [if_pos e]; exact h2 c hc
  · simp only [if_neg e]; exact ha _ _ _ (h2 i hi) (h2 c hc)
/-- what stays while columns are done -/
structure Inv (n : Nat) (m : Rw) (R : Rw) (c : Nat) : Prop where
  rel : ∀ i, i < n → ∀ j, j < n → R i j = sg n (fun k => um (R i (n + k)) (m k j))
  cols : ∀ j, j < c → ∀ i, i < n → R i j = dI i j
  ker : ∀ v : Nat → UInt8, (∀ i, i < n → sg n (fun k => um (R i (n + k)) (v k)) = 0) → ∀ k, k < n → v k = 0
def beg (n : Nat) (m : Rw) : Rw := fun i k => if k < n then m i k else dI i (k - n)
theorem Inv.begin (n : Nat) (m : Rw) : Inv n m (beg n m) 0 := by
  have h1 : ∀ i k, beg n m i (n + k) = dI i k := by
    intro i k; unfold beg; rw [if_neg (by omega)]; congr 1; omega
  refine ⟨fun i hi j hj => ?_, fun j hj => by omega, fun v h k hk => ?_⟩
  · simp only [h1]
    rw [sg_dI _ hi]; unfold beg; rw [if_pos hj]
  · have := h k hk
    simp only [h1] at this
    rwa [sg_dI _ hk] at this
theorem Inv.step {n : Nat} {m R : Rw} {c p : Nat} (h : Inv n m R c) (hc : c < n) (h1 : c ≤ p) (h2 : p < n) (h3 : R p c ≠ 0) : Inv n m (stp R c p) (c + 1) := by
  have hrel := stp_rows (n := n) (c := c) (p := p) (R := R) (fun r => ∀ j, j < n → r j = sg n (fun k => um (r (n + k)) (m k j)))
    (fun r f hr j hj => by
      simp only
      rw [hr j hj, sg_um]
      refine sg_congr fun k _ => ?_
      rw [← um_assoc, um_comm (m k j) f, um_assoc])
    (fun r q f hr hq j hj => by
      simp only
      rw [hr j hj, hq j hj, um_sg, ← sg_add]
      refine sg_congr fun k _ => ?_
      rw [add_um, um_assoc])
    hc h2 h.rel
  -- the rows before
  have hswc : sw R c p c = R p := by unfold sw; rw [if_pos rfl]
  have hpc : sw R c p c c ≠ 0 := by rw [hswc]; exact h3
  have hcolsw : ∀ j, j < c → ∀ i, i < n → sw R c p i j = dI i j := by
    intro j hj i hi
    unfold sw
    split
    · next e => subst e; rw [h.cols j hj p h2]; unfold dI; rw [if_neg (by omega), if_neg (by omega)]
    · split
      · next e => subst e; rw [h.cols j hj c hc]; unfold dI; rw [if_neg (by omega), if_neg (by omega)]
      · exact h.cols j hj i hi
  refine ⟨hrel, fun j hj i hi => ?_, fun v hv => ?_⟩
  · -- columns
    unfold stp
    generalize hF : ui (sw R c p c c) = F
    have hone : um (sw R c p c c) F = 1 := by rw [← hF]; exact um_ui _ hpc
    generalize sw R c p = S at *
    have hSc : sc S c F c = fun k => um (S c k) F := by funext k; simp [sc]
    by_cases e : i = c
    · subst e
      unfold wp
      rw [if_pos rfl, hSc]
      simp only
      by_cases ej : j = i
      · subst ej; rw [hone]; unfold dI; rw [if_pos rfl]
      · rw [hcolsw j (by omega) i hi]; unfold dI; rw [if_neg (by omega), zero_um]
    · have hSi : sc S c F i = S i := by funext k; simp [sc, e]
      unfold wp
      rw [if_neg e, hSi, hSc]
      simp only
      by_cases ej : j = c
      · subst ej; rw [hone, um_one, xx]; unfold dI; rw [if_neg e]
      · rw [hcolsw j (by omega) c hc, hcolsw j (by omega) i hi]
        unfold dI
        rw [if_neg (show ¬ c = j by omega), zero_um, um_zero, UInt8.xor_zero]
  · -- the kernel
    apply h.ker
    let Q : (Nat → UInt8) → UInt8 := fun r => sg n (fun k => um (r (n + k)) (v k))
    have Qs : ∀ r f, Q (fun k => um (r k) f) = um (Q r) f := by
      intro r f
      show sg n _ = um (sg n _) f
      rw [sg_um]
      refine sg_congr fun k _ => ?_
      rw [← um_assoc, um_comm f, um_assoc]
    have Qa : ∀ (r q : Nat → UInt8) f, Q (fun k => r k ^^^ um f (q k)) = Q r ^^^ um f (Q q) := by
      intro r q f
      show sg n _ = sg n _ ^^^ um f (sg n _)
      rw [um_sg, ← sg_add]
      refine sg_congr fun k _ => ?_
      rw [add_um, um_assoc]
    have hv' : ∀ i, i < n → Q (stp R c p i) = 0 := hv
    have hcc : Q (sw R c p c) = 0 := by
      have := hv' c hc
      have e1 : stp R c p c = fun k => um (sw R c p c k) (ui (sw R c p c c)) := by
        funext k; simp [stp, wp, sc]
      rw [e1, Qs] at this
      refine um_cancel ?_ this
      intro hz
      have := um_ui _ hpc
      rw [hz, um_zero] at this
      exact absurd this (by decide)
    have hall : ∀ i, i < n → Q (sw R c p i) = 0 := by
      intro i hi
      by_cases e : i = c
      · subst e; exact hcc
      · have := hv' i hi
        have e1 : stp R c p i = fun k => sw R c p i k ^^^ um (sw R c p i c) ((fun k => um (sw R c p c k) (ui (sw R c p c c))) k) := by
          funext k; simp [stp, wp, sc, e]
        rw [e1] at this
        have e3 := (Qa (sw R c p i) (fun k => um (sw R c p c k) (ui (sw R c p c c))) (sw R c p i c)).symm.trans this
        rw [Qs, hcc, zero_um, um_zero, UInt8.xor_zero] at e3
        exact e3
    intro i hi
    show Q (R i) = 0
    by_cases e : i = p
    · subst e; have := hall c hc; rwa [hswc] at this
    · by_cases e2 : i = c
      · subst e2
        have := hall p h2
        unfold sw at this
        rwa [if_neg (fun e3 => e e3.symm), if_pos rfl] at this
      · have := hall i hi
        unfold sw at this
        rwa [if_neg e2, if_neg e] at this
theorem el_inv {n : Nat} {m : Rw} : ∀ {c : Nat} {R : Rw}, c ≤ n → el n (beg n m) c = some R → Inv n m R c
  | 0, R, _, h => by injection h with e; subst e; exact Inv.begin n m
  | c + 1, R, hc, h => by
    unfold el at h
    cases h1 : el n (beg n m) c with
    | none => rw [h1] at h; cases h
    | some R' =>
      rw [h1] at h
      simp only at h
      cases h2 : pvt R' c n with
      | none => rw [h2] at h; cases h
      | some p =>
        rw [h2] at h
        injection h with e; subst e
        obtain ⟨a, b, d, _⟩ := pvt_some h2
        exact (el_inv (by omega) h1).step (by omega) a b d
/-- of a matrix without a kernel elimination comes to its end -/
theorem el_some {n : Nat} {m : Rw} (hm : ∀ v : Nat → UInt8, (∀ i, i < n → sg n (fun k => um (m i k) (v k)) = 0) → ∀ k, k < n → v k = 0) : ∀ c, c ≤ n → ∃ R, el n (beg n m) c = some R
  | 0, _ => ⟨_, rfl⟩
  | c + 1, hc => by
    obtain ⟨R, hR⟩ := el_some hm c (by omega)
    have I := el_inv (by omega) hR
    unfold el
    rw [hR]
    simp only
    cases hp : pvt R c n with
    | some p => exact ⟨_, rfl⟩
    | none =>
      exfalso
      have hz := pvt_none hp
      -- the vector of the kernel
      let v : Nat → UInt8 := fun k => if k < c then R k c else if k = c then 1 else 0
      have hRv : ∀ i, i < n → sg n (fun j => um (R i j) (v j)) = 0 := by
        intro i hi
        have e1 : sg n (fun j => um (R i j) (v j)) = sg n (fun j => if j < c then um (dI i j) (R j c) else 0) ^^^ sg n (fun j => if j = c then R i c else 0) := by
          rw [← sg_add]
          refine sg_congr fun j hj => ?_
          simp only [v]
          by_cases h1 : j < c
          · rw [if_pos h1, if_pos h1, if_neg (by omega), I.cols j h1 i hi, UInt8.xor_zero]
          · rw [if_neg h1, if_neg h1]
            by_cases h2 : j = c
            · subst h2; rw [if_pos rfl, if_pos rfl, um_one, UInt8.zero_xor]
            · rw [if_neg h2, if_neg h2, um_zero]; rfl
        rw [e1, sg_one (n := n) (i := c) (fun j => if j = c then R i c else 0) (by omega) (fun k _ hne => if_neg hne), if_pos rfl]
        by_cases hic : i < c
        · rw [sg_one (n := n) (i := i) _ hi (fun k _ hne => by
            split
            · unfold dI; rw [if_neg (fun e => hne e.symm), zero_um]
            · rfl), if_pos hic]
          unfold dI; rw [if_pos rfl, one_um, xx]
        · rw [hz i (by omega) hi, UInt8.xor_zero]
          rw [sg_congr (g := fun _ => 0) (fun k hk => by
            split
            · unfold dI; rw [if_neg (by omega), zero_um]
            · rfl), sg_zero]
      have hmv : ∀ k, k < n → sg n (fun j => um (m k j) (v j)) = 0 := by
        apply I.ker
        intro i hi
        rw [← hRv i hi]
        have : ∀ j, j < n → um (R i j) (v j) = sg n (fun k => um (um (R i (n + k)) (m k j)) (v j)) := fun j hj => by rw [I.rel i hi j hj, sg_um]
        rw [sg_congr this, sg_swap]
        refine sg_congr fun k _ => ?_
        rw [um_sg]
        exact sg_congr fun j _ => by rw [um_assoc]
      have := hm v hmv c (by omega)
      simp only [v] at this
      rw [if_neg (by omega), if_pos trivial] at this
      exact absurd this (by decide)
/-- the matrix that undoes m -/
def inv (n : Nat) (m : Rw) : Option Rw := (el n (beg n m) n).map fun R => fun i k => R i (n + k)
theorem inv_mul {n : Nat} {m N : Rw} (h : inv n m = some N) : ∀ i, i < n → ∀ j, j < n → sg n (fun k => um (N i k) (m k j)) = dI i j := by
  unfold inv at h
  cases h1 : el n (beg n m) n with
  | none => rw [h1] at h; cases h
  | some R =>
    rw [h1] at h; injection h with e; subst e
    have I := el_inv (Nat.le_refl _) h1
    exact fun i hi j hj => by rw [← I.rel i hi j hj, I.cols j hj i hi]
theorem inv_ker {n : Nat} {m N : Rw} (h : inv n m = some N) : ∀ v : Nat → UInt8, (∀ i, i < n → sg n (fun k => um (N i k) (v k)) = 0) → ∀ k, k < n → v k = 0 := by
  unfold inv at h
  cases h1 : el n (beg n m) n with
  | none => rw [h1] at h; cases h
  | some R =>
    rw [h1] at h; injection h with e; subst e
    exact (el_inv (Nat.le_refl _) h1).ker
/-- times a column: back -/
theorem inv_back {n : Nat} {m N : Rw} (h : inv n m = some N) (x : Nat → UInt8) (i : Nat) (hi : i < n) :
    sg n (fun k => um (N i k) (sg n (fun j => um (m k j) (x j)))) = x i := by
  have e1 : ∀ k, k < n → um (N i k) (sg n (fun j => um (m k j) (x j))) = sg n (fun j => um (um (N i k) (m k j)) (x j)) := fun k _ => by
    rw [um_sg]; exact sg_congr fun j _ => by rw [um_assoc]
  rw [sg_congr e1, sg_swap]
  have e2 : ∀ j, j < n → sg n (fun k => um (um (N i k) (m k j)) (x j)) = um (dI i j) (x j) := fun j hj => by
    rw [← sg_um, inv_mul h i hi j hj]
  rw [sg_congr e2, sg_dI _ hi]
theorem inv_inv {n : Nat} {m N : Rw} (h : inv n m = some N) : ∃ O, inv n N = some O ∧ ∀ i, i < n → ∀ j, j < n → O i j = m i j := by
  obtain ⟨R, hR⟩ := el_some (inv_ker h) n (Nat.le_refl _)
  refine ⟨fun i k => R i (n + k), by unfold inv; rw [hR]; rfl, ?_⟩
  have hO : inv n N = some fun i k => R i (n + k) := by unfold inv; rw [hR]; rfl
  generalize (fun i k => R i (n + k)) = O at *
  intro i hi j hj
  -- O = O (N m) = (O N) m = m
  have e := inv_mul hO i hi
  have e1 : O i j = sg n (fun k => um (O i k) (dI k j)) := (sg_dI' _ hj).symm
  rw [e1]
  have e2 : ∀ k, k < n → um (O i k) (dI k j) = sg n (fun l => um (um (O i k) (N k l)) (m l j)) := fun k hk => by
    rw [← inv_mul h k hk j hj, um_sg]; exact sg_congr fun l _ => by rw [um_assoc]
  rw [sg_congr e2, sg_swap]
  have e3 : ∀ l, l < n → sg n (fun k => um (um (O i k) (N k l)) (m l j)) = um (dI i l) (m l j) := fun l hl => by
    rw [← sg_um, e l hl]
  rw [sg_congr e3, sg_dI _ hi]
end Go.Proofs.YtfpofcfoeajkiaaGreat
/- Rows of bytes in memory, told by a function; rows of rows. -/
namespace Go.Proofs.YtfpofcfoeajkiaaGreat
open Go.RowKit
set_option linter.unusedVariables false
theorem grown_refl (w : World) (r : Option Nat) : w.grownBy w r := ⟨rfl, rfl, rfl, Nat.le_refl _, fun _ _ _ => rfl⟩
theorem grown_trans {a b c : World} {r : Option Nat} (h : a.grownBy b r) (k : b.grownBy c r) : a.grownBy c r :=
  ⟨k.os.trans h.os, k.tape.trans h.tape, k.output.trans h.output, Nat.le_trans h.size k.size, fun i hi hn => (k.block i (Nat.lt_of_lt_of_le hi h.size) hn).trans (h.block i hi hn)⟩
theorem grown_of_below {a b : World} (h : Below a.heap.size a b) (r : Option Nat) : a.grownBy b r := ⟨h.os, h.tape, h.output, h.size, fun i hi _ => h.block i hi⟩
theorem grown_set (w : World) (a : Addr) (u : Value) : w.grownBy (w.setCell a u) (some a.block) :=
  ⟨rfl, rfl, rfl, by simp, fun i hi hn => Below.heap_setCell w a u i (fun e => hn (by rw [e]))⟩
def updG (f : Nat → UInt8) (j : Nat) (v : UInt8) (i : Nat) : UInt8 := if i = j then v else f i
/-- block g begins with n bytes f -/
structure FRow (w : World) (g n : Nat) (f : Nat → UInt8) : Prop where
  lt : g < w.heap.size
  cell : ∀ j, j < n → w.cell? ⟨g, j, none⟩ = some (.int .u8 (f j).toNat)
  free : ∀ j, j < n → w.frozen? ⟨g, j, none⟩ = false
theorem FRow.same {w w' : World} {g n : Nat} {f : Nat → UInt8} (h : FRow w g n f) (hs : w.heap.size ≤ w'.heap.size) (hb : w'.heap[g]? = w.heap[g]?) : FRow w' g n f :=
  ⟨Nat.lt_of_lt_of_le h.lt hs, fun j hj => (World.cell?_of_block (a := ⟨g, j, none⟩) hb).trans (h.cell j hj), fun j hj => (World.frozen?_of_block (a := ⟨g, j, none⟩) hb).trans (h.free j hj)⟩
theorem FRow.grown {w w' : World} {g n : Nat} {f : Nat → UInt8} {row : Option Nat} (h : FRow w g n f) (hg : w.grownBy w' row) (hne : some g ≠ row) : FRow w' g n f := h.same hg.size (hg.block g h.lt hne)
theorem FRow.below {w w' : World} {g n : Nat} {f : Nat → UInt8} (h : FRow w g n f) (hb : Below w.heap.size w w') : FRow w' g n f := h.same hb.size (hb.block g h.lt)
theorem FRow.congr {w : World} {g n : Nat} {f f' : Nat → UInt8} (h : FRow w g n f) (he : ∀ j, j < n → f j = f' j) : FRow w g n f' :=
  ⟨h.lt, fun j hj => by rw [← he j hj]; exact h.cell j hj, h.free⟩
theorem FRow.set {w : World} {g n : Nat} {f : Nat → UInt8} (h : FRow w g n f) (j : Nat) (v : UInt8) (hj : j < n) : FRow (w.setCell ⟨g, j, none⟩ (.int .u8 v.toNat)) g n (updG f j v) :=
  ⟨by rw [World.size_setCell]; exact h.lt, fun i hi => by
    by_cases e : i = j
    · subst e; rw [World.cell?_setCell_same _ _ _ (h.cell i hi)]; unfold updG; rw [if_pos rfl]
    · rw [World.cell?_setCell_other _ _ _ _ (by intro e'; injection e' with _ e'; exact e e'.symm)]
      unfold updG; rw [if_neg e]; exact h.cell i hi, fun i hi => by rw [World.frozen?_setCell]; exact h.free i hi⟩
theorem FRow.take {w : World} {g n m : Nat} {f : Nat → UInt8} (h : FRow w g n f) (hm : m ≤ n) : FRow w g m f :=
  ⟨h.lt, fun j hj => h.cell j (Nat.lt_of_lt_of_le hj hm), fun j hj => h.free j (Nat.lt_of_lt_of_le hj hm)⟩
end Go.Proofs.YtfpofcfoeajkiaaGreat
/- The numbers of which there are 256: walks. -/
namespace Go.Proofs.YtfpofcfoeajkiaaGreat
open Go.RowKit
set_option linter.unusedVariables false
theorem x8n (a b : Nat) (ha : a < 256) (hb : b < 256) : bits .xor .u8 (a : Int) (b : Int) = ((a ^^^ b : Nat) : Int) := by
  rw [u8_xor _ _ (by omega) (by omega) (by omega) (by omega)]; simp
theorem and128 (a : Nat) (ha : a < 256) (h : 128 ≤ a) : bits .and .u8 (a : Int) (128 : Int) = 128 := by
  rw [u8_and _ _ (by omega) (by omega) (by omega) (by omega)]
  have : ∀ a < 256, 128 ≤ a → a &&& 128 = 128 := by decide +kernel
  have h2 := this a ha h
  show ((a &&& 128 : Nat) : Int) = 128
  rw [h2]; rfl
theorem and128' (a : Nat) (ha : a < 256) (h : ¬ 128 ≤ a) : bits .and .u8 (a : Int) (128 : Int) = 0 := by
  rw [u8_and _ _ (by omega) (by omega) (by omega) (by omega)]
  have : ∀ a < 256, ¬ 128 ≤ a → a &&& 128 = 0 := by decide +kernel
  have h2 := this a ha h
  show ((a &&& 128 : Nat) : Int) = 0
  rw [h2]; rfl
theorem and1u8 (a : Nat) (ha : a < 256) : bits .and .u8 (a : Int) (1 : Int) = ((a % 2 : Nat) : Int) := by
  rw [u8_and _ _ (by omega) (by omega) (by omega) (by omega)]
  show ((a &&& 1 : Nat) : Int) = _
  rw [Nat.and_one_is_mod]
theorem gTwice_high {a : Nat} (ha : a < 256) (h : 128 ≤ a) : bits .xor .u8 ((a : Int) * 2 % 256) (29 : Int) = ((gTwice a : Nat) : Int) := by
  have e : (a : Int) * 2 % 256 = ((a * 2 % 256 : Nat) : Int) := by omega
  rw [e, show (29 : Int) = ((29 : Nat) : Int) from rfl, x8n _ _ (Nat.mod_lt _ (by decide)) (by decide), gTwice, if_pos h]
set_option maxHeartbeats 400000 in
theorem twice_any (a : Nat) (ha : a < 256) (w : World) : Calls Tryz.prog 113 #[.int .u8 (a : Int)] w fun e w' => e = .returned (.int .u8 (gTwice a : Nat)) ∧ w = w' := by
  by_cases h : 128 ≤ a
  · have h1 := and128 a ha h
    go_enter Tryz.func113, Tryz.ntmps113
    go_wp2
    go_ret
    exact ⟨ret_int (gTwice_high ha h), rfl⟩
  · have h1 := and128' a ha h
    go_enter Tryz.func113, Tryz.ntmps113
    go_wp2
    go_ret
    exact ⟨ret_int (by unfold gTwice; rw [if_neg h]; omega), rfl⟩
theorem gG_zero (k : Nat) : ∀ a, gG k a 0 = 0 := by
  induction k with
  | zero => intro a; rfl
  | succ k ih => intro a; simp only [gG]; rw [ih]; simp
set_option maxHeartbeats 400000 in
theorem times_any (a b : Nat) (ha : a < 256) (hb : b < 256) (w : World) : Calls Tryz.prog 109 #[.int .u8 (a : Int), .int .u8 (b : Int)] w fun e w' => e = .returned (.int .u8 (gMul a b : Nat)) ∧ w = w' := by
  have hx := @x8n
  have H0 : Hid (∃ k, b < 2 ^ k ∧ gMul a b = 0 ^^^ gG k a b) := ⟨8, by simpa using hb, by rw [Nat.zero_xor]; rfl⟩
  clear hx
  go_enter Tryz.func109, Tryz.ntmps109
  go_wp2
  go_loop [0, 1, 5] (fun x y p => ∃ x' y' p' : Nat, x = .int .u8 (x' : Int) ∧ y = .int .u8 (y' : Int) ∧ p = .int .u8 (p' : Int) ∧ x' < 256 ∧ y' < 256 ∧ p' < 256 ∧ Hid (∃ k, y' < 2 ^ k ∧ gMul a b = p' ^^^ gG k x' y')) (fun _ y _ => (intOf y).toNat)
  case atStart => exact ⟨a, b, 0, rfl, rfl, rfl, ha, hb, by decide, H0⟩
  case round =>
    obtain ⟨x, y, p, rfl, rfl, rfl, hx, hy, hp, HK⟩ := hrel
    have ht := gTwice_lt hx
    by_cases h0 : y = 0
    · subst h0
      have hv : gMul a b = p := by
        obtain ⟨k, _, hk⟩ := HK.out
        rw [hk, gG_zero, Nat.xor_zero]
      go_wp2
      go_ret
      exact ⟨rfl, rfl⟩
    · obtain ⟨k, hk, hv⟩ := HK.out
      obtain ⟨k, rfl⟩ : ∃ k', k = k' + 1 := ⟨k - 1, by
        rcases k with _ | k
        · simp at hk; omega
        · rfl⟩
      have hp2 : 2 ^ (k + 1) = 2 ^ k * 2 := Nat.pow_succ 2 k
      have hk2 : y / 2 < 2 ^ k := by omega
      simp only [gG] at hv
      have h1 := and1u8 y hy
      have hx2 := x8n p x hp hx
      have hxl := xlt hp hx
      have HT := fun w => twice_any x hx w
      generalize gTwice x = t at *
      have HT := Lib.hid HT
      clear hp2 hk HK
      rcases Nat.mod_two_eq_zero_or_one y with e | e
      · rw [e] at h1 hv
        have HV : Hid (∃ k, y / 2 < 2 ^ k ∧ gMul a b = p ^^^ gG k t (y / 2)) := ⟨k, hk2, by rw [hv]; simp⟩
        clear hv hk2
        go_wp2_with fail
        refine (HT.out _).mono ?_
        rintro e w' ⟨rfl, rfl⟩
        go_wp2
        go_round
        case rel => exact ⟨t, y / 2, p, rfl, by go_num, rfl, ht, by omega, hp, HV⟩
        case measure => simp [intOf]; omega
      · rw [e] at h1 hv
        have HV : Hid (∃ k, y / 2 < 2 ^ k ∧ gMul a b = (p ^^^ x) ^^^ gG k t (y / 2)) := ⟨k, hk2, by rw [hv]; simp [Nat.xor_assoc]⟩
        generalize p ^^^ x = q at *
        clear hv hk2
        go_wp2_with fail
        refine (HT.out _).mono ?_
        rintro e w' ⟨rfl, rfl⟩
        go_wp2
        go_round
        case rel => exact ⟨t, y / 2, q, rfl, by go_num, rfl, ht, by omega, hxl, HV⟩
        case measure => simp [intOf]; omega
set_option maxHeartbeats 400000 in
theorem mul_any (a b : Nat) (ha : a < 256) (hb : b < 256) (w : World) : Calls Tryz.prog 108 #[.int .u8 (a : Int), .int .u8 (b : Int)] w fun e w' => e = .returned (.int .u8 (gMul a b : Nat)) ∧ w = w' := by
  go_enter Tryz.func108, Tryz.ntmps108
  go_wp2_with fail
  refine (times_any a b ha hb _).mono ?_
  rintro e w' ⟨rfl, rfl⟩
  go_wp2
  go_ret
  exact ⟨rfl, rfl⟩
theorem and1i64 (n : Nat) (h : n < 9223372036854775808) : bits .and .i64 (n : Int) (1 : Int) = ((n % 2 : Nat) : Int) := by
  have h1 : (BitVec.ofInt 64 1).toNat = 2 ^ 1 - 1 := by decide
  have key : (BitVec.ofInt 64 (n : Int) &&& BitVec.ofInt 64 1).toNat = ((n : Int) % ((2 ^ 64 : Nat) : Int)).toNat % 2 ^ 1 := by
    rw [BitVec.toNat_and, BitVec.toNat_ofInt, h1, Nat.and_two_pow_sub_one_eq_mod]
  show IntKind.i64.wrap ((BitVec.ofInt 64 (n : Int) &&& BitVec.ofInt 64 1).toNat : Nat) = ((n % 2 : Nat) : Int)
  rw [key, IntKind.wrap_i64]
  omega
set_option maxHeartbeats 400000 in
theorem power_any (a n : Nat) (ha : a < 256) (hn : n < 9223372036854775808) (w : World) : Calls Tryz.prog 114 #[.int .u8 (a : Int), .int .i64 (n : Int), .func (.func 109) #[] #[]] w fun e w' => e = .returned (.int .u8 (gPow a n : Nat)) ∧ w = w' := by
  have H0 : Hid (gPow a n = gMul 1 (gPow a n)) := (one_gMul (gPow_lt n ha)).symm
  have h1 : Hid (∀ y x, x < 256 → gPow x y < 256) := fun y x h => gPow_lt y h
  go_enter Tryz.func114, Tryz.ntmps114
  go_wp2
  go_loop [0, 1, 7] (fun x y p => ∃ x' y' p' : Nat, x = .int .u8 (x' : Int) ∧ y = .int .i64 (y' : Int) ∧ p = .int .u8 (p' : Int) ∧ x' < 256 ∧ y' < 9223372036854775808 ∧ p' < 256 ∧ Hid (gPow a n = gMul p' (gPow x' y'))) (fun _ y _ => (intOf y).toNat)
  case atStart => exact ⟨a, n, 1, rfl, rfl, rfl, ha, hn, by decide, H0⟩
  case round =>
    obtain ⟨x, y, p, rfl, rfl, rfl, hx, hy, hp, HK⟩ := hrel
    by_cases h0 : y = 0
    · subst h0
      have hv : gPow a n = p := by rw [HK.out, gPow, gMul_one]
      go_wp2
      go_ret
      exact ⟨by first | rfl | rw [hv], rfl⟩
    · have h1 := and1i64 y hy
      have hq := gMul_lt x hp
      have hr := gMul_lt x hx
      have hs := gPow_sq (y / 2) hx
      have hc := gMul_assoc p hp x hx (gPow x (2 * (y / 2))) (gPow_lt _ hx)
      have HP := fun w => times_any p x hp hx w
      have HQ := fun w => times_any x x hx hx w
      have hv := HK.out
      clear HK
      generalize hqe : gMul p x = q at *
      generalize hre : gMul x x = r at *
      clear hqe hre
      have HP := Lib.hid HP
      have HQ := Lib.hid HQ
      rcases Nat.mod_two_eq_zero_or_one y with e | e
      · rw [e] at h1
        have e2 : 2 * (y / 2) = y := by omega
        rw [e2] at hs
        have HV : Hid (gPow a n = gMul p (gPow r (y / 2))) := by unfold Hid; rw [hv, hs]
        clear hv hs hc e2
        go_wp2_with fail
        refine (HQ.out _).mono ?_
        rintro e w' ⟨rfl, rfl⟩
        go_wp2
        go_round
        case rel => exact ⟨r, y / 2, p, rfl, by go_num, rfl, hr, by omega, hp, HV⟩
        case measure => simp [intOf]; omega
      · rw [e] at h1
        have e2 : y = 2 * (y / 2) + 1 := by omega
        have HV : Hid (gPow a n = gMul q (gPow r (y / 2))) := by
          unfold Hid
          rw [hv, hs, ← hc]
          congr 1
          conv => lhs; rw [e2]
          rw [gPow, gMul_comm _ (gPow_lt _ hx) x hx]
        clear hv hs hc e2
        go_wp2_with fail
        refine (HP.out _).mono ?_
        rintro e w' ⟨rfl, rfl⟩
        go_wp2_with fail
        refine (HQ.out _).mono ?_
        rintro e w' ⟨rfl, rfl⟩
        go_wp2
        go_round
        case rel => exact ⟨r, y / 2, q, rfl, by go_num, rfl, hr, by omega, hq, HV⟩
        case measure => simp [intOf]; omega
set_option maxHeartbeats 400000 in
theorem inverse_any (a : Nat) (ha : a < 256) (w : World) : Calls Tryz.prog 110 #[.int .u8 (a : Int)] w fun e w' => e = .returned (.int .u8 (gInv a : Nat)) ∧ w = w' := by
  have h := power_any a 254 ha (by omega)
  have hv : gPow a 254 = gInv a := rfl
  rw [hv] at h
  clear hv
  generalize gInv a = i at *
  have H := Lib.hid h; clear h
  go_enter Tryz.func110, Tryz.ntmps110
  go_wp2_with fail
  refine (H.out _).mono ?_
  rintro e w' ⟨rfl, rfl⟩
  go_wp2
  go_ret
  exact ⟨rfl, rfl⟩
def gDiv (a b : Nat) : Nat := if b = 0 then 0 else gMul a (gInv b)
theorem gDiv_lt {a : Nat} (b : Nat) (ha : a < 256) : gDiv a b < 256 := by
  unfold gDiv; split
  · decide
  · exact gMul_lt _ ha
set_option maxHeartbeats 400000 in
theorem div_any (a b : Nat) (ha : a < 256) (hb : b < 256) (w : World) : Calls Tryz.prog 91 #[.int .u8 (a : Int), .int .u8 (b : Int)] w fun e w' => e = .returned (.tuple #[.int .u8 (gDiv a b : Nat), .bool (decide (b ≠ 0))]) ∧ w = w' := by
  by_cases h : b = 0
  · subst h
    go_enter Tryz.func91, Tryz.ntmps91
    go_wp2
    go_ret2
    exact ⟨rfl, rfl⟩
  · have hd : gDiv a b = gMul a (gInv b) := by unfold gDiv; rw [if_neg h]
    rw [hd]
    have hbb : decide (b ≠ 0) = true := by simp [h]
    rw [hbb]
    clear hd hbb
    have HI := fun w => inverse_any b hb w
    have HT := fun w => times_any a (gInv b) ha (gInv_lt hb) w
    generalize gInv b = i at *
    have HI := Lib.hid HI
    have HT := Lib.hid HT
    go_enter Tryz.func91, Tryz.ntmps91
    go_wp2_with fail
    refine (HI.out _).mono ?_
    rintro e w' ⟨rfl, rfl⟩
    go_wp2_with fail
    refine (HT.out _).mono ?_
    rintro e w' ⟨rfl, rfl⟩
    go_wp2
    go_ret2
    exact ⟨rfl, rfl⟩
/-- a number to the power of a number with a sign -/
def gPowZ (a : Nat) (n : Int) : Nat := if n = 0 then 1 else if a = 0 then 0 else gPow a (n % 255).toNat
theorem gPowZ_lt {a : Nat} (n : Int) (ha : a < 256) : gPowZ a n < 256 := by
  unfold gPowZ; split
  · decide
  · split
    · decide
    · exact gPow_lt _ ha
end Go.Proofs.YtfpofcfoeajkiaaGreat
/- The document's numbers of which there are 256: walks. -/
namespace Go.Proofs.YtfpofcfoeajkiaaGreat
open Go.RowKit
set_option linter.unusedVariables false
theorem gG_twice (k : Nat) : ∀ a c, a < 256 → gTwice (gG k a c) = gG k (gTwice a) c := by
  induction k with
  | zero => intro a c _; rfl
  | succ k ih =>
    intro a c ha
    simp only [gG]
    rw [gTwice_xor _ (by split <;> omega) _ (gG_lt k _ _ (gTwice_lt ha)), ih _ _ (gTwice_lt ha)]
    congr 1
    split <;> rfl
theorem gG_top (k : Nat) : ∀ a c, c < 2 ^ k → gG (k + 1) a c = gG k a c := by
  induction k with
  | zero => intro a c hc; obtain rfl : c = 0 := by simpa using hc
            simp [gG]
  | succ k ih =>
    intro a c hc
    have hp : 2 ^ (k + 1) = 2 ^ k * 2 := Nat.pow_succ 2 k
    rw [gG, ih _ _ (by omega), gG]
/-- a number times b, out of it times half of b -/
theorem gMul_half (a b : Nat) (ha : a < 256) (hb : b < 256) : gMul a b = gTwice (gMul a (b / 2)) ^^^ (if b % 2 = 1 then a else 0) := by
  rw [Nat.xor_comm]
  show gG 8 a b = _ ^^^ gTwice (gG 8 a (b / 2))
  rw [show gG 8 a (b / 2) = gG 7 a (b / 2) from gG_top 7 _ _ (by omega), gG_twice 7 _ _ ha]
  rfl
def GAt (a b j p : Nat) : Prop := gMul a (b / 2 ^ j) = p
theorem and_sh (b d : Nat) (hb : b < 256) : bits .and .u8 ((b : Int) / (d : Int)) (1 : Int) = ((b / d % 2 : Nat) : Int) := by
  rw [← and1u8 (b / d) (Nat.lt_of_le_of_lt (Nat.div_le_self b d) hb)]; rfl
theorem half_pow (b j : Nat) : b / 2 ^ (j + 1) = b / 2 ^ j / 2 := by rw [Nat.pow_succ, Nat.div_div_eq_div_mul]
end Go.Proofs.YtfpofcfoeajkiaaGreat
