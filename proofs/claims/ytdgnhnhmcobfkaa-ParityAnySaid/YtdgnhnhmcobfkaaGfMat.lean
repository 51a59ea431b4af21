/- Matrices over the field of 256 numbers: elimination, and what it gives. Plain; no conditions. -/
import Derived.Test.YtdgnhnhmcobfkaaGfSpec
namespace Go.Proofs.Ytdgnhnhmcobfkaa
def um (a b : UInt8) : UInt8 := UInt8.ofNat (gMul a.toNat b.toNat)
theorem um_nat (a b : UInt8) : (um a b).toNat = gMul a.toNat b.toNat := by
  unfold um; rw [UInt8.toNat_ofNat']; exact Nat.mod_eq_of_lt (gMul_lt _ a.toNat_lt)
theorem um_comm (a b : UInt8) : um a b = um b a := by unfold um; rw [gMul_comm _ a.toNat_lt _ b.toNat_lt]
theorem um_assoc (a b c : UInt8) : um a (um b c) = um (um a b) c := UInt8.toNat_inj.1 (by
  rw [um_nat, um_nat, um_nat, um_nat, gMul_assoc _ a.toNat_lt _ b.toNat_lt _ c.toNat_lt])
theorem um_add (a b c : UInt8) : um a (b ^^^ c) = um a b ^^^ um a c := UInt8.toNat_inj.1 (by
  rw [um_nat, UInt8.toNat_xor, UInt8.toNat_xor, um_nat, um_nat, gMul_right])
theorem add_um (a b c : UInt8) : um (b ^^^ c) a = um b a ^^^ um c a := by rw [um_comm, um_add, um_comm a b, um_comm a c]
theorem um_one (a : UInt8) : um a 1 = a := UInt8.toNat_inj.1 (by rw [um_nat]; exact gMul_one _)
theorem one_um (a : UInt8) : um 1 a = a := by rw [um_comm, um_one]
theorem um_zero (a : UInt8) : um a 0 = 0 := UInt8.toNat_inj.1 (by rw [um_nat]; exact gMul_zero _)
theorem zero_um (a : UInt8) : um 0 a = 0 := by rw [um_comm, um_zero]
def ui (a : UInt8) : UInt8 := UInt8.ofNat (gInv a.toNat)
theorem ui_nat (a : UInt8) : (ui a).toNat = gInv a.toNat := by
  unfold ui; rw [UInt8.toNat_ofNat']; exact Nat.mod_eq_of_lt (gInv_lt a.toNat_lt)
theorem um_ui (a : UInt8) (h : a ≠ 0) : um a (ui a) = 1 := UInt8.toNat_inj.1 (by
  rw [um_nat, ui_nat]; exact gInv_mul a.toNat_lt (fun e => h (UInt8.toNat_inj.1 e)))
theorem um_cancel {a f : UInt8} (hf : f ≠ 0) (h : um a f = 0) : a = 0 := by
  have := congrArg (fun x => um x (ui f)) h
  simp only [← um_assoc, um_ui f hf, um_one, zero_um] at this
  exact this
theorem xx (a : UInt8) : a ^^^ a = 0 := UInt8.xor_self
theorem xor_eq_zero {a b : UInt8} (h : a ^^^ b = 0) : a = b := by
  have := congrArg (· ^^^ b) h
  simp only [UInt8.xor_assoc, xx, UInt8.xor_zero, UInt8.zero_xor] at this
  exact this
theorem x22 (a b c d : UInt8) : (a ^^^ b) ^^^ (c ^^^ d) = (a ^^^ c) ^^^ (b ^^^ d) := by
  rw [UInt8.xor_assoc, UInt8.xor_assoc, ← UInt8.xor_assoc b c d, UInt8.xor_comm b c, UInt8.xor_assoc c b d]
/-- sums -/
def sg : Nat → (Nat → UInt8) → UInt8
  | 0, _ => 0
  | n + 1, f => sg n f ^^^ f n
theorem sg_congr {n : Nat} {f g : Nat → UInt8} (h : ∀ k, k < n → f k = g k) : sg n f = sg n g := by
  induction n with
  | zero => rfl
  | succ n ih => simp only [sg]; rw [ih fun k hk => h k (by omega), h n (by omega)]
theorem sg_zero (n : Nat) : sg n (fun _ => 0) = 0 := by
  induction n with
  | zero => rfl
  | succ n ih => simp only [sg]; rw [ih]; rfl
theorem sg_add (n : Nat) (f g : Nat → UInt8) : sg n (fun k => f k ^^^ g k) = sg n f ^^^ sg n g := by
  induction n with
  | zero => exact (xx 0).symm
  | succ n ih => simp only [sg]; rw [ih, x22]
theorem um_sg (n : Nat) (a : UInt8) (f : Nat → UInt8) : um a (sg n f) = sg n (fun k => um a (f k)) := by
  induction n with
  | zero => exact um_zero a
  | succ n ih => simp only [sg]; rw [um_add, ih]
theorem sg_um (n : Nat) (a : UInt8) (f : Nat → UInt8) : um (sg n f) a = sg n (fun k => um (f k) a) := by
  rw [um_comm, um_sg]; exact sg_congr fun k _ => um_comm _ _
theorem sg_swap (n m : Nat) (f : Nat → Nat → UInt8) : sg n (fun i => sg m (fun j => f i j)) = sg m (fun j => sg n (fun i => f i j)) := by
  induction n with
  | zero => exact (sg_zero m).symm
  | succ n ih => simp only [sg]; rw [ih, ← sg_add]
def dI (i j : Nat) : UInt8 := if i = j then 1 else 0
theorem sg_one {n i : Nat} (f : Nat → UInt8) (hi : i < n) (h : ∀ k, k < n → k ≠ i → f k = 0) : sg n f = f i := by
  induction n with
  | zero => omega
  | succ n ih =>
    simp only [sg]
    by_cases e : i = n
    · subst e
      rw [sg_congr (g := fun _ => 0) (fun k hk => h k (by omega) (by omega)), sg_zero, UInt8.zero_xor]
    · rw [ih (by omega) fun k hk hne => h k (by omega) hne, h n (by omega) (fun e2 => e e2.symm), UInt8.xor_zero]
theorem sg_dI {n i : Nat} (f : Nat → UInt8) (hi : i < n) : sg n (fun k => um (dI i k) (f k)) = f i := by
  rw [sg_one (i := i) _ hi (fun k _ hne => by unfold dI; rw [if_neg (fun e => hne e.symm), zero_um])]
  unfold dI; rw [if_pos rfl, one_um]
theorem sg_dI' {n j : Nat} (f : Nat → UInt8) (hj : j < n) : sg n (fun k => um (f k) (dI k j)) = f j := by
  rw [sg_one (i := j) _ hj (fun k _ hne => by unfold dI; rw [if_neg hne, um_zero])]
  unfold dI; rw [if_pos rfl, um_one]
/-- elimination: rows as functions, the matrix of 1 and 0 behind -/
abbrev Rw := Nat → Nat → UInt8
def sw (R : Rw) (c p : Nat) : Rw := fun i => if i = c then R p else if i = p then R c else R i
def sc (R : Rw) (c : Nat) (f : UInt8) : Rw := fun i k => if i = c then um (R c k) f else R i k
def wp (R : Rw) (c : Nat) : Rw := fun i k => if i = c then R c k else R i k ^^^ um (R i c) (R c k)
/-- the first row from c on, of n, with something in column c -/
def pvt (R : Rw) (c : Nat) : Nat → Option Nat
  | 0 => none
  | n + 1 => match pvt R c n with
    | some p => some p
    | none => if c ≤ n ∧ R n c ≠ 0 then some n else none
theorem pvt_none {R : Rw} {c : Nat} : ∀ {n : Nat}, pvt R c n = none → ∀ i, c ≤ i → i < n → R i c = 0
  | 0, _, i, _, h2 => by omega
  | n + 1, h, i, h1, h2 => by
    unfold pvt at h
    cases hp : pvt R c n with
    | some q => rw [hp] at h; cases h
    | none =>
      rw [hp] at h
      simp only at h
      split at h
      · cases h
      · next hc =>
        by_cases e : i = n
        · subst e
          exact Decidable.byContradiction fun hz => hc ⟨h1, hz⟩
        · exact pvt_none hp i h1 (by omega)
theorem pvt_some {R : Rw} {c : Nat} : ∀ {n p : Nat}, pvt R c n = some p → c ≤ p ∧ p < n ∧ R p c ≠ 0 ∧ ∀ i, c ≤ i → i < p → R i c = 0
  | 0, p, h => by cases h
  | n + 1, p, h => by
    unfold pvt at h
    cases hp : pvt R c n with
    | some q => rw [hp] at h; injection h with e; subst e; obtain ⟨a, b, d, e⟩ := pvt_some hp; exact ⟨a, by omega, d, e⟩
    | none =>
      rw [hp] at h
      simp only at h
      split at h
      · next hc =>
        injection h with e; subst e
        refine ⟨hc.1, by omega, hc.2, ?_⟩
        exact fun i h1 h2 => (pvt_none hp) i h1 h2
      · cases h
theorem pvt_of {R : Rw} {c n p : Nat} (h1 : c ≤ p) (h2 : p < n) (h3 : R p c ≠ 0) (h4 : ∀ i, c ≤ i → i < p → R i c = 0) : pvt R c n = some p := by
  cases h : pvt R c n with
  | none => exact absurd (pvt_none h p h1 h2) h3
  | some q =>
    obtain ⟨a, b, d, e⟩ := pvt_some h
    rcases Nat.lt_trichotomy p q with hh | hh | hh
    · exact absurd (e p h1 hh) h3
    · rw [hh]
    · exact absurd (h4 q a hh) d
theorem pvt_no {R : Rw} {c n : Nat} (h : ∀ i, c ≤ i → i < n → R i c = 0) : pvt R c n = none := by
  cases hp : pvt R c n with
  | none => rfl
  | some q => obtain ⟨a, b, d, _⟩ := pvt_some hp; exact absurd (h q a b) d
def stp (R : Rw) (c p : Nat) : Rw := wp (sc (sw R c p) c (ui (sw R c p c c))) c
def el (n : Nat) (R : Rw) : Nat → Option Rw
  | 0 => some R
  | c + 1 => match el n R c with
    | none => none
    | some R' => match pvt R' c n with
      | none => none
      | some p => some (stp R' c p)
/-- rows that a property of rows, linear, holds for -/
theorem stp_rows {n c p : Nat} {R : Rw} (P : (Nat → UInt8) → Prop) (hs : ∀ r f, P r → P (fun k => um (r k) f)) (ha : ∀ r q f, P r → P q → P (fun k => r k ^^^ um f (q k)))
    (hc : c < n) (hp : p < n) (h : ∀ i, i < n → P (R i)) : ∀ i, i < n → P (stp R c p i) := by
  have h1 : ∀ i, i < n → P (sw R c p i) := by
    intro i hi
    unfold sw
    split
    · exact h p hp
    · split
      · exact h c hc
      · exact h i hi
  generalize hF : ui (sw R c p c c) = F
  have h2 : ∀ i, i < n → P (sc (sw R c p) c F i) := by
    intro i hi
    unfold sc
    by_cases e : i = c
    · simp only [if_pos e]; exact hs _ _ (h1 c hc)
    · simp only [if_neg e]; exact h1 i hi
  intro i hi
  unfold stp
  rw [hF]
  generalize sc (sw R c p) c F = R2 at *
  unfold wp
  by_cases e : i = c
  · simp only [if_pos e]; exact h2 c hc
  · simp only [if_neg e]; exact ha _ _ _ (h2 i hi) (h2 c hc)
/-- what stays while columns are done -/
structure Inv (n : Nat) (m : Rw) (R : Rw) (c : Nat) : Prop where
  rel : ∀ i, i < n → ∀ j, j < n → R i j = sg n (fun k => um (R i (n + k)) (m k j))
  cols : ∀ j, j < c → ∀ i, i < n → R i j = dI i j
  ker : ∀ v : Nat → UInt8, (∀ i, i < n → sg n (fun k => um (R i (n + k)) (v k)) = 0) → ∀ k, k < n → v k = 0
def beg (n : Nat) (m : Rw) : Rw := fun i k => if k < n then m i k else dI i (k - n)
theorem Inv.begin (n : Nat) (m : Rw) : Inv n m (beg n m) 0 := by
  have h1 : ∀ i k, beg n m i (n + k) = dI i k := by
    intro i k; unfold beg; rw [if_neg (by omega)]; congr 1; omega
  refine ⟨fun i hi j hj => ?_, fun j hj => by omega, fun v h k hk => ?_⟩
  · simp only [h1]
    rw [sg_dI _ hi]; unfold beg; rw [if_pos hj]
  · have := h k hk
    simp only [h1] at this
    rwa [sg_dI _ hk] at this
theorem Inv.step {n : Nat} {m R : Rw} {c p : Nat} (h : Inv n m R c) (hc : c < n) (h1 : c ≤ p) (h2 : p < n) (h3 : R p c ≠ 0) : Inv n m (stp R c p) (c + 1) := by
  have hrel := stp_rows (n := n) (c := c) (p := p) (R := R) (fun r => ∀ j, j < n → r j = sg n (fun k => um (r (n + k)) (m k j)))
    (fun r f hr j hj => by
      simp only
      rw [hr j hj, sg_um]
      refine sg_congr fun k _ => ?_
      rw [← um_assoc, um_comm (m k j) f, um_assoc])
    (fun r q f hr hq j hj => by
      simp only
      rw [hr j hj, hq j hj, um_sg, ← sg_add]
      refine sg_congr fun k _ => ?_
      rw [add_um, um_assoc])
    hc h2 h.rel
  -- the rows before
  have hswc : sw R c p c = R p := by unfold sw; rw [if_pos rfl]
  have hpc : sw R c p c c ≠ 0 := by rw [hswc]; exact h3
  have hcolsw : ∀ j, j < c → ∀ i, i < n → sw R c p i j = dI i j := by
    intro j hj i hi
    unfold sw
    split
    · next e => subst e; rw [h.cols j hj p h2]; unfold dI; rw [if_neg (by omega), if_neg (by omega)]
    · split
      · next e => subst e; rw [h.cols j hj c hc]; unfold dI; rw [if_neg (by omega), if_neg (by omega)]
      · exact h.cols j hj i hi
  refine ⟨hrel, fun j hj i hi => ?_, fun v hv => ?_⟩
  · -- columns
    unfold stp
    generalize hF : ui (sw R c p c c) = F
    have hone : um (sw R c p c c) F = 1 := by rw [← hF]; exact um_ui _ hpc
    generalize sw R c p = S at *
    have hSc : sc S c F c = fun k => um (S c k) F := by funext k; simp [sc]
    by_cases e : i = c
    · subst e
      unfold wp
      rw [if_pos rfl, hSc]
      simp only
      by_cases ej : j = i
      · subst ej; rw [hone]; unfold dI; rw [if_pos rfl]
      · rw [hcolsw j (by omega) i hi]; unfold dI; rw [if_neg (by omega), zero_um]
    · have hSi : sc S c F i = S i := by funext k; simp [sc, e]
      unfold wp
      rw [if_neg e, hSi, hSc]
      simp only
      by_cases ej : j = c
      · subst ej; rw [hone, um_one, xx]; unfold dI; rw [if_neg e]
      · rw [hcolsw j (by omega) c hc, hcolsw j (by omega) i hi]
        unfold dI
        rw [if_neg (show ¬ c = j by omega), zero_um, um_zero, UInt8.xor_zero]
  · -- the kernel
    apply h.ker
    let Q : (Nat → UInt8) → UInt8 := fun r => sg n (fun k => um (r (n + k)) (v k))
    have Qs : ∀ r f, Q (fun k => um (r k) f) = um (Q r) f := by
      intro r f
      show sg n _ = um (sg n _) f
      rw [sg_um]
      refine sg_congr fun k _ => ?_
      rw [← um_assoc, um_comm f, um_assoc]
    have Qa : ∀ (r q : Nat → UInt8) f, Q (fun k => r k ^^^ um f (q k)) = Q r ^^^ um f (Q q) := by
      intro r q f
      show sg n _ = sg n _ ^^^ um f (sg n _)
      rw [um_sg, ← sg_add]
      refine sg_congr fun k _ => ?_
      rw [add_um, um_assoc]
    have hv' : ∀ i, i < n → Q (stp R c p i) = 0 := hv
    have hcc : Q (sw R c p c) = 0 := by
      have := hv' c hc
      have e1 : stp R c p c = fun k => um (sw R c p c k) (ui (sw R c p c c)) := by
        funext k; simp [stp, wp, sc]
      rw [e1, Qs] at this
      refine um_cancel ?_ this
      intro hz
      have := um_ui _ hpc
      rw [hz, um_zero] at this
      exact absurd this (by decide)
    have hall : ∀ i, i < n → Q (sw R c p i) = 0 := by
      intro i hi
      by_cases e : i = c
      · subst e; exact hcc
      · have := hv' i hi
        have e1 : stp R c p i = fun k => sw R c p i k ^^^ um (sw R c p i c) ((fun k => um (sw R c p c k) (ui (sw R c p c c))) k) := by
          funext k; simp [stp, wp, sc, e]
        rw [e1] at this
        have e3 := (Qa (sw R c p i) (fun k => um (sw R c p c k) (ui (sw R c p c c))) (sw R c p i c)).symm.trans this
        rw [Qs, hcc, zero_um, um_zero, UInt8.xor_zero] at e3
        exact e3
    intro i hi
    show Q (R i) = 0
    by_cases e : i = p
    · subst e; have := hall c hc; rwa [hswc] at this
    · by_cases e2 : i = c
      · subst e2
        have := hall p h2
        unfold sw at this
        rwa [if_neg (fun e3 => e e3.symm), if_pos rfl] at this
      · have := hall i hi
        unfold sw at this
        rwa [if_neg e2, if_neg e] at this
theorem el_inv {n : Nat} {m : Rw} : ∀ {c : Nat} {R : Rw}, c ≤ n → el n (beg n m) c = some R → Inv n m R c
  | 0, R, _, h => by injection h with e; subst e; exact Inv.begin n m
  | c + 1, R, hc, h => by
    unfold el at h
    cases h1 : el n (beg n m) c with
    | none => rw [h1] at h; cases h
    | some R' =>
      rw [h1] at h
      simp only at h
      cases h2 : pvt R' c n with
      | none => rw [h2] at h; cases h
      | some p =>
        rw [h2] at h
        injection h with e; subst e
        obtain ⟨a, b, d, _⟩ := pvt_some h2
        exact (el_inv (by omega) h1).step (by omega) a b d
/-- of a matrix without a kernel elimination comes to its end -/
theorem el_some {n : Nat} {m : Rw} (hm : ∀ v : Nat → UInt8, (∀ i, i < n → sg n (fun k => um (m i k) (v k)) = 0) → ∀ k, k < n → v k = 0) : ∀ c, c ≤ n → ∃ R, el n (beg n m) c = some R
  | 0, _ => ⟨_, rfl⟩
  | c + 1, hc => by
    obtain ⟨R, hR⟩ := el_some hm c (by omega)
    have I := el_inv (by omega) hR
    unfold el
    rw [hR]
    simp only
    cases hp : pvt R c n with
    | some p => exact ⟨_, rfl⟩
    | none =>
      exfalso
      have hz := pvt_none hp
      -- the vector of the kernel
      let v : Nat → UInt8 := fun k => if k < c then R k c else if k = c then 1 else 0
      have hRv : ∀ i, i < n → sg n (fun j => um (R i j) (v j)) = 0 := by
        intro i hi
        have e1 : sg n (fun j => um (R i j) (v j)) = sg n (fun j => if j < c then um (dI i j) (R j c) else 0) ^^^ sg n (fun j => if j = c then R i c else 0) := by
          rw [← sg_add]
          refine sg_congr fun j hj => ?_
          simp only [v]
          by_cases h1 : j < c
          · rw [if_pos h1, if_pos h1, if_neg (by omega), I.cols j h1 i hi, UInt8.xor_zero]
          · rw [if_neg h1, if_neg h1]
            by_cases h2 : j = c
            · subst h2; rw [if_pos rfl, if_pos rfl, um_one, UInt8.zero_xor]
            · rw [if_neg h2, if_neg h2, um_zero]; rfl
        rw [e1, sg_one (n := n) (i := c) (fun j => if j = c then R i c else 0) (by omega) (fun k _ hne => if_neg hne), if_pos rfl]
        by_cases hic : i < c
        · rw [sg_one (n := n) (i := i) _ hi (fun k _ hne => by
            split
            · unfold dI; rw [if_neg (fun e => hne e.symm), zero_um]
            · rfl), if_pos hic]
          unfold dI; rw [if_pos rfl, one_um, xx]
        · rw [hz i (by omega) hi, UInt8.xor_zero]
          rw [sg_congr (g := fun _ => 0) (fun k hk => by
            split
            · unfold dI; rw [if_neg (by omega), zero_um]
            · rfl), sg_zero]
      have hmv : ∀ k, k < n → sg n (fun j => um (m k j) (v j)) = 0 := by
        apply I.ker
        intro i hi
        rw [← hRv i hi]
        have : ∀ j, j < n → um (R i j) (v j) = sg n (fun k => um (um (R i (n + k)) (m k j)) (v j)) := fun j hj => by rw [I.rel i hi j hj, sg_um]
        rw [sg_congr this, sg_swap]
        refine sg_congr fun k _ => ?_
        rw [um_sg]
        exact sg_congr fun j _ => by rw [um_assoc]
      have := hm v hmv c (by omega)
      simp only [v] at this
      rw [if_neg (by omega), if_pos trivial] at this
      exact absurd this (by decide)
/-- the matrix that undoes m -/
def inv (n : Nat) (m : Rw) : Option Rw := (el n (beg n m) n).map fun R => fun i k => R i (n + k)
theorem inv_mul {n : Nat} {m N : Rw} (h : inv n m = some N) : ∀ i, i < n → ∀ j, j < n → sg n (fun k => um (N i k) (m k j)) = dI i j := by
  unfold inv at h
  cases h1 : el n (beg n m) n with
  | none => rw [h1] at h; cases h
  | some R =>
    rw [h1] at h; injection h with e; subst e
    have I := el_inv (Nat.le_refl _) h1
    exact fun i hi j hj => by rw [← I.rel i hi j hj, I.cols j hj i hi]
theorem inv_ker {n : Nat} {m N : Rw} (h : inv n m = some N) : ∀ v : Nat → UInt8, (∀ i, i < n → sg n (fun k => um (N i k) (v k)) = 0) → ∀ k, k < n → v k = 0 := by
  unfold inv at h
  cases h1 : el n (beg n m) n with
  | none => rw [h1] at h; cases h
  | some R =>
    rw [h1] at h; injection h with e; subst e
    exact (el_inv (Nat.le_refl _) h1).ker
/-- times a column: back -/
theorem inv_back {n : Nat} {m N : Rw} (h : inv n m = some N) (x : Nat → UInt8) (i : Nat) (hi : i < n) :
    sg n (fun k => um (N i k) (sg n (fun j => um (m k j) (x j)))) = x i := by
  have e1 : ∀ k, k < n → um (N i k) (sg n (fun j => um (m k j) (x j))) = sg n (fun j => um (um (N i k) (m k j)) (x j)) := fun k _ => by
    rw [um_sg]; exact sg_congr fun j _ => by rw [um_assoc]
  rw [sg_congr e1, sg_swap]
  have e2 : ∀ j, j < n → sg n (fun k => um (um (N i k) (m k j)) (x j)) = um (dI i j) (x j) := fun j hj => by
    rw [← sg_um, inv_mul h i hi j hj]
  rw [sg_congr e2, sg_dI _ hi]
theorem inv_inv {n : Nat} {m N : Rw} (h : inv n m = some N) : ∃ O, inv n N = some O ∧ ∀ i, i < n → ∀ j, j < n → O i j = m i j := by
  obtain ⟨R, hR⟩ := el_some (inv_ker h) n (Nat.le_refl _)
  refine ⟨fun i k => R i (n + k), by unfold inv; rw [hR]; rfl, ?_⟩
  have hO : inv n N = some fun i k => R i (n + k) := by unfold inv; rw [hR]; rfl
  generalize (fun i k => R i (n + k)) = O at *
  intro i hi j hj
  -- O = O (N m) = (O N) m = m
  have e := inv_mul hO i hi
  have e1 : O i j = sg n (fun k => um (O i k) (dI k j)) := (sg_dI' _ hj).symm
  rw [e1]
  have e2 : ∀ k, k < n → um (O i k) (dI k j) = sg n (fun l => um (um (O i k) (N k l)) (m l j)) := fun k hk => by
    rw [← inv_mul h k hk j hj, um_sg]; exact sg_congr fun l _ => by rw [um_assoc]
  rw [sg_congr e2, sg_swap]
  have e3 : ∀ l, l < n → sg n (fun k => um (um (O i k) (N k l)) (m l j)) = um (dI i l) (m l j) := fun l hl => by
    rw [← sg_um, e l hl]
  rw [sg_congr e3, sg_dI _ hi]
end Go.Proofs.Ytdgnhnhmcobfkaa
