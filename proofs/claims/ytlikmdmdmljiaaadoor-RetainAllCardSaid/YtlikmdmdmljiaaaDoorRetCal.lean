/- Plain: the calendar: days of numbers and numbers of days. -/
namespace Go.Proofs.YtlikmdmdmljiaaaDoor.Cal
set_option linter.unusedVariables false
def gI (o : Int) : Int := o - o / 1460 + o / 36524 - o / 146096
def fI (y : Int) : Int := 365 * y + y / 4 - y / 100
theorem gI_step (o : Int) (h0 : 0 ≤ o) (h : o ≤ 146097) : gI o ≤ gI (o + 1) := by unfold gI; omega
theorem gI_mono : ∀ (k : Nat) (o : Int), 0 ≤ o → o + k ≤ 146097 → gI o ≤ gI (o + k)
  | 0, o, _, _ => by simp
  | k + 1, o, h0, h => by
    have h1 := gI_mono k o h0 (by omega)
    have h2 := gI_step (o + k) (by omega) (by omega)
    have e : o + ((k + 1 : Nat) : Int) = o + k + 1 := by omega
    rw [e]; omega
theorem gI_le {o p : Int} (h0 : 0 ≤ o) (h : o ≤ p) (hp : p ≤ 146097) : gI o ≤ gI p := by
  have := gI_mono (p - o).toNat o h0 (by omega)
  have e : o + ((p - o).toNat : Int) = p := by omega
  rwa [e] at this
theorem gf_tab : ∀ y : Nat, y < 400 → 365 * (y : Int) ≤ gI (fI y) ∧ (y = 0 ∨ gI (fI y - 1) < 365 * (y : Int)) := by decide +kernel
theorem fI_step (y : Int) (h : 0 ≤ y) : fI (y + 1) = fI y + 365 + (if (y + 1) % 4 = 0 then 1 else 0) - (if (y + 1) % 100 = 0 then 1 else 0) := by
  unfold fI; split <;> split <;> omega
theorem fI_mono : ∀ (k : Nat) (y : Int), 0 ≤ y → fI y ≤ fI (y + k)
  | 0, y, _ => by simp
  | k + 1, y, h => by
    have h1 := fI_mono k y h
    have h2 := fI_step (y + k) (by omega)
    have e : y + ((k + 1 : Nat) : Int) = y + k + 1 := by omega
    rw [e]; split at h2 <;> split at h2 <;> omega
theorem fI_le {y z : Int} (h : 0 ≤ y) (hz : y ≤ z) : fI y ≤ fI z := by
  have := fI_mono (z - y).toNat y h
  have e : y + ((z - y).toNat : Int) = z := by omega
  rwa [e] at this
def yI (o : Int) : Int := gI o / 365
theorem yI_spec (o : Int) (h0 : 0 ≤ o) (h : o < 146097) : 0 ≤ yI o ∧ yI o ≤ 399 ∧ fI (yI o) ≤ o ∧ (o < fI (yI o + 1) ∨ yI o = 399 ∧ o = 146096) := by
  have g1 : gI 146096 = 145999 := by decide
  have g2 : gI 0 = 0 := by decide
  have a1 := gI_le h0 (show o ≤ 146096 by omega) (by omega)
  have a2 := gI_le (Int.le_refl 0) h0 (by omega)
  have hy0 : 0 ≤ yI o := by unfold yI; omega
  have hy1 : yI o ≤ 399 := by unfold yI; omega
  have hd1 : 365 * yI o ≤ gI o := by unfold yI; omega
  have hd2 : gI o < 365 * (yI o + 1) := by unfold yI; omega
  have f400 : fI 400 = 146096 := by decide
  refine ⟨hy0, hy1, ?_, ?_⟩
  · generalize yI o = y at *
    rcases Int.lt_or_le o (fI y) with hlt | hge
    · exfalso
      obtain ⟨n, rfl⟩ := Int.eq_ofNat_of_zero_le hy0
      rcases (gf_tab n (by omega)).2 with e | e
      · subst e; have : fI ((0 : Nat) : Int) = 0 := by decide
        omega
      · have hf := fI_le hy0 (show (n : Int) ≤ 400 by omega)
        have := gI_le h0 (show o ≤ fI n - 1 by omega) (by omega)
        omega
    · exact hge
  · generalize yI o = y at *
    rcases Int.lt_or_le o (fI (y + 1)) with hlt | hge
    · exact .inl hlt
    · right
      by_cases e : y = 399
      · subst e
        have : fI (399 + 1) = 146096 := by decide
        exact ⟨rfl, by omega⟩
      · exfalso
        obtain ⟨n, rfl⟩ := Int.eq_ofNat_of_zero_le hy0
        have t := (gf_tab (n + 1) (by omega)).1
        have e1 : (((n + 1 : Nat)) : Int) = (n : Int) + 1 := by omega
        rw [e1] at t
        have hf0 := fI_le (Int.le_refl 0) (show (0 : Int) ≤ (n : Int) + 1 by omega)
        have f0 : fI 0 = 0 := by decide
        have := gI_le (show 0 ≤ fI ((n : Int) + 1) by omega) hge (by omega)
        omega
/-- the year of a place within 400 years is the one that holds it -/
theorem yI_uniq (o y : Int) (hy : 0 ≤ y) (hy2 : y ≤ 399) (h1 : fI y ≤ o) (h2 : o < fI (y + 1) ∨ y = 399 ∧ o = 146096) : yI o = y := by
  have f0 : fI 0 = 0 := by decide
  have f400 : fI 400 = 146096 := by decide
  have a1 := fI_le (Int.le_refl 0) hy
  have a2 := fI_le (show (0 : Int) ≤ y + 1 by omega) (show y + 1 ≤ 400 by omega)
  obtain ⟨b0, b1, b2, b3⟩ := yI_spec o (by omega) (by rcases h2 with h | h <;> omega)
  rcases Int.lt_trichotomy (yI o) y with h | h | h
  · exfalso
    have := fI_le (show (0 : Int) ≤ yI o + 1 by omega) (show yI o + 1 ≤ y by omega)
    rcases b3 with b | b <;> omega
  · exact h
  · exfalso
    have := fI_le (show (0 : Int) ≤ y + 1 by omega) (show y + 1 ≤ yI o by omega)
    rcases h2 with h2 | h2 <;> omega
def lp (y : Int) : Bool := decide (y % 4 = 0) && (!decide (y % 100 = 0) || decide (y % 400 = 0))
/-- a month's length -/
def mlen (y m : Int) : Int := if m = 4 ∨ m = 6 ∨ m = 9 ∨ m = 11 then 30 else if m = 2 then (if lp y then 29 else 28) else 31
def ylen (y : Int) : Int := if lp y then 366 else 365
/-- the month of a place within a year that begins with March, and the days ahead of it -/
def mI (r : Int) : Int := (5 * r + 2) / 153
def cI (m : Int) : Int := (153 * m + 2) / 5
def mlM (m : Int) : Int := if m = 1 ∨ m = 3 ∨ m = 6 ∨ m = 8 then 30 else if m = 11 then 29 else 31
theorem m_tab : ∀ r : Nat, r < 366 → 0 ≤ mI r ∧ mI r ≤ 11 ∧ 0 ≤ (r : Int) - cI (mI r) ∧ (r : Int) - cI (mI r) < mlM (mI r) ∧ ((r : Int) - cI (mI r) = 28 ∧ mI r = 11 ↔ (r : Int) = 365) := by decide +kernel
theorem c_tab : ∀ m : Nat, m < 12 → ∀ d : Nat, d < 31 → (d : Int) < mlM m → mI (cI m + d) = m ∧ cI m + d < 366 ∧ (cI m + d = 365 ↔ (m : Int) = 11 ∧ (d : Int) = 28) := by decide +kernel
structure Dt where
  y : Int
  m : Int
  d : Int
deriving DecidableEq
/-- the day of a number -/
def civ (n : Int) : Dt :=
  let z := n + 719468
  let o := z % 146097
  let y := yI o
  let r := o - fI y
  let m := mI r
  if m + 3 > 12 then ⟨z / 146097 * 400 + y + 1, m + 3 - 12, r - cI m + 1⟩ else ⟨z / 146097 * 400 + y, m + 3, r - cI m + 1⟩
/-- the number of a day -/
def cnt (t : Dt) : Int :=
  let y := if t.m - 3 < 0 then t.y - 1 else t.y
  let m := if t.m - 3 < 0 then t.m - 3 + 12 else t.m - 3
  y / 400 * 146097 + (fI (y % 400) + cI m + t.d - 1) - 719468
def valid (t : Dt) : Bool := decide (1 ≤ t.m ∧ t.m ≤ 12 ∧ 1 ≤ t.d ∧ t.d ≤ mlen t.y t.m)
theorem m_tab' (r : Int) (h0 : 0 ≤ r) (h : r < 366) : 0 ≤ mI r ∧ mI r ≤ 11 ∧ 0 ≤ r - cI (mI r) ∧ r - cI (mI r) < mlM (mI r) ∧ (r - cI (mI r) = 28 ∧ mI r = 11 ↔ r = 365) := by
  obtain ⟨k, rfl⟩ := Int.eq_ofNat_of_zero_le h0
  exact m_tab k (by omega)
theorem c_tab' (m d : Int) (h0 : 0 ≤ m) (h : m < 12) (h1 : 0 ≤ d) (h2 : d < mlM m) : mI (cI m + d) = m ∧ cI m + d < 366 ∧ (cI m + d = 365 ↔ m = 11 ∧ d = 28) := by
  obtain ⟨k, rfl⟩ := Int.eq_ofNat_of_zero_le h0
  obtain ⟨j, rfl⟩ := Int.eq_ofNat_of_zero_le h1
  have : mlM (k : Int) ≤ 31 := by unfold mlM; split <;> (try split) <;> omega
  exact c_tab k (by omega) j (by omega) h2
theorem mlen_le (y m : Int) : mlen y m ≤ 31 := by unfold mlen; split <;> (try split) <;> (try split) <;> omega
theorem mlen_ge (y m : Int) : 28 ≤ mlen y m := by unfold mlen; split <;> (try split) <;> (try split) <;> omega
theorem mlen_low (Y m : Int) (h0 : 0 ≤ m) (h : m ≤ 9) : mlen Y (m + 3) = mlM m := by unfold mlen mlM; repeat' split; all_goals omega
theorem mlen_high (Y m : Int) (h0 : 10 ≤ m) (h : m ≤ 11) : mlen Y (m + 3 - 12) = if m = 11 then (if lp Y then 29 else 28) else mlM m := by unfold mlen mlM; repeat' split; all_goals first | rfl | omega | (exfalso; omega)
theorem cI_0 (m : Int) (h0 : 0 ≤ m) : 0 ≤ cI m := by unfold cI; omega
theorem lp_of (c y : Int) : lp (c * 400 + y) = lp y := by
  unfold lp
  rw [show (c * 400 + y) % 4 = y % 4 by omega, show (c * 400 + y) % 100 = y % 100 by omega, show (c * 400 + y) % 400 = y % 400 by omega]
theorem lp_next (y : Int) (h0 : 0 ≤ y) (h : y ≤ 399) : lp (y + 1) = true ↔ fI (y + 1) = fI y + 366 ∨ y = 399 := by
  have hs := fI_step y h0
  unfold lp
  simp only [Bool.and_eq_true, Bool.or_eq_true, Bool.not_eq_true', decide_eq_true_eq, decide_eq_false_iff_not]
  split at hs <;> split at hs <;> omega
/-- what a number's parts are -/
theorem parts (n : Int) (h : 0 ≤ n) : ∃ c y r m : Int, 0 ≤ c ∧ 0 ≤ y ∧ y ≤ 399 ∧ 0 ≤ r ∧ (r ≤ 364 ∨ r = 365 ∧ lp (y + 1) = true) ∧ m = mI r ∧ 0 ≤ m ∧ m ≤ 11 ∧ n + 719468 = c * 146097 + fI y + r ∧ (n + 719468) / 146097 = c ∧ yI ((n + 719468) % 146097) = y ∧ (n + 719468) % 146097 = fI y + r := by
  have hz1 : 0 ≤ (n + 719468) % 146097 := by omega
  have hz2 : (n + 719468) % 146097 < 146097 := by omega
  obtain ⟨a, b, c, d⟩ := yI_spec _ hz1 hz2
  have hs := fI_step _ a
  have hl := lp_next _ a b
  generalize ho : (n + 719468) % 146097 = o at *
  generalize hy : yI o = y at *
  have f399 : fI 399 = 145731 := by decide
  have hr : o - fI y ≤ 364 ∨ o - fI y = 365 ∧ lp (y + 1) = true := by
    rcases d with d | ⟨d, d'⟩
    · split at hs <;> split at hs <;> (rcases Decidable.em (o - fI y = 365) with e | e <;> first | (left; omega) | exact .inr ⟨e, hl.2 (.inl (by omega))⟩)
    · subst d; right; exact ⟨by omega, hl.2 (.inr rfl)⟩
  obtain ⟨m1, m2, _⟩ := m_tab' (o - fI y) (by omega) (by rcases hr with h | h <;> omega)
  refine ⟨(n + 719468) / 146097, y, o - fI y, mI (o - fI y), by omega, a, b, by omega, hr, rfl, m1, m2, by omega, rfl, rfl, by omega⟩
theorem civ_eq (n : Int) (h : 0 ≤ n) : ∃ c y r m : Int, 0 ≤ c ∧ 0 ≤ y ∧ y ≤ 399 ∧ 0 ≤ r ∧ (r ≤ 364 ∨ r = 365 ∧ lp (y + 1) = true) ∧ m = mI r ∧ 0 ≤ m ∧ m ≤ 11 ∧ n + 719468 = c * 146097 + fI y + r ∧
    civ n = if m + 3 > 12 then ⟨c * 400 + y + 1, m + 3 - 12, r - cI m + 1⟩ else ⟨c * 400 + y, m + 3, r - cI m + 1⟩ := by
  obtain ⟨c, y, r, m, h1, h2, h3, h4, h5, h6, h7, h8, h9, h10, h11, h12⟩ := parts n h
  refine ⟨c, y, r, m, h1, h2, h3, h4, h5, h6, h7, h8, h9, ?_⟩
  have er : (n + 719468) % 146097 - fI y = r := by omega
  unfold civ
  simp only [h10, h11, er, ← h6]
theorem civ_valid (n : Int) (h : 0 ≤ n) : valid (civ n) = true := by
  obtain ⟨c, y, r, m, h1, h2, h3, h4, h5, h6, h7, h8, h9, he⟩ := civ_eq n h
  obtain ⟨t1, t2, t3, t4, t5⟩ := m_tab' r h4 (by omega)
  rw [← h6] at t3 t4 t5
  unfold valid
  rw [he, decide_eq_true_eq]
  split
  · rename_i hm
    show 1 ≤ m + 3 - 12 ∧ m + 3 - 12 ≤ 12 ∧ 1 ≤ r - cI m + 1 ∧ r - cI m + 1 ≤ mlen (c * 400 + y + 1) (m + 3 - 12)
    rw [mlen_high _ m (by omega) h8, Int.add_assoc, lp_of]
    refine ⟨by omega, by omega, by omega, ?_⟩
    split
    · rename_i e
      subst e
      have : mlM 11 = 29 := by decide
      split
      · omega
      · rename_i hl
        rcases h5 with h5 | h5
        · by_cases e : r - cI 11 = 28
          · have := t5.1 ⟨e, rfl⟩; omega
          · omega
        · exact absurd h5.2 hl
    · omega
  · rename_i hm
    show 1 ≤ m + 3 ∧ m + 3 ≤ 12 ∧ 1 ≤ r - cI m + 1 ∧ r - cI m + 1 ≤ mlen (c * 400 + y) (m + 3)
    rw [mlen_low _ m h7 (by omega)]
    omega
theorem cnt_civ (n : Int) (h : 0 ≤ n) : cnt (civ n) = n := by
  obtain ⟨c, y, r, m, h1, h2, h3, h4, h5, h6, h7, h8, h9, he⟩ := civ_eq n h
  rw [he]
  unfold cnt
  split
  · simp only
    rw [if_pos (by omega), if_pos (by omega), show c * 400 + y + 1 - 1 = c * 400 + y by omega, show (c * 400 + y) / 400 = c by omega, show (c * 400 + y) % 400 = y by omega, show m + 3 - 12 - 3 + 12 = m by omega]
    omega
  · simp only
    rw [if_neg (by omega), if_neg (by omega), show (c * 400 + y) / 400 = c by omega, show (c * 400 + y) % 400 = y by omega, show m + 3 - 3 = m by omega]
    omega
theorem civ_cnt (t : Dt) (hy : 1 ≤ t.y) (hn : 0 ≤ cnt t) (hv : valid t = true) : civ (cnt t) = t := by
  obtain ⟨Y, M, D⟩ := t
  unfold valid at hv
  rw [decide_eq_true_eq] at hv
  obtain ⟨v1, v2, v3, v4⟩ := hv
  simp only at hy v1 v2 v3 v4
  obtain ⟨Y', m, hYm, hm0, hm1, hY0⟩ : ∃ Y' m : Int, (M - 3 < 0 ∧ Y' = Y - 1 ∧ m = M - 3 + 12 ∨ ¬ M - 3 < 0 ∧ Y' = Y ∧ m = M - 3) ∧ 0 ≤ m ∧ m ≤ 11 ∧ 0 ≤ Y' := by
    by_cases h : M - 3 < 0
    · exact ⟨Y - 1, M - 3 + 12, .inl ⟨h, rfl, rfl⟩, by omega, by omega, by omega⟩
    · exact ⟨Y, M - 3, .inr ⟨h, rfl, rfl⟩, by omega, by omega, by omega⟩
  have hc : cnt ⟨Y, M, D⟩ = Y' / 400 * 146097 + (fI (Y' % 400) + cI m + D - 1) - 719468 := by
    unfold cnt
    simp only
    rcases hYm with ⟨h, h1, h2⟩ | ⟨h, h1, h2⟩
    · rw [if_pos h, if_pos h, ← h1, ← h2]
    · rw [if_neg h, if_neg h, ← h1, ← h2]
  rw [hc] at hn ⊢
  have hlen : D - 1 < mlM m ∧ (m = 11 → D - 1 = 28 → lp Y = true) := by
    rcases hYm with ⟨h, h1, h2⟩ | ⟨h, h1, h2⟩
    · have e : M = m + 3 - 12 := by omega
      rw [e, mlen_high _ m (by omega) hm1] at v4
      split at v4
      · rename_i e11
        rw [e11]
        have : mlM 11 = 29 := by decide
        split at v4
        · rename_i hl; exact ⟨by omega, fun _ _ => hl⟩
        · exact ⟨by omega, fun _ _ => by omega⟩
      · exact ⟨by omega, fun e _ => by omega⟩
    · have e : M = m + 3 := by omega
      rw [e, mlen_low _ m hm0 (by omega)] at v4
      exact ⟨by omega, fun e _ => by omega⟩
  obtain ⟨c1, c2, c3⟩ := c_tab' m (D - 1) hm0 (by omega) (by omega) hlen.1
  have hc0 := cI_0 m hm0
  generalize hq : Y' / 400 = q at *
  generalize hp : Y' % 400 = p at *
  have hp0 : 0 ≤ p ∧ p ≤ 399 := by omega
  have hYqp : Y' = q * 400 + p := by omega
  have hlt : fI p + (cI m + (D - 1)) < fI (p + 1) ∨ p = 399 ∧ fI p + (cI m + (D - 1)) = 146096 := by
    have hs := fI_step p hp0.1
    have hl := lp_next p hp0.1 hp0.2
    have f399 : fI 399 = 145731 := by decide
    by_cases e : cI m + (D - 1) = 365
    · obtain ⟨e1, e2⟩ := c3.1 e
      have hl2 := hlen.2 e1 e2
      have hYe : Y = q * 400 + (p + 1) := by
        rcases hYm with ⟨h, h1, h2⟩ | ⟨h, h1, h2⟩ <;> omega
      rw [hYe, lp_of] at hl2
      rcases hl.1 hl2 with h | h
      · left; omega
      · right; subst h; exact ⟨rfl, by omega⟩
    · left; split at hs <;> split at hs <;> omega
  have hy2 := yI_uniq (fI p + (cI m + (D - 1))) p hp0.1 hp0.2 (by omega) hlt
  have hob : 0 ≤ fI p + (cI m + (D - 1)) ∧ fI p + (cI m + (D - 1)) < 146097 := by
    have f0 : fI 0 = 0 := by decide
    have f400 : fI 400 = 146096 := by decide
    have a1 := fI_le (Int.le_refl 0) hp0.1
    have a2 := fI_le (show (0 : Int) ≤ p + 1 by omega) (show p + 1 ≤ 400 by omega)
    rcases hlt with h | h <;> omega
  have e1 : (q * 146097 + (fI p + cI m + D - 1) - 719468 + 719468) % 146097 = fI p + (cI m + (D - 1)) := by omega
  have e2 : (q * 146097 + (fI p + cI m + D - 1) - 719468 + 719468) / 146097 = q := by omega
  unfold civ
  simp only [e1, e2, hy2, show fI p + (cI m + (D - 1)) - fI p = cI m + (D - 1) by omega, c1]
  rcases hYm with ⟨h, h1, h2⟩ | ⟨h, h1, h2⟩
  · rw [if_pos (by omega)]
    congr 1 <;> omega
  · rw [if_neg (by omega)]
    congr 1 <;> omega
/-- the days ahead of a year, since 1970; ahead of a month within its year -/
def sY (y : Int) : Int := 365 * (y - 1970) + ((y - 1) / 4 - (y - 1) / 100 + (y - 1) / 400) - 477
def cM (m : Int) : Int := if m = 1 then 0 else if m = 2 then 31 else if m = 3 then 59 else if m = 4 then 90 else if m = 5 then 120 else if m = 6 then 151 else if m = 7 then 181 else if m = 8 then 212 else if m = 9 then 243 else if m = 10 then 273 else if m = 11 then 304 else 334
def cR (y m : Int) : Int := cM m + if m > 2 then (if lp y then 1 else 0) else 0
theorem lp_iff (y : Int) : lp y = true ↔ y % 4 = 0 ∧ (y % 100 ≠ 0 ∨ y % 400 = 0) := by
  unfold lp; simp
theorem sY_step (y : Int) : sY (y + 1) = sY y + ylen y := by
  unfold sY ylen
  have := lp_iff y
  split
  · rename_i h; rw [this] at h; omega
  · rename_i h; rw [this] at h; omega
theorem sY_0 : sY 1970 = 0 := by decide
theorem ylen_bd (y : Int) : 365 ≤ ylen y ∧ ylen y ≤ 366 := by unfold ylen; split <;> omega
theorem cR_1 (y : Int) : cR y 1 = 0 := by unfold cR cM; simp
theorem cR_step (y m : Int) (h1 : 1 ≤ m) (h2 : m ≤ 11) : cR y (m + 1) = cR y m + mlen y m := by
  have : m = 1 ∨ m = 2 ∨ m = 3 ∨ m = 4 ∨ m = 5 ∨ m = 6 ∨ m = 7 ∨ m = 8 ∨ m = 9 ∨ m = 10 ∨ m = 11 := by omega
  unfold cR mlen
  rcases this with rfl | rfl | rfl | rfl | rfl | rfl | rfl | rfl | rfl | rfl | rfl <;> (simp [cM]; try (split <;> omega))
theorem cR_12 (y : Int) : cR y 12 + mlen y 12 = ylen y := by
  unfold cR mlen ylen; simp [cM]; split <;> omega
theorem cR_0 (y m : Int) : 0 ≤ cR y m := by unfold cR cM; repeat' split; all_goals omega
theorem cnt_eq (y m d : Int) (h1 : 1 ≤ m) (h2 : m ≤ 12) : cnt ⟨y, m, d⟩ = sY y + cR y m + d - 1 := by
  have : m = 1 ∨ m = 2 ∨ m = 3 ∨ m = 4 ∨ m = 5 ∨ m = 6 ∨ m = 7 ∨ m = 8 ∨ m = 9 ∨ m = 10 ∨ m = 11 ∨ m = 12 := by omega
  have hl := lp_iff y
  unfold cnt cR sY
  rcases this with rfl | rfl | rfl | rfl | rfl | rfl | rfl | rfl | rfl | rfl | rfl | rfl <;> (simp [cM, cI, fI]; first | omega | (split <;> (rename_i h; rw [hl] at h; omega)))
/-- a day that has a number is its day -/
theorem civ_of (n y m d : Int) (hy : 1970 ≤ y) (h1 : 1 ≤ m) (h2 : m ≤ 12) (h3 : 1 ≤ d) (h4 : d ≤ mlen y m) (hn : n = sY y + cR y m + d - 1) (h0 : 0 ≤ n) : civ n = ⟨y, m, d⟩ := by
  have h := civ_cnt ⟨y, m, d⟩ (by show 1 ≤ y; omega) (by rw [cnt_eq y m d h1 h2]; omega) (by unfold valid; rw [decide_eq_true_eq]; exact ⟨h1, h2, h3, h4⟩)
  rw [cnt_eq y m d h1 h2, ← hn] at h
  exact h
theorem sY_mono : ∀ (k : Nat) (y : Int), sY y ≤ sY (y + k)
  | 0, y => by simp
  | k + 1, y => by
    have h1 := sY_mono k y
    have h2 := sY_step (y + k)
    have h3 := ylen_bd (y + k)
    have e : y + ((k + 1 : Nat) : Int) = y + k + 1 := by omega
    rw [e]; omega
theorem sY_le {y z : Int} (hz : y ≤ z) : sY y ≤ sY z := by
  have := sY_mono (z - y).toNat y
  have e : y + ((z - y).toNat : Int) = z := by omega
  rwa [e] at this
theorem sY_lt {y z : Int} (hz : y < z) : sY y + 365 ≤ sY z := by
  have h1 := sY_step y
  have h2 := ylen_bd y
  have h3 := sY_le (show y + 1 ≤ z by omega)
  omega
theorem cR_end (y m : Int) (h1 : 1 ≤ m) (h2 : m ≤ 12) : cR y m + mlen y m ≤ ylen y := by
  have : m = 1 ∨ m = 2 ∨ m = 3 ∨ m = 4 ∨ m = 5 ∨ m = 6 ∨ m = 7 ∨ m = 8 ∨ m = 9 ∨ m = 10 ∨ m = 11 ∨ m = 12 := by omega
  unfold cR mlen ylen
  rcases this with rfl | rfl | rfl | rfl | rfl | rfl | rfl | rfl | rfl | rfl | rfl | rfl <;> (simp [cM]; try (split <;> omega))
/-- the parts of a number's day -/
theorem civ_parts (n : Int) (h : 0 ≤ n) : 1970 ≤ (civ n).y ∧ 1 ≤ (civ n).m ∧ (civ n).m ≤ 12 ∧ 1 ≤ (civ n).d ∧ (civ n).d ≤ mlen (civ n).y (civ n).m ∧ n = sY (civ n).y + cR (civ n).y (civ n).m + (civ n).d - 1 := by
  have hv := civ_valid n h
  have hc := cnt_civ n h
  generalize civ n = t at *
  obtain ⟨y, m, d⟩ := t
  unfold valid at hv
  rw [decide_eq_true_eq] at hv
  obtain ⟨v1, v2, v3, v4⟩ := hv
  simp only at v1 v2 v3 v4 ⊢
  rw [cnt_eq y m d v1 v2] at hc
  refine ⟨?_, v1, v2, v3, v4, hc.symm⟩
  rcases Int.lt_or_le y 1970 with hy | hy
  · exfalso
    have := sY_lt hy
    have h2 := cR_end y m v1 v2
    have h3 := ylen_bd y
    have h4 := sY_step y
    have h5 := sY_le (show y + 1 ≤ 1970 by omega)
    rw [sY_0] at h5
    omega
  · exact hy
/-- the next number's day is the next one -/
theorem civ_next (n : Int) (h : 0 ≤ n) : civ (n + 1) = ⟨(civ n).y, (civ n).m, (civ n).d + 1⟩ ∨ (28 ≤ (civ n).d ∧ (civ (n + 1)).d = 1 ∧ ((civ (n + 1)).y = (civ n).y ∧ (civ (n + 1)).m = (civ n).m + 1 ∨ (civ (n + 1)).y = (civ n).y + 1 ∧ (civ (n + 1)).m = 1 ∧ (civ n).m = 12)) := by
  obtain ⟨p1, p2, p3, p4, p5, p6⟩ := civ_parts n h
  generalize civ n = t at *
  obtain ⟨y, m, d⟩ := t
  simp only at p1 p2 p3 p4 p5 p6 ⊢
  by_cases hd : d + 1 ≤ mlen y m
  · left; exact civ_of (n + 1) y m (d + 1) p1 p2 p3 (by omega) hd (by omega) (by omega)
  · right
    have hg := mlen_ge y m
    refine ⟨by omega, ?_⟩
    by_cases hm : m ≤ 11
    · have hs := cR_step y m p2 hm
      have := civ_of (n + 1) y (m + 1) 1 p1 (by omega) (by omega) (by omega) (by have := mlen_ge y (m + 1); omega) (by omega) (by omega)
      rw [this]; exact ⟨rfl, .inl ⟨rfl, rfl⟩⟩
    · have e : m = 12 := by omega
      subst e
      have hs := cR_12 y
      have h2 := sY_step y
      have h3 := cR_1 (y + 1)
      have := civ_of (n + 1) (y + 1) 1 1 (by omega) (by omega) (by omega) (by omega) (by have := mlen_ge (y + 1) 1; omega) (by omega) (by omega)
      rw [this]; exact ⟨rfl, .inr ⟨rfl, rfl, rfl⟩⟩
end Go.Proofs.YtlikmdmdmljiaaaDoor.Cal
