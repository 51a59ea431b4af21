/- Plain laws of numbers as bytes. No program is walked here. -/
import Derived.Test.YtjgjhjecgdndjaaVarintText
namespace Go.Proofs.Ytjgjhjecgdndjaa
open Go.RowKit
theorem vGo_put (k : Nat) : ∀ (m : Nat) (q behind : List UInt8), m ≤ k → vHigh q → (0 < q.length → 0 < m) → m * 2 ^ (7 * q.length) < 18446744073709551616 → q.length ≤ 9 →
    vGo q (vPut m ++ behind) = (vNum (q ++ vPut m), q.length + (vPut m).length, 0) := by
  induction k with
  | zero =>
    intro m q behind hm hh h0 hlt hl
    obtain rfl : m = 0 := by omega
    have hq : q.length = 0 := by omega
    rw [vPut_small 0 (by decide)]
    rw [List.cons_append, vGo, if_pos (.inr (by decide)), vOut, if_neg (by omega), if_neg (by omega)]
    simp
  | succ k ih =>
    intro m q behind hm hh h0 hlt hl
    by_cases h : m < 128
    · rw [vPut_small m h]
      have hc : (UInt8.ofNat m).toNat = m := by simp; omega
      rw [List.cons_append, vGo, if_pos (.inr (by omega)), vOut, if_neg ?_, if_neg (by omega)]
      · simp
      · rintro ⟨h9, h1⟩
        rw [h9] at hlt
        rw [hc] at h1
        have : 2 * 2 ^ (7 * 9) ≤ m * 2 ^ (7 * 9) := Nat.mul_le_mul_right _ (by omega)
        omega
    · rw [vPut_step m (by omega)]
      have hc : (UInt8.ofNat (m % 128 + 128)).toNat = m % 128 + 128 := by simp; omega
      have hl9 : q.length ≠ 9 := by
        intro h9
        rw [h9] at hlt
        have : 2 * 2 ^ (7 * 9) ≤ m * 2 ^ (7 * 9) := Nat.mul_le_mul_right _ (by omega)
        omega
      rw [List.cons_append, vGo, if_neg (by unfold vEnds; omega)]
      rw [ih (m / 128) (q ++ [UInt8.ofNat (m % 128 + 128)]) behind (by omega) (vHigh_snoc hh (by omega)) (by intro _; omega) ?_ (by simp; omega)]
      · simp; omega
      · simp only [List.length_append, List.length_singleton]
        rw [show 7 * (q.length + 1) = 7 * q.length + 7 by omega, Nat.pow_add]
        have h1 : m / 128 * (2 ^ (7 * q.length) * 2 ^ 7) = m / 128 * 128 * 2 ^ (7 * q.length) := by
          rw [Nat.mul_comm (2 ^ (7 * q.length)), ← Nat.mul_assoc]
        rw [h1]
        exact Nat.lt_of_le_of_lt (Nat.mul_le_mul_right _ (Nat.div_mul_le_self m 128)) hlt
theorem vNum_put (k : Nat) : ∀ m, m ≤ k → vNum (vPut m) = m := by
  induction k with
  | zero => intro m h; obtain rfl : m = 0 := by omega
            rfl
  | succ k ih =>
    intro m h
    by_cases h1 : m < 128
    · rw [vPut_small m h1]; simp [vNum]; omega
    · rw [vPut_step m (by omega), vNum, ih (m / 128) (by omega)]
      have hc : (UInt8.ofNat (m % 128 + 128)).toNat = m % 128 + 128 := by simp; omega
      rw [hc]; omega
/-- a number's bytes, whatever is behind, are read as it -/
theorem vTake_put (n : Nat) (hn : n < 18446744073709551616) (behind : List UInt8) : vTake (vPut n ++ behind) = (n, (vPut n).length, 0) := by
  have := vGo_put n n [] behind (Nat.le_refl _) (by intro x hx; simp at hx) (by simp) (by simpa using hn) (by simp)
  rw [vTake, this]
  simp [vNum_put n n (Nat.le_refl _)]
theorem vPut_num : ∀ (q : List UInt8) (c : UInt8), vHigh q → c.toNat < 128 → (0 < q.length → 0 < c.toNat) → vPut (vNum (q ++ [c])) = q ++ [c] ∧ (0 < c.toNat → 0 < vNum (q ++ [c]))
  | [], c, _, hc, _ => by
    have e : vNum ([] ++ [c]) = c.toNat := by simp [vNum]; omega
    rw [e, vPut_small _ hc]
    exact ⟨by simp, fun h => h⟩
  | d :: q, c, hh, hc, h0 => by
    obtain ⟨ih1, ih2⟩ := vPut_num q c (fun x hx => hh x (by simp [hx])) hc (fun h => h0 (by simp))
    have hd := hh d (by simp)
    have hd2 := d.toNat_lt
    have h3 := ih2 (h0 (by simp))
    simp only [List.cons_append, vNum]
    refine ⟨?_, fun _ => by omega⟩
    rw [vPut_step _ (by omega)]
    have e1 : (d.toNat % 128 + 128 * vNum (q ++ [c])) / 128 = vNum (q ++ [c]) := by omega
    have e2 : (d.toNat % 128 + 128 * vNum (q ++ [c])) % 128 + 128 = d.toNat := by omega
    rw [e1, e2, ih1]
    simp
theorem vGo_back (s : List UInt8) : ∀ q, vHigh q → (vGo q s).2.2 = 0 → ∃ p c rest, s = p ++ c :: rest ∧ vHigh p ∧ c.toNat < 128 ∧ (0 < q.length + p.length → 0 < c.toNat) ∧ vGo q s = (vNum (q ++ p ++ [c]), q.length + p.length + 1, 0) := by
  induction s with
  | nil => intro q _ h; simp [vGo] at h
  | cons c s ih =>
    intro q hh h
    rw [vGo] at h ⊢
    by_cases he : vEnds q c
    · rw [if_pos he] at h ⊢
      unfold vOut at h ⊢
      by_cases h1 : q.length = 9 ∧ 1 < c.toNat
      · rw [if_pos h1] at h; simp at h
      · rw [if_neg h1] at h ⊢
        by_cases h2 : c.toNat = 0 ∧ 0 < q.length
        · rw [if_pos h2] at h; simp at h
        · rw [if_neg h2]
          exact ⟨[], c, s, rfl, by intro x hx; simp at hx, by unfold vEnds at he; omega, by simp; omega, by simp⟩
    · rw [if_neg he] at h ⊢
      have hc : 128 ≤ c.toNat := by unfold vEnds at he; omega
      obtain ⟨p, d, rest, h1, h2, h3, h4, h5⟩ := ih _ (vHigh_snoc hh hc) h
      refine ⟨c :: p, d, rest, by rw [h1]; rfl, ?_, h3, by simp at h4 ⊢; omega, by rw [h5]; simp; omega⟩
      intro x hx
      rcases List.mem_cons.1 hx with rfl | hx
      · exact hc
      · exact h2 x hx
/-- bytes that are read are that number's -/
theorem vTake_back (s : List UInt8) (h : (vTake s).2.2 = 0) : vPut (vTake s).1 = s.take (vTake s).2.1 := by
  obtain ⟨p, c, rest, h1, h2, h3, h4, h5⟩ := vGo_back s [] (by intro x hx; simp at hx) h
  rw [vTake, h5]
  simp only [List.nil_append, List.length_nil, Nat.zero_add]
  rw [(vPut_num p c h2 h3 (by simpa using h4)).1, h1]
  have : p ++ c :: rest = (p ++ [c]) ++ rest := by simp
  rw [this, List.take_left' (by simp)]
/-- a greater number has no fewer bytes -/
theorem vPut_mono (k : Nat) : ∀ n m, n ≤ m → m ≤ k → (vPut n).length ≤ (vPut m).length := by
  induction k with
  | zero => intro n m h1 h2; obtain rfl : n = 0 := by omega
            obtain rfl : m = 0 := by omega
            exact Nat.le_refl _
  | succ k ih =>
    intro n m h1 h2
    by_cases hn : n < 128
    · rw [vPut_small n hn]; exact vPut_pos m
    · rw [vPut_step n (by omega), vPut_step m (by omega)]
      have := ih (n / 128) (m / 128) (by omega) (by omega)
      simpa using this
/-- a text with its length, whatever is behind, is read as it -/
theorem vTakeText_put (s behind : List UInt8) (h : s.length ≤ 65536) : vTakeText (vPutText s ++ behind) = (s, (vPutText s).length, 0) := by
  have e : vPutText s = vPut s.length ++ s := by unfold vPutText; rw [if_neg (by omega)]
  have ht := vTake_put s.length (by omega) (s ++ behind)
  unfold vTakeText
  rw [e, List.append_assoc, ht]
  rw [if_neg (by simp), if_neg (by simpa using h), if_neg (by simp)]
  simp
/-- a text that is read, with its length, is what was read -/
theorem vTakeText_back (t : List UInt8) (h : (vTakeText t).2.2 = 0) : (vTakeText t).2.1 ≤ t.length ∧ vPutText (vTakeText t).1 = t.take (vTakeText t).2.1 := by
  unfold vTakeText at h ⊢
  by_cases h1 : (vTake t).2.2 ≠ 0
  · rw [if_pos h1] at h; exact absurd h h1
  · rw [if_neg h1] at h ⊢
    have h1 : (vTake t).2.2 = 0 := by omega
    by_cases h2 : 65536 < (vTake t).1
    · rw [if_pos h2] at h; simp at h
    · rw [if_neg h2] at h ⊢
      by_cases h3 : t.length - (vTake t).2.1 < (vTake t).1
      · rw [if_pos h3] at h; simp at h
      · rw [if_neg h3]
        obtain ⟨hk, _⟩ := vTake_le t h1
        have hb := vTake_back t h1
        dsimp only
        have hlen : ((t.drop (vTake t).2.1).take (vTake t).1).length = (vTake t).1 := by simp; omega
        refine ⟨by omega, ?_⟩
        unfold vPutText
        rw [if_neg (by omega), hlen, hb, List.take_add]
theorem vTakeText_err (t : List UInt8) (h : (vTakeText t).2.2 ≠ 0) : (vTakeText t).1 = [] ∧ (vTakeText t).2.1 = 0 := by
  unfold vTakeText at h ⊢
  split
  · exact ⟨rfl, rfl⟩
  · split
    · exact ⟨rfl, rfl⟩
    · split
      · exact ⟨rfl, rfl⟩
      · rename_i h1 h2 h3; rw [if_neg h1, if_neg h2, if_neg h3] at h; exact absurd rfl h
end Go.Proofs.Ytjgjhjecgdndjaa
