/- The document's numbers of which there are 256: walks. -/
import Derived.Test.YtdgnhnhmcobfkaaGfWalk
namespace Go.Proofs.Ytdgnhnhmcobfkaa
open Go.RowKit
set_option linter.unusedVariables false
theorem gG_twice (k : Nat) : ∀ a c, a < 256 → gTwice (gG k a c) = gG k (gTwice a) c := by
  induction k with
  | zero => intro a c _; rfl
  | succ k ih =>
    intro a c ha
    simp only [gG]
    rw [gTwice_xor _ (by split <;> omega) _ (gG_lt k _ _ (gTwice_lt ha)), ih _ _ (gTwice_lt ha)]
    congr 1
    split <;> rfl
theorem gG_top (k : Nat) : ∀ a c, c < 2 ^ k → gG (k + 1) a c = gG k a c := by
  induction k with
  | zero => intro a c hc; obtain rfl : c = 0 := by simpa using hc
            simp [gG]
  | succ k ih =>
    intro a c hc
    have hp : 2 ^ (k + 1) = 2 ^ k * 2 := Nat.pow_succ 2 k
    rw [gG, ih _ _ (by omega), gG]
/-- a number times b, out of it times half of b -/
theorem gMul_half (a b : Nat) (ha : a < 256) (hb : b < 256) : gMul a b = gTwice (gMul a (b / 2)) ^^^ (if b % 2 = 1 then a else 0) := by
  rw [Nat.xor_comm]
  show gG 8 a b = _ ^^^ gTwice (gG 8 a (b / 2))
  rw [show gG 8 a (b / 2) = gG 7 a (b / 2) from gG_top 7 _ _ (by omega), gG_twice 7 _ _ ha]
  rfl
def GAt (a b j p : Nat) : Prop := gMul a (b / 2 ^ j) = p
theorem and_sh (b d : Nat) (hb : b < 256) : bits .and .u8 ((b : Int) / (d : Int)) (1 : Int) = ((b / d % 2 : Nat) : Int) := by
  rw [← and1u8 (b / d) (Nat.lt_of_le_of_lt (Nat.div_le_self b d) hb)]; rfl
theorem half_pow (b j : Nat) : b / 2 ^ (j + 1) = b / 2 ^ j / 2 := by rw [Nat.pow_succ, Nat.div_div_eq_div_mul]
set_option maxRecDepth 20000 in
set_option maxHeartbeats 1000000 in
theorem refMul_any (a b : Nat) (ha : a < 256) (hb : b < 256) (w : World) : Calls Try.prog 15 #[.int .u8 (a : Int), .int .u8 (b : Int)] w fun e w' => e = .returned (.int .u8 (gMul a b : Nat)) ∧ w = w' := by
  have H0 : GAt a b 8 0 := by
    have : b / 2 ^ 8 = 0 := by omega
    unfold GAt; rw [this, gMul_zero]
  go_enter Try.func15, Try.ntmps15
  go_wp2
  go_loop [5, 6] (fun p i => ∃ (p' j : Nat), p = .int .u8 (p' : Int) ∧ i = .int .i64 ((j : Int) - 1) ∧ p' < 256 ∧ j ≤ 8 ∧ GAt a b j p') (fun _ i => (intOf i + 1).toNat)
  case atStart => exact ⟨0, 8, rfl, rfl, by decide, by decide, H0⟩
  case round =>
    obtain ⟨p, j, rfl, rfl, hp, hj, HK⟩ := hrel
    by_cases h0 : j = 0
    · subst h0
      have hv : gMul a b = p := by have := HK; unfold GAt at this; simpa using this
      go_wp2
      go_ret
      exact ⟨by first | rfl | rw [hv], rfl⟩
    · obtain ⟨k, rfl⟩ : ∃ k, j = k + 1 := ⟨j - 1, by omega⟩
      have e1 : ((k + 1 : Nat) : Int) - 1 = (k : Int) := by omega
      rw [e1]
      clear e1 h0
      have HV : GAt a b k (gTwice p ^^^ (if b / 2 ^ k % 2 = 1 then a else 0)) := by
        unfold GAt at HK ⊢
        have hbk : b / 2 ^ k < 256 := Nat.lt_of_le_of_lt (Nat.div_le_self b _) hb
        rw [half_pow] at HK
        rw [gMul_half a (b / 2 ^ k) ha hbk, HK]
      have ht := gTwice_lt hp
      have hx := x8n (gTwice p) a ht ha
      have hxl := xlt ht ha
      clear HK H0
      have hk8 : k = 0 ∨ k = 1 ∨ k = 2 ∨ k = 3 ∨ k = 4 ∨ k = 5 ∨ k = 6 ∨ k = 7 := by omega
      clear hj
      by_cases h1 : 128 ≤ p
      · have e2 := gTwice_high hp h1
        generalize gTwice p = t at *
        rcases hk8 with rfl | rfl | rfl | rfl | rfl | rfl | rfl | rfl
        · have h2 : bits .and .u8 ((b : Int)) 1 = ((b % 2 : Nat) : Int) := and1u8 b hb
          have HV : GAt a b 0 (t ^^^ (if b % 2 = 1 then a else 0)) := by have := HV; rwa [Nat.pow_zero, Nat.div_one] at this
          rcases Nat.mod_two_eq_zero_or_one (b) with e | e
          · rw [e] at h2 HV
            replace HV : GAt a b 0 (t) := by simpa using HV
            clear e
            go_wp2
            go_round
            case rel => exact ⟨t, 0, rfl, rfl, ht, by decide, HV⟩
            case measure => decide
          · rw [e] at h2 HV
            replace HV : GAt a b 0 (t ^^^ a) := by simpa using HV
            generalize t ^^^ a = q at *
            clear e
            go_wp2
            go_round
            case rel => exact ⟨q, 0, rfl, rfl, hxl, by decide, HV⟩
            case measure => decide
        · have h2 : bits .and .u8 ((b : Int) / 2) 1 = ((b / 2 % 2 : Nat) : Int) := and_sh b 2 hb
          have HV : GAt a b 1 (t ^^^ (if b / 2 % 2 = 1 then a else 0)) := HV
          rcases Nat.mod_two_eq_zero_or_one (b / 2) with e | e
          · rw [e] at h2 HV
            replace HV : GAt a b 1 (t) := by simpa using HV
            clear e
            go_wp2
            go_round
            case rel => exact ⟨t, 1, rfl, rfl, ht, by decide, HV⟩
            case measure => decide
          · rw [e] at h2 HV
            replace HV : GAt a b 1 (t ^^^ a) := by simpa using HV
            generalize t ^^^ a = q at *
            clear e
            go_wp2
            go_round
            case rel => exact ⟨q, 1, rfl, rfl, hxl, by decide, HV⟩
            case measure => decide
        · have h2 : bits .and .u8 ((b : Int) / 4) 1 = ((b / 4 % 2 : Nat) : Int) := and_sh b 4 hb
          have HV : GAt a b 2 (t ^^^ (if b / 4 % 2 = 1 then a else 0)) := HV
          rcases Nat.mod_two_eq_zero_or_one (b / 4) with e | e
          · rw [e] at h2 HV
            replace HV : GAt a b 2 (t) := by simpa using HV
            clear e
            go_wp2
            go_round
            case rel => exact ⟨t, 2, rfl, rfl, ht, by decide, HV⟩
            case measure => decide
          · rw [e] at h2 HV
            replace HV : GAt a b 2 (t ^^^ a) := by simpa using HV
            generalize t ^^^ a = q at *
            clear e
            go_wp2
            go_round
            case rel => exact ⟨q, 2, rfl, rfl, hxl, by decide, HV⟩
            case measure => decide
        · have h2 : bits .and .u8 ((b : Int) / 8) 1 = ((b / 8 % 2 : Nat) : Int) := and_sh b 8 hb
          have HV : GAt a b 3 (t ^^^ (if b / 8 % 2 = 1 then a else 0)) := HV
          rcases Nat.mod_two_eq_zero_or_one (b / 8) with e | e
          · rw [e] at h2 HV
            replace HV : GAt a b 3 (t) := by simpa using HV
            clear e
            go_wp2
            go_round
            case rel => exact ⟨t, 3, rfl, rfl, ht, by decide, HV⟩
            case measure => decide
          · rw [e] at h2 HV
            replace HV : GAt a b 3 (t ^^^ a) := by simpa using HV
            generalize t ^^^ a = q at *
            clear e
            go_wp2
            go_round
            case rel => exact ⟨q, 3, rfl, rfl, hxl, by decide, HV⟩
            case measure => decide
        · have h2 : bits .and .u8 ((b : Int) / 16) 1 = ((b / 16 % 2 : Nat) : Int) := and_sh b 16 hb
          have HV : GAt a b 4 (t ^^^ (if b / 16 % 2 = 1 then a else 0)) := HV
          rcases Nat.mod_two_eq_zero_or_one (b / 16) with e | e
          · rw [e] at h2 HV
            replace HV : GAt a b 4 (t) := by simpa using HV
            clear e
            go_wp2
            go_round
            case rel => exact ⟨t, 4, rfl, rfl, ht, by decide, HV⟩
            case measure => decide
          · rw [e] at h2 HV
            replace HV : GAt a b 4 (t ^^^ a) := by simpa using HV
            generalize t ^^^ a = q at *
            clear e
            go_wp2
            go_round
            case rel => exact ⟨q, 4, rfl, rfl, hxl, by decide, HV⟩
            case measure => decide
        · have h2 : bits .and .u8 ((b : Int) / 32) 1 = ((b / 32 % 2 : Nat) : Int) := and_sh b 32 hb
          have HV : GAt a b 5 (t ^^^ (if b / 32 % 2 = 1 then a else 0)) := HV
          rcases Nat.mod_two_eq_zero_or_one (b / 32) with e | e
          · rw [e] at h2 HV
            replace HV : GAt a b 5 (t) := by simpa using HV
            clear e
            go_wp2
            go_round
            case rel => exact ⟨t, 5, rfl, rfl, ht, by decide, HV⟩
            case measure => decide
          · rw [e] at h2 HV
            replace HV : GAt a b 5 (t ^^^ a) := by simpa using HV
            generalize t ^^^ a = q at *
            clear e
            go_wp2
            go_round
            case rel => exact ⟨q, 5, rfl, rfl, hxl, by decide, HV⟩
            case measure => decide
        · have h2 : bits .and .u8 ((b : Int) / 64) 1 = ((b / 64 % 2 : Nat) : Int) := and_sh b 64 hb
          have HV : GAt a b 6 (t ^^^ (if b / 64 % 2 = 1 then a else 0)) := HV
          rcases Nat.mod_two_eq_zero_or_one (b / 64) with e | e
          · rw [e] at h2 HV
            replace HV : GAt a b 6 (t) := by simpa using HV
            clear e
            go_wp2
            go_round
            case rel => exact ⟨t, 6, rfl, rfl, ht, by decide, HV⟩
            case measure => decide
          · rw [e] at h2 HV
            replace HV : GAt a b 6 (t ^^^ a) := by simpa using HV
            generalize t ^^^ a = q at *
            clear e
            go_wp2
            go_round
            case rel => exact ⟨q, 6, rfl, rfl, hxl, by decide, HV⟩
            case measure => decide
        · have h2 : bits .and .u8 ((b : Int) / 128) 1 = ((b / 128 % 2 : Nat) : Int) := and_sh b 128 hb
          have HV : GAt a b 7 (t ^^^ (if b / 128 % 2 = 1 then a else 0)) := HV
          rcases Nat.mod_two_eq_zero_or_one (b / 128) with e | e
          · rw [e] at h2 HV
            replace HV : GAt a b 7 (t) := by simpa using HV
            clear e
            go_wp2
            go_round
            case rel => exact ⟨t, 7, rfl, rfl, ht, by decide, HV⟩
            case measure => decide
          · rw [e] at h2 HV
            replace HV : GAt a b 7 (t ^^^ a) := by simpa using HV
            generalize t ^^^ a = q at *
            clear e
            go_wp2
            go_round
            case rel => exact ⟨q, 7, rfl, rfl, hxl, by decide, HV⟩
            case measure => decide
      · have e2 : (p : Int) * 2 = ((gTwice p : Nat) : Int) := by unfold gTwice; rw [if_neg h1]; omega
        generalize gTwice p = t at *
        rcases hk8 with rfl | rfl | rfl | rfl | rfl | rfl | rfl | rfl
        · have h2 : bits .and .u8 ((b : Int)) 1 = ((b % 2 : Nat) : Int) := and1u8 b hb
          have HV : GAt a b 0 (t ^^^ (if b % 2 = 1 then a else 0)) := by have := HV; rwa [Nat.pow_zero, Nat.div_one] at this
          rcases Nat.mod_two_eq_zero_or_one (b) with e | e
          · rw [e] at h2 HV
            replace HV : GAt a b 0 (t) := by simpa using HV
            clear e
            go_wp2
            go_round
            case rel => exact ⟨t, 0, rfl, rfl, ht, by decide, HV⟩
            case measure => decide
          · rw [e] at h2 HV
            replace HV : GAt a b 0 (t ^^^ a) := by simpa using HV
            generalize t ^^^ a = q at *
            clear e
            go_wp2
            go_round
            case rel => exact ⟨q, 0, rfl, rfl, hxl, by decide, HV⟩
            case measure => decide
        · have h2 : bits .and .u8 ((b : Int) / 2) 1 = ((b / 2 % 2 : Nat) : Int) := and_sh b 2 hb
          have HV : GAt a b 1 (t ^^^ (if b / 2 % 2 = 1 then a else 0)) := HV
          rcases Nat.mod_two_eq_zero_or_one (b / 2) with e | e
          · rw [e] at h2 HV
            replace HV : GAt a b 1 (t) := by simpa using HV
            clear e
            go_wp2
            go_round
            case rel => exact ⟨t, 1, rfl, rfl, ht, by decide, HV⟩
            case measure => decide
          · rw [e] at h2 HV
            replace HV : GAt a b 1 (t ^^^ a) := by simpa using HV
            generalize t ^^^ a = q at *
            clear e
            go_wp2
            go_round
            case rel => exact ⟨q, 1, rfl, rfl, hxl, by decide, HV⟩
            case measure => decide
        · have h2 : bits .and .u8 ((b : Int) / 4) 1 = ((b / 4 % 2 : Nat) : Int) := and_sh b 4 hb
          have HV : GAt a b 2 (t ^^^ (if b / 4 % 2 = 1 then a else 0)) := HV
          rcases Nat.mod_two_eq_zero_or_one (b / 4) with e | e
          · rw [e] at h2 HV
            replace HV : GAt a b 2 (t) := by simpa using HV
            clear e
            go_wp2
            go_round
            case rel => exact ⟨t, 2, rfl, rfl, ht, by decide, HV⟩
            case measure => decide
          · rw [e] at h2 HV
            replace HV : GAt a b 2 (t ^^^ a) := by simpa using HV
            generalize t ^^^ a = q at *
            clear e
            go_wp2
            go_round
            case rel => exact ⟨q, 2, rfl, rfl, hxl, by decide, HV⟩
            case measure => decide
        · have h2 : bits .and .u8 ((b : Int) / 8) 1 = ((b / 8 % 2 : Nat) : Int) := and_sh b 8 hb
          have HV : GAt a b 3 (t ^^^ (if b / 8 % 2 = 1 then a else 0)) := HV
          rcases Nat.mod_two_eq_zero_or_one (b / 8) with e | e
          · rw [e] at h2 HV
            replace HV : GAt a b 3 (t) := by simpa using HV
            clear e
            go_wp2
            go_round
            case rel => exact ⟨t, 3, rfl, rfl, ht, by decide, HV⟩
            case measure => decide
          · rw [e] at h2 HV
            replace HV : GAt a b 3 (t ^^^ a) := by simpa using HV
            generalize t ^^^ a = q at *
            clear e
            go_wp2
            go_round
            case rel => exact ⟨q, 3, rfl, rfl, hxl, by decide, HV⟩
            case measure => decide
        · have h2 : bits .and .u8 ((b : Int) / 16) 1 = ((b / 16 % 2 : Nat) : Int) := and_sh b 16 hb
          have HV : GAt a b 4 (t ^^^ (if b / 16 % 2 = 1 then a else 0)) := HV
          rcases Nat.mod_two_eq_zero_or_one (b / 16) with e | e
          · rw [e] at h2 HV
            replace HV : GAt a b 4 (t) := by simpa using HV
            clear e
            go_wp2
            go_round
            case rel => exact ⟨t, 4, rfl, rfl, ht, by decide, HV⟩
            case measure => decide
          · rw [e] at h2 HV
            replace HV : GAt a b 4 (t ^^^ a) := by simpa using HV
            generalize t ^^^ a = q at *
            clear e
            go_wp2
            go_round
            case rel => exact ⟨q, 4, rfl, rfl, hxl, by decide, HV⟩
            case measure => decide
        · have h2 : bits .and .u8 ((b : Int) / 32) 1 = ((b / 32 % 2 : Nat) : Int) := and_sh b 32 hb
          have HV : GAt a b 5 (t ^^^ (if b / 32 % 2 = 1 then a else 0)) := HV
          rcases Nat.mod_two_eq_zero_or_one (b / 32) with e | e
          · rw [e] at h2 HV
            replace HV : GAt a b 5 (t) := by simpa using HV
            clear e
            go_wp2
            go_round
            case rel => exact ⟨t, 5, rfl, rfl, ht, by decide, HV⟩
            case measure => decide
          · rw [e] at h2 HV
            replace HV : GAt a b 5 (t ^^^ a) := by simpa using HV
            generalize t ^^^ a = q at *
            clear e
            go_wp2
            go_round
            case rel => exact ⟨q, 5, rfl, rfl, hxl, by decide, HV⟩
            case measure => decide
        · have h2 : bits .and .u8 ((b : Int) / 64) 1 = ((b / 64 % 2 : Nat) : Int) := and_sh b 64 hb
          have HV : GAt a b 6 (t ^^^ (if b / 64 % 2 = 1 then a else 0)) := HV
          rcases Nat.mod_two_eq_zero_or_one (b / 64) with e | e
          · rw [e] at h2 HV
            replace HV : GAt a b 6 (t) := by simpa using HV
            clear e
            go_wp2
            go_round
            case rel => exact ⟨t, 6, rfl, rfl, ht, by decide, HV⟩
            case measure => decide
          · rw [e] at h2 HV
            replace HV : GAt a b 6 (t ^^^ a) := by simpa using HV
            generalize t ^^^ a = q at *
            clear e
            go_wp2
            go_round
            case rel => exact ⟨q, 6, rfl, rfl, hxl, by decide, HV⟩
            case measure => decide
        · have h2 : bits .and .u8 ((b : Int) / 128) 1 = ((b / 128 % 2 : Nat) : Int) := and_sh b 128 hb
          have HV : GAt a b 7 (t ^^^ (if b / 128 % 2 = 1 then a else 0)) := HV
          rcases Nat.mod_two_eq_zero_or_one (b / 128) with e | e
          · rw [e] at h2 HV
            replace HV : GAt a b 7 (t) := by simpa using HV
            clear e
            go_wp2
            go_round
            case rel => exact ⟨t, 7, rfl, rfl, ht, by decide, HV⟩
            case measure => decide
          · rw [e] at h2 HV
            replace HV : GAt a b 7 (t ^^^ a) := by simpa using HV
            generalize t ^^^ a = q at *
            clear e
            go_wp2
            go_round
            case rel => exact ⟨q, 7, rfl, rfl, hxl, by decide, HV⟩
            case measure => decide
end Go.Proofs.Ytdgnhnhmcobfkaa
