/- The numbers of which there are 256: walks. -/
import Derived.Test.YtdgnhnhmcobfkaaGfSpec
import Derived.Test.YtdgnhnhmcobfkaaWords
import Derived.Test.YtdgnhnhmcobfkaaProg
import Derived.WalkKit
import Derived.WalkSpells
import Derived.WalkLawsBesides
import Derived.Laws.DeepNot64
import Derived.Lib.Hide
import Derived.IntWalk
import Derived.LoopTactic
import Derived.Below
import Derived.Deep.QuietTactic
import Derived.BigQuiet
namespace Go.Proofs.Ytdgnhnhmcobfkaa
open Go.RowKit
set_option linter.unusedVariables false
theorem x8n (a b : Nat) (ha : a < 256) (hb : b < 256) : bits .xor .u8 (a : Int) (b : Int) = ((a ^^^ b : Nat) : Int) := by
  rw [u8_xor _ _ (by omega) (by omega) (by omega) (by omega)]; simp
theorem and128 (a : Nat) (ha : a < 256) (h : 128 ≤ a) : bits .and .u8 (a : Int) (128 : Int) = 128 := by
  rw [u8_and _ _ (by omega) (by omega) (by omega) (by omega)]
  have : ∀ a < 256, 128 ≤ a → a &&& 128 = 128 := by decide +kernel
  have h2 := this a ha h
  show ((a &&& 128 : Nat) : Int) = 128
  rw [h2]; rfl
theorem and128' (a : Nat) (ha : a < 256) (h : ¬ 128 ≤ a) : bits .and .u8 (a : Int) (128 : Int) = 0 := by
  rw [u8_and _ _ (by omega) (by omega) (by omega) (by omega)]
  have : ∀ a < 256, ¬ 128 ≤ a → a &&& 128 = 0 := by decide +kernel
  have h2 := this a ha h
  show ((a &&& 128 : Nat) : Int) = 0
  rw [h2]; rfl
theorem and1u8 (a : Nat) (ha : a < 256) : bits .and .u8 (a : Int) (1 : Int) = ((a % 2 : Nat) : Int) := by
  rw [u8_and _ _ (by omega) (by omega) (by omega) (by omega)]
  show ((a &&& 1 : Nat) : Int) = _
  rw [Nat.and_one_is_mod]
theorem gTwice_high {a : Nat} (ha : a < 256) (h : 128 ≤ a) : bits .xor .u8 ((a : Int) * 2 % 256) (29 : Int) = ((gTwice a : Nat) : Int) := by
  have e : (a : Int) * 2 % 256 = ((a * 2 % 256 : Nat) : Int) := by omega
  rw [e, show (29 : Int) = ((29 : Nat) : Int) from rfl, x8n _ _ (Nat.mod_lt _ (by decide)) (by decide), gTwice, if_pos h]
set_option maxHeartbeats 400000 in
theorem twice_any (a : Nat) (ha : a < 256) (w : World) : Calls Try.prog 61 #[.int .u8 (a : Int)] w fun e w' => e = .returned (.int .u8 (gTwice a : Nat)) ∧ w = w' := by
  by_cases h : 128 ≤ a
  · have h1 := and128 a ha h
    go_enter Try.func61, Try.ntmps61
    go_wp2
    go_ret
    exact ⟨ret_int (gTwice_high ha h), rfl⟩
  · have h1 := and128' a ha h
    go_enter Try.func61, Try.ntmps61
    go_wp2
    go_ret
    exact ⟨ret_int (by unfold gTwice; rw [if_neg h]; omega), rfl⟩
theorem gG_zero (k : Nat) : ∀ a, gG k a 0 = 0 := by
  induction k with
  | zero => intro a; rfl
  | succ k ih => intro a; simp only [gG]; rw [ih]; simp
set_option maxHeartbeats 400000 in
theorem times_any (a b : Nat) (ha : a < 256) (hb : b < 256) (w : World) : Calls Try.prog 38 #[.int .u8 (a : Int), .int .u8 (b : Int)] w fun e w' => e = .returned (.int .u8 (gMul a b : Nat)) ∧ w = w' := by
  have hx := @x8n
  have H0 : Hid (∃ k, b < 2 ^ k ∧ gMul a b = 0 ^^^ gG k a b) := ⟨8, by simpa using hb, by rw [Nat.zero_xor]; rfl⟩
  clear hx
  go_enter Try.func38, Try.ntmps38
  go_wp2
  go_loop [0, 1, 5] (fun x y p => ∃ x' y' p' : Nat, x = .int .u8 (x' : Int) ∧ y = .int .u8 (y' : Int) ∧ p = .int .u8 (p' : Int) ∧ x' < 256 ∧ y' < 256 ∧ p' < 256 ∧ Hid (∃ k, y' < 2 ^ k ∧ gMul a b = p' ^^^ gG k x' y')) (fun _ y _ => (intOf y).toNat)
  case atStart => exact ⟨a, b, 0, rfl, rfl, rfl, ha, hb, by decide, H0⟩
  case round =>
    obtain ⟨x, y, p, rfl, rfl, rfl, hx, hy, hp, HK⟩ := hrel
    have ht := gTwice_lt hx
    by_cases h0 : y = 0
    · subst h0
      have hv : gMul a b = p := by
        obtain ⟨k, _, hk⟩ := HK.out
        rw [hk, gG_zero, Nat.xor_zero]
      go_wp2
      go_ret
      exact ⟨rfl, rfl⟩
    · obtain ⟨k, hk, hv⟩ := HK.out
      obtain ⟨k, rfl⟩ : ∃ k', k = k' + 1 := ⟨k - 1, by
        rcases k with _ | k
        · simp at hk; omega
        · rfl⟩
      have hp2 : 2 ^ (k + 1) = 2 ^ k * 2 := Nat.pow_succ 2 k
      have hk2 : y / 2 < 2 ^ k := by omega
      simp only [gG] at hv
      have h1 := and1u8 y hy
      have hx2 := x8n p x hp hx
      have hxl := xlt hp hx
      have HT := fun w => twice_any x hx w
      generalize gTwice x = t at *
      have HT := Lib.hid HT
      clear hp2 hk HK
      rcases Nat.mod_two_eq_zero_or_one y with e | e
      · rw [e] at h1 hv
        have HV : Hid (∃ k, y / 2 < 2 ^ k ∧ gMul a b = p ^^^ gG k t (y / 2)) := ⟨k, hk2, by rw [hv]; simp⟩
        clear hv hk2
        go_wp2_with fail
        refine (HT.out _).mono ?_
        rintro e w' ⟨rfl, rfl⟩
        go_wp2
        go_round
        case rel => exact ⟨t, y / 2, p, rfl, by go_num, rfl, ht, by omega, hp, HV⟩
        case measure => simp [intOf]; omega
      · rw [e] at h1 hv
        have HV : Hid (∃ k, y / 2 < 2 ^ k ∧ gMul a b = (p ^^^ x) ^^^ gG k t (y / 2)) := ⟨k, hk2, by rw [hv]; simp [Nat.xor_assoc]⟩
        generalize p ^^^ x = q at *
        clear hv hk2
        go_wp2_with fail
        refine (HT.out _).mono ?_
        rintro e w' ⟨rfl, rfl⟩
        go_wp2
        go_round
        case rel => exact ⟨t, y / 2, q, rfl, by go_num, rfl, ht, by omega, hxl, HV⟩
        case measure => simp [intOf]; omega
set_option maxHeartbeats 400000 in
theorem mul_any (a b : Nat) (ha : a < 256) (hb : b < 256) (w : World) : Calls Try.prog 10 #[.int .u8 (a : Int), .int .u8 (b : Int)] w fun e w' => e = .returned (.int .u8 (gMul a b : Nat)) ∧ w = w' := by
  go_enter Try.func10, Try.ntmps10
  go_wp2_with fail
  refine (times_any a b ha hb _).mono ?_
  rintro e w' ⟨rfl, rfl⟩
  go_wp2
  go_ret
  exact ⟨rfl, rfl⟩
theorem and1i64 (n : Nat) (h : n < 9223372036854775808) : bits .and .i64 (n : Int) (1 : Int) = ((n % 2 : Nat) : Int) := by
  have h1 : (BitVec.ofInt 64 1).toNat = 2 ^ 1 - 1 := by decide
  have key : (BitVec.ofInt 64 (n : Int) &&& BitVec.ofInt 64 1).toNat = ((n : Int) % ((2 ^ 64 : Nat) : Int)).toNat % 2 ^ 1 := by
    rw [BitVec.toNat_and, BitVec.toNat_ofInt, h1, Nat.and_two_pow_sub_one_eq_mod]
  show IntKind.i64.wrap ((BitVec.ofInt 64 (n : Int) &&& BitVec.ofInt 64 1).toNat : Nat) = ((n % 2 : Nat) : Int)
  rw [key, IntKind.wrap_i64]
  omega
set_option maxHeartbeats 400000 in
theorem power_any (a n : Nat) (ha : a < 256) (hn : n < 9223372036854775808) (w : World) : Calls Try.prog 40 #[.int .u8 (a : Int), .int .i64 (n : Int), .func (.func 38) #[] #[]] w fun e w' => e = .returned (.int .u8 (gPow a n : Nat)) ∧ w = w' := by
  have H0 : Hid (gPow a n = gMul 1 (gPow a n)) := (one_gMul (gPow_lt n ha)).symm
  have h1 : Hid (∀ y x, x < 256 → gPow x y < 256) := fun y x h => gPow_lt y h
  go_enter Try.func40, Try.ntmps40
  go_wp2
  go_loop [0, 1, 7] (fun x y p => ∃ x' y' p' : Nat, x = .int .u8 (x' : Int) ∧ y = .int .i64 (y' : Int) ∧ p = .int .u8 (p' : Int) ∧ x' < 256 ∧ y' < 9223372036854775808 ∧ p' < 256 ∧ Hid (gPow a n = gMul p' (gPow x' y'))) (fun _ y _ => (intOf y).toNat)
  case atStart => exact ⟨a, n, 1, rfl, rfl, rfl, ha, hn, by decide, H0⟩
  case round =>
    obtain ⟨x, y, p, rfl, rfl, rfl, hx, hy, hp, HK⟩ := hrel
    by_cases h0 : y = 0
    · subst h0
      have hv : gPow a n = p := by rw [HK.out, gPow, gMul_one]
      go_wp2
      go_ret
      exact ⟨by first | rfl | rw [hv], rfl⟩
    · have h1 := and1i64 y hy
      have hq := gMul_lt x hp
      have hr := gMul_lt x hx
      have hs := gPow_sq (y / 2) hx
      have hc := gMul_assoc p hp x hx (gPow x (2 * (y / 2))) (gPow_lt _ hx)
      have HP := fun w => times_any p x hp hx w
      have HQ := fun w => times_any x x hx hx w
      have hv := HK.out
      clear HK
      generalize hqe : gMul p x = q at *
      generalize hre : gMul x x = r at *
      clear hqe hre
      have HP := Lib.hid HP
      have HQ := Lib.hid HQ
      rcases Nat.mod_two_eq_zero_or_one y with e | e
      · rw [e] at h1
        have e2 : 2 * (y / 2) = y := by omega
        rw [e2] at hs
        have HV : Hid (gPow a n = gMul p (gPow r (y / 2))) := by unfold Hid; rw [hv, hs]
        clear hv hs hc e2
        go_wp2_with fail
        refine (HQ.out _).mono ?_
        rintro e w' ⟨rfl, rfl⟩
        go_wp2
        go_round
        case rel => exact ⟨r, y / 2, p, rfl, by go_num, rfl, hr, by omega, hp, HV⟩
        case measure => simp [intOf]; omega
      · rw [e] at h1
        have e2 : y = 2 * (y / 2) + 1 := by omega
        have HV : Hid (gPow a n = gMul q (gPow r (y / 2))) := by
          unfold Hid
          rw [hv, hs, ← hc]
          congr 1
          conv => lhs; rw [e2]
          rw [gPow, gMul_comm _ (gPow_lt _ hx) x hx]
        clear hv hs hc e2
        go_wp2_with fail
        refine (HP.out _).mono ?_
        rintro e w' ⟨rfl, rfl⟩
        go_wp2_with fail
        refine (HQ.out _).mono ?_
        rintro e w' ⟨rfl, rfl⟩
        go_wp2
        go_round
        case rel => exact ⟨r, y / 2, q, rfl, by go_num, rfl, hr, by omega, hq, HV⟩
        case measure => simp [intOf]; omega
set_option maxHeartbeats 400000 in
theorem inverse_any (a : Nat) (ha : a < 256) (w : World) : Calls Try.prog 39 #[.int .u8 (a : Int)] w fun e w' => e = .returned (.int .u8 (gInv a : Nat)) ∧ w = w' := by
  have h := power_any a 254 ha (by omega)
  have hv : gPow a 254 = gInv a := rfl
  rw [hv] at h
  clear hv
  generalize gInv a = i at *
  have H := Lib.hid h; clear h
  go_enter Try.func39, Try.ntmps39
  go_wp2_with fail
  refine (H.out _).mono ?_
  rintro e w' ⟨rfl, rfl⟩
  go_wp2
  go_ret
  exact ⟨rfl, rfl⟩
def gDiv (a b : Nat) : Nat := if b = 0 then 0 else gMul a (gInv b)
theorem gDiv_lt {a : Nat} (b : Nat) (ha : a < 256) : gDiv a b < 256 := by
  unfold gDiv; split
  · decide
  · exact gMul_lt _ ha
set_option maxHeartbeats 400000 in
theorem div_any (a b : Nat) (ha : a < 256) (hb : b < 256) (w : World) : Calls Try.prog 11 #[.int .u8 (a : Int), .int .u8 (b : Int)] w fun e w' => e = .returned (.tuple #[.int .u8 (gDiv a b : Nat), .bool (decide (b ≠ 0))]) ∧ w = w' := by
  by_cases h : b = 0
  · subst h
    go_enter Try.func11, Try.ntmps11
    go_wp2
    go_ret2
    exact ⟨rfl, rfl⟩
  · have hd : gDiv a b = gMul a (gInv b) := by unfold gDiv; rw [if_neg h]
    rw [hd]
    have hbb : decide (b ≠ 0) = true := by simp [h]
    rw [hbb]
    clear hd hbb
    have HI := fun w => inverse_any b hb w
    have HT := fun w => times_any a (gInv b) ha (gInv_lt hb) w
    generalize gInv b = i at *
    have HI := Lib.hid HI
    have HT := Lib.hid HT
    go_enter Try.func11, Try.ntmps11
    go_wp2_with fail
    refine (HI.out _).mono ?_
    rintro e w' ⟨rfl, rfl⟩
    go_wp2_with fail
    refine (HT.out _).mono ?_
    rintro e w' ⟨rfl, rfl⟩
    go_wp2
    go_ret2
    exact ⟨rfl, rfl⟩
/-- a number to the power of a number with a sign -/
def gPowZ (a : Nat) (n : Int) : Nat := if n = 0 then 1 else if a = 0 then 0 else gPow a (n % 255).toNat
theorem gPowZ_lt {a : Nat} (n : Int) (ha : a < 256) : gPowZ a n < 256 := by
  unfold gPowZ; split
  · decide
  · split
    · decide
    · exact gPow_lt _ ha
set_option maxHeartbeats 400000 in
theorem pow_any (a : Nat) (n : Int) (ha : a < 256) (hn : -9223372036854775808 ≤ n ∧ n ≤ 9223372036854775807) (w : World) : Calls Try.prog 12 #[.int .u8 (a : Int), .int .i64 n] w fun e w' => e = .returned (.int .u8 (gPowZ a n : Nat)) ∧ w = w' := by
  by_cases h : n = 0
  · subst h
    go_enter Try.func12, Try.ntmps12
    go_wp2
    go_ret
    exact ⟨rfl, rfl⟩
  by_cases h2 : a = 0
  · subst h2
    have hv : gPowZ 0 n = 0 := by unfold gPowZ; rw [if_neg h, if_pos rfl]
    rw [hv]
    clear hv
    go_enter Try.func12, Try.ntmps12
    go_wp2
    go_ret
    exact ⟨rfl, rfl⟩
  have hv : gPowZ a n = gPow a (n % 255).toNat := by unfold gPowZ; rw [if_neg h, if_neg h2]
  rw [hv]
  clear hv
  have HP := fun w => power_any a (n % 255).toNat ha (by omega) w
  rw [show (((n % 255).toNat : Nat) : Int) = n % 255 by omega] at HP
  generalize gPow a (n % 255).toNat = r at *
  by_cases h3 : 0 ≤ n
  · have ht : n.tmod 255 = n % 255 := Int.tmod_eq_emod_of_nonneg h3
    have h5 : 0 ≤ n % 255 := by omega
    have h6 : n % 255 < 255 := by omega
    generalize n % 255 = k at *
    have HP := Lib.hid HP
    go_enter Try.func12, Try.ntmps12
    go_wp2_with fail
    refine (HP.out _).mono ?_
    rintro e w' ⟨rfl, rfl⟩
    go_wp2
    go_ret
    exact ⟨rfl, rfl⟩
  · obtain ⟨m, rfl⟩ : ∃ m, n = -m := ⟨-n, by omega⟩
    have ht : (-m).tmod 255 = -(m % 255) := by rw [Int.neg_tmod, Int.tmod_eq_emod_of_nonneg (by omega)]
    by_cases h7 : m % 255 = 0
    · have h8 : (-m) % 255 = 0 := by omega
      rw [h7] at ht
      rw [h8] at HP
      have HP := Lib.hid HP
      go_enter Try.func12, Try.ntmps12
      go_wp2_with fail
      refine (HP.out _).mono ?_
      rintro e w' ⟨rfl, rfl⟩
      go_wp2
      go_ret
      exact ⟨rfl, rfl⟩
    · have h8 : (-m) % 255 = -(m % 255) + 255 := by omega
      rw [h8] at HP
      have h5 : 0 < m % 255 := by omega
      have h6 : m % 255 < 255 := by omega
      clear h8 h7
      generalize m % 255 = k at *
      have HP := Lib.hid HP
      go_enter Try.func12, Try.ntmps12
      go_wp2_with fail
      refine (HP.out _).mono ?_
      rintro e w' ⟨rfl, rfl⟩
      go_wp2
      go_ret
      exact ⟨rfl, rfl⟩
end Go.Proofs.Ytdgnhnhmcobfkaa
