/- The first statements of chapter 35 (gf), as walks of the laws over the contracts of their callees. -/
import Derived.Test.YtdgnhnhmcobfkaaGfDot
import Derived.Test.YtdgnhnhmcobfkaaArgs
namespace Go.Proofs.Ytdgnhnhmcobfkaa
open Go.RowKit
set_option linter.unusedVariables false
theorem gPowZ_nat {a : Nat} (n : Nat) (ha : a < 256) (h : a ≠ 0) : gPowZ a (n : Int) = gPow a n := by
  unfold gPowZ
  by_cases h0 : n = 0
  · subst h0; rfl
  · rw [if_neg (by omega), if_neg h, show ((n : Int) % 255).toNat = n % 255 by omega, gPow_mod n ha h]
theorem gPowZ_add {a : Nat} (n m : Nat) (ha : a < 256) : gMul (gPowZ a (n : Int)) (gPowZ a (m : Int)) = gPowZ a ((n : Int) + (m : Int)) := by
  by_cases h : a = 0
  · subst h
    unfold gPowZ
    by_cases hn : n = 0
    · subst hn
      by_cases hm : m = 0
      · subst hm; decide +kernel
      · rw [if_pos (by omega), if_neg (by omega), if_pos rfl, if_neg (by omega), if_pos rfl]; exact gMul_zero 1
    · rw [if_neg (by omega), if_pos rfl, gMul_zero_left, if_neg (by omega), if_pos rfl]
  · rw [show (n : Int) + (m : Int) = ((n + m : Nat) : Int) by omega, gPowZ_nat n ha h, gPowZ_nat m ha h, gPowZ_nat (n + m) ha h, gPow_add _ _ ha]
theorem gPowZ_neg {a : Nat} (n : Nat) (ha : a < 256) (h : a ≠ 0) : gMul (gPowZ a (-(n : Int))) (gPowZ a (n : Int)) = 1 := by
  rw [gPowZ_nat n ha h]
  unfold gPowZ
  by_cases h0 : n = 0
  · subst h0; rw [if_pos (by omega)]; exact gMul_one 1
  · rw [if_neg (by omega), if_neg h, ← gPow_add _ _ ha, ← gPow_mod _ ha h, show ((-(n : Int) % 255).toNat + n) % 255 = 0 by omega]; rfl
set_option maxRecDepth 20000 in
set_option maxHeartbeats 2000000 in
theorem gfDoes_ok (W : World) (x0 : UInt8) (x1 : UInt8) (x2 : Int) (w2 : -9223372036854775808 ≤ x2 ∧ x2 ≤ 9223372036854775807) (x3 : ByteArray) (w3 : x3.size ≤ 140737488351232) (x4 : ByteArray) (w4 : x4.size ≤ 140737488351232) :
    Calls Try.prog 4 #[.int .u8 x0.toNat, .int .u8 x1.toNat, .int .i64 x2, .string x3, .string x4] W fun e w' => e = .returned (.bool true) ∧ Below W.heap.size W w' := by
  have h0 := x0.toNat_lt
  have h1 := x1.toNat_lt
  generalize x0.toNat = a at *
  generalize x1.toNat = b at *
  have h0 : a < 256 := h0
  have h1 : b < 256 := h1
  by_cases c1 : 200 < x3.size
  · go_enter Try.func4, Try.ntmps4
    go_wp2_with fail
    refine (gfAwake_any _).mono ?_
    rintro e w' ⟨rfl, rfl⟩
    go_wp2
    go_ret
    exact ⟨rfl, Below.refl _ _⟩
  by_cases c2 : 200 < x4.size
  · go_enter Try.func4, Try.ntmps4
    go_wp2_with fail
    refine (gfAwake_any _).mono ?_
    rintro e w' ⟨rfl, rfl⟩
    go_wp2
    go_ret
    exact ⟨rfl, Below.refl _ _⟩
  have D1 := Lib.hid (div_any a b h0 h1)
  have D2 := Lib.hid (refDiv_any a b h0 h1)
  have M1 := Lib.hid (mul_any a b h0 h1)
  have M2 := Lib.hid (refMul_any a b h0 h1)
  have P1 := Lib.hid (pow_any a x2 h0 w2)
  have P2 := Lib.hid (refPow_any a x2 h0 w2)
  have O1 := Lib.hid (dot_any x3 x4 w3 w4)
  have O2 := Lib.hid (refDot_any x3 x4 w3 w4)
  generalize gDiv a b = d at *
  generalize decide (b ≠ 0) = t at *
  generalize gMul a b = m at *
  generalize gPowZ a x2 = p at *
  generalize gDot x3.data.toList x4.data.toList = o at *
  go_enter Try.func4, Try.ntmps4
  go_wp2_with fail
  refine (D1.out _).mono ?_
  rintro e w' ⟨rfl, rfl⟩
  go_wp2_with fail
  refine (D2.out _).mono ?_
  rintro e w' ⟨rfl, rfl⟩
  go_wp2_with fail
  refine (M1.out _).mono ?_
  rintro e w' ⟨rfl, rfl⟩
  go_wp2_with fail
  refine (M2.out _).mono ?_
  rintro e w' ⟨rfl, rfl⟩
  go_wp2_with fail
  refine (P1.out _).mono ?_
  rintro e w' ⟨rfl, rfl⟩
  go_wp2_with fail
  refine (P2.out _).mono ?_
  rintro e w' ⟨rfl, rfl⟩
  go_wp2_with fail
  refine (O1.out _).mono ?_
  rintro e w' ⟨rfl, m1, rfl⟩
  go_wp2_with fail
  refine (O2.out _).mono ?_
  rintro e w' ⟨rfl, m2, rfl⟩
  go_wp2_with fail
  refine (gfAwake_any _).mono ?_
  rintro e w' ⟨rfl, rfl⟩
  go_wp2
  go_ret
  exact ⟨rfl, Below.drewN (Below.refl _ _) _⟩
set_option maxRecDepth 20000 in
set_option maxHeartbeats 4000000 in
theorem gfField_nn (W : World) (a b c n m : Nat) (h0 : a < 256) (h1 : b < 256) (h2 : c < 256) (h3 : n < 65536) (h4 : m < 65536) (ha : a ≠ 0) (hb : b ≠ 0) :
    Calls Try.prog 3 #[.int .u8 (a : Int), .int .u8 (b : Int), .int .u8 (c : Int), .int .u16 (n : Int), .int .u16 (m : Int)] W fun e w' => e = .returned (.bool true) ∧ Below W.heap.size W w' := by
  have m1 : ∀ w, Calls Try.prog 10 #[.int .u8 (a : Int), .int .u8 (b : Int)] w fun e w' => e = .returned (.int .u8 ((gMul a b : Nat) : Int)) ∧ w = w' := by
    have := mul_any a b h0 h1
    skip
    exact this
  have m2 : ∀ w, Calls Try.prog 10 #[.int .u8 (b : Int), .int .u8 (a : Int)] w fun e w' => e = .returned (.int .u8 ((gMul a b : Nat) : Int)) ∧ w = w' := by
    have := mul_any b a h1 h0
    rw [gMul_comm b h1 a h0] at this
    exact this
  have m3 : ∀ w, Calls Try.prog 10 #[.int .u8 (b : Int), .int .u8 (c : Int)] w fun e w' => e = .returned (.int .u8 ((gMul b c : Nat) : Int)) ∧ w = w' := by
    have := mul_any b c h1 h2
    skip
    exact this
  have m4 : ∀ w, Calls Try.prog 10 #[.int .u8 (a : Int), .int .u8 ((gMul b c : Nat) : Int)] w fun e w' => e = .returned (.int .u8 ((gMul (gMul a b) c : Nat) : Int)) ∧ w = w' := by
    have := mul_any a (gMul b c) h0 (gMul_lt _ h1)
    rw [gMul_assoc a h0 b h1 c h2] at this
    exact this
  have m5 : ∀ w, Calls Try.prog 10 #[.int .u8 ((gMul a b : Nat) : Int), .int .u8 (c : Int)] w fun e w' => e = .returned (.int .u8 ((gMul (gMul a b) c : Nat) : Int)) ∧ w = w' := by
    have := mul_any (gMul a b) c (gMul_lt _ h0) h2
    skip
    exact this
  have m6 : ∀ w, Calls Try.prog 10 #[.int .u8 (a : Int), .int .u8 ((b ^^^ c : Nat) : Int)] w fun e w' => e = .returned (.int .u8 ((gMul a b ^^^ gMul a c : Nat) : Int)) ∧ w = w' := by
    have := mul_any a (b ^^^ c) h0 (xlt h1 h2)
    rw [gMul_right] at this
    exact this
  have m7 : ∀ w, Calls Try.prog 10 #[.int .u8 (a : Int), .int .u8 (c : Int)] w fun e w' => e = .returned (.int .u8 ((gMul a c : Nat) : Int)) ∧ w = w' := by
    have := mul_any a c h0 h2
    skip
    exact this
  have m8 : ∀ w, Calls Try.prog 10 #[.int .u8 (a : Int), .int .u8 (1 : Int)] w fun e w' => e = .returned (.int .u8 (a : Int)) ∧ w = w' := by
    have := mul_any a 1 h0 (by decide)
    rw [gMul_one] at this
    exact this
  have x1 : bits .xor .u8 (b : Int) (c : Int) = ((b ^^^ c : Nat) : Int) := x8n b c h1 h2
  have x2 := x8n (gMul a b) (gMul a c) (gMul_lt _ h0) (gMul_lt _ h0)
  have d1 : ∀ w, Calls Try.prog 11 #[.int .u8 ((gMul a b : Nat) : Int), .int .u8 (b : Int)] w fun e w' => e = .returned (.tuple #[.int .u8 (a : Int), .bool true]) ∧ w = w' := by
    have := div_any (gMul a b) b (gMul_lt _ h0) h1
    rw [show gDiv (gMul a b) b = a by unfold gDiv; rw [if_neg hb]; exact gMul_div h0 h1 hb, show decide (b ≠ 0) = true by simp [hb]] at this
    exact this
  have p1 : ∀ w, Calls Try.prog 12 #[.int .u8 (a : Int), .int .i64 (n : Int)] w fun e w' => e = .returned (.int .u8 ((gPowZ a (n : Int) : Nat) : Int)) ∧ w = w' := by
    have := pow_any a (n : Int) h0 (by omega)
    exact this
  have p2 : ∀ w, Calls Try.prog 12 #[.int .u8 (a : Int), .int .i64 (m : Int)] w fun e w' => e = .returned (.int .u8 ((gPowZ a (m : Int) : Nat) : Int)) ∧ w = w' := by
    have := pow_any a (m : Int) h0 (by omega)
    exact this
  have p3 : ∀ w, Calls Try.prog 12 #[.int .u8 (a : Int), .int .i64 ((n : Int) + (m : Int))] w fun e w' => e = .returned (.int .u8 ((gPowZ a ((n : Int) + (m : Int)) : Nat) : Int)) ∧ w = w' := by
    have := pow_any a ((n : Int) + (m : Int)) h0 (by omega)
    exact this
  have q1 := mul_any (gPowZ a n) (gPowZ a m) (gPowZ_lt _ h0) (gPowZ_lt _ h0)
  rw [gPowZ_add n m h0] at q1
  have p4 : ∀ w, Calls Try.prog 12 #[.int .u8 (a : Int), .int .i64 (255 : Int)] w fun e w' => e = .returned (.int .u8 (1 : Int)) ∧ w = w' := by
    have := pow_any a (255 : Int) h0 (by omega)
    rw [show gPowZ a 255 = 1 from (gPowZ_nat 255 h0 ha).trans (gPow255 h0 ha)] at this
    exact this
  have p5 : ∀ w, Calls Try.prog 12 #[.int .u8 (a : Int), .int .i64 (-(n : Int))] w fun e w' => e = .returned (.int .u8 ((gPowZ a (-(n : Int)) : Nat) : Int)) ∧ w = w' := by
    have := pow_any a (-(n : Int)) h0 (by omega)
    exact this
  have q2 : ∀ w, Calls Try.prog 10 #[.int .u8 ((gPowZ a (-(n : Int)) : Nat) : Int), .int .u8 ((gPowZ a (n : Int) : Nat) : Int)] w fun e w' => e = .returned (.int .u8 (1 : Int)) ∧ w = w' := by
    have := mul_any (gPowZ a (-(n : Int))) (gPowZ a n) (gPowZ_lt _ h0) (gPowZ_lt _ h0)
    rw [gPowZ_neg n h0 ha] at this
    exact this
  have z1 : (((gMul a b : Nat) : Int) == 0) = false := by
    rw [beq_eq_false_iff_ne]
    intro h
    rcases (gMul_eq_zero h0 h1).1 (by omega) with h | h
    · exact ha h
    · exact hb h
  have z2 : ((a : Int) == 0) = false := by rw [beq_eq_false_iff_ne]; omega
  have z3 : ((b : Int) == 0) = false := by rw [beq_eq_false_iff_ne]; omega
  have z4 : ((b : Int) != 0) = true := by rw [bne, z3]; rfl
  generalize gPowZ a ((n : Int) + (m : Int)) = r at *
  generalize gPowZ a (n : Int) = r1 at *
  generalize gPowZ a (m : Int) = r2 at *
  generalize gPowZ a (-(n : Int)) = r3 at *
  generalize gMul (gMul a b) c = v1 at *
  generalize gMul a b ^^^ gMul a c = v2 at *
  generalize gMul a b = v3 at *
  generalize gMul a c = v4 at *
  generalize gMul b c = v5 at *
  generalize b ^^^ c = v6 at *
  have M1 := Lib.hid m1; clear m1
  have M2 := Lib.hid m2; clear m2
  have M3 := Lib.hid m3; clear m3
  have M4 := Lib.hid m4; clear m4
  have M5 := Lib.hid m5; clear m5
  have M6 := Lib.hid m6; clear m6
  have M7 := Lib.hid m7; clear m7
  have M8 := Lib.hid m8; clear m8
  have D1 := Lib.hid d1; clear d1
  have P1 := Lib.hid p1; clear p1
  have P2 := Lib.hid p2; clear p2
  have P3 := Lib.hid p3; clear p3
  have Q1 := Lib.hid q1; clear q1
  have P4 := Lib.hid p4; clear p4
  have P5 := Lib.hid p5; clear p5
  have Q2 := Lib.hid q2; clear q2
  go_enter Try.func3, Try.ntmps3
  go_wp2_with fail
  refine (M1.out _).mono ?_
  rintro e w' ⟨rfl, rfl⟩
  go_wp2_with fail
  refine (M2.out _).mono ?_
  rintro e w' ⟨rfl, rfl⟩
  go_wp2_with fail
  refine (M3.out _).mono ?_
  rintro e w' ⟨rfl, rfl⟩
  go_wp2_with fail
  refine (M4.out _).mono ?_
  rintro e w' ⟨rfl, rfl⟩
  go_wp2_with fail
  refine (M1.out _).mono ?_
  rintro e w' ⟨rfl, rfl⟩
  go_wp2_with fail
  refine (M5.out _).mono ?_
  rintro e w' ⟨rfl, rfl⟩
  go_wp2_with fail
  refine (M6.out _).mono ?_
  rintro e w' ⟨rfl, rfl⟩
  go_wp2_with fail
  refine (M1.out _).mono ?_
  rintro e w' ⟨rfl, rfl⟩
  go_wp2_with fail
  refine (M7.out _).mono ?_
  rintro e w' ⟨rfl, rfl⟩
  go_wp2_with fail
  refine (M8.out _).mono ?_
  rintro e w' ⟨rfl, rfl⟩
  go_wp2_with fail
  refine (M1.out _).mono ?_
  rintro e w' ⟨rfl, rfl⟩
  go_wp2_with fail
  refine (D1.out _).mono ?_
  rintro e w' ⟨rfl, rfl⟩
  go_wp2_with fail
  refine (M1.out _).mono ?_
  rintro e w' ⟨rfl, rfl⟩
  go_wp2_with fail
  refine (P1.out _).mono ?_
  rintro e w' ⟨rfl, rfl⟩
  go_wp2_with fail
  refine (P2.out _).mono ?_
  rintro e w' ⟨rfl, rfl⟩
  go_wp2_with fail
  refine (Q1.out _).mono ?_
  rintro e w' ⟨rfl, rfl⟩
  go_wp2_with fail
  refine (P3.out _).mono ?_
  rintro e w' ⟨rfl, rfl⟩
  go_wp2_with fail
  refine (P4.out _).mono ?_
  rintro e w' ⟨rfl, rfl⟩
  go_wp2_with fail
  refine (P5.out _).mono ?_
  rintro e w' ⟨rfl, rfl⟩
  go_wp2_with fail
  refine (P1.out _).mono ?_
  rintro e w' ⟨rfl, rfl⟩
  go_wp2_with fail
  refine (Q2.out _).mono ?_
  rintro e w' ⟨rfl, rfl⟩
  go_wp2_with fail
  refine (gfAwake_any _).mono ?_
  rintro e w' ⟨rfl, rfl⟩
  go_wp2
  go_ret
  exact ⟨rfl, Below.refl _ _⟩
set_option maxRecDepth 20000 in
set_option maxHeartbeats 4000000 in
theorem gfField_nz (W : World) (a c n m : Nat) (h0 : a < 256) (h2 : c < 256) (h3 : n < 65536) (h4 : m < 65536) (ha : a ≠ 0) :
    Calls Try.prog 3 #[.int .u8 (a : Int), .int .u8 (0 : Int), .int .u8 (c : Int), .int .u16 (n : Int), .int .u16 (m : Int)] W fun e w' => e = .returned (.bool true) ∧ Below W.heap.size W w' := by
  have m1 : ∀ w, Calls Try.prog 10 #[.int .u8 (a : Int), .int .u8 (0 : Int)] w fun e w' => e = .returned (.int .u8 (0 : Int)) ∧ w = w' := by
    have := mul_any a 0 h0 (by decide)
    rw [gMul_zero] at this
    exact this
  have m2 : ∀ w, Calls Try.prog 10 #[.int .u8 (0 : Int), .int .u8 (a : Int)] w fun e w' => e = .returned (.int .u8 (0 : Int)) ∧ w = w' := by
    have := mul_any 0 a (by decide) h0
    rw [gMul_zero_left] at this
    exact this
  have m3 : ∀ w, Calls Try.prog 10 #[.int .u8 (0 : Int), .int .u8 (c : Int)] w fun e w' => e = .returned (.int .u8 (0 : Int)) ∧ w = w' := by
    have := mul_any 0 c (by decide) h2
    rw [gMul_zero_left] at this
    exact this
  have m4 : ∀ w, Calls Try.prog 10 #[.int .u8 (a : Int), .int .u8 (0 : Int)] w fun e w' => e = .returned (.int .u8 (0 : Int)) ∧ w = w' := by
    have := mul_any a 0 h0 (by decide)
    rw [gMul_zero] at this
    exact this
  have m5 : ∀ w, Calls Try.prog 10 #[.int .u8 (0 : Int), .int .u8 (c : Int)] w fun e w' => e = .returned (.int .u8 (0 : Int)) ∧ w = w' := by
    have := mul_any 0 c (by decide) h2
    rw [gMul_zero_left] at this
    exact this
  have m6 : ∀ w, Calls Try.prog 10 #[.int .u8 (a : Int), .int .u8 (c : Int)] w fun e w' => e = .returned (.int .u8 ((gMul a c : Nat) : Int)) ∧ w = w' := by
    have := mul_any a c h0 h2
    skip
    exact this
  have m8 : ∀ w, Calls Try.prog 10 #[.int .u8 (a : Int), .int .u8 (1 : Int)] w fun e w' => e = .returned (.int .u8 (a : Int)) ∧ w = w' := by
    have := mul_any a 1 h0 (by decide)
    rw [gMul_one] at this
    exact this
  have x1 : bits .xor .u8 (0 : Int) (c : Int) = (c : Int) := by have := x8n 0 c (by decide) h2; rw [Nat.zero_xor] at this; exact this
  have x2 : bits .xor .u8 (0 : Int) ((gMul a c : Nat) : Int) = ((gMul a c : Nat) : Int) := by have := x8n 0 (gMul a c) (by decide) (gMul_lt _ h0); rw [Nat.zero_xor] at this; exact this
  have d1 : ∀ w, Calls Try.prog 11 #[.int .u8 (0 : Int), .int .u8 (0 : Int)] w fun e w' => e = .returned (.tuple #[.int .u8 (0 : Int), .bool false]) ∧ w = w' := by
    have := div_any 0 0 (by decide) (by decide)
    exact this
  have p1 : ∀ w, Calls Try.prog 12 #[.int .u8 (a : Int), .int .i64 (n : Int)] w fun e w' => e = .returned (.int .u8 ((gPowZ a (n : Int) : Nat) : Int)) ∧ w = w' := by
    have := pow_any a (n : Int) h0 (by omega)
    exact this
  have p2 : ∀ w, Calls Try.prog 12 #[.int .u8 (a : Int), .int .i64 (m : Int)] w fun e w' => e = .returned (.int .u8 ((gPowZ a (m : Int) : Nat) : Int)) ∧ w = w' := by
    have := pow_any a (m : Int) h0 (by omega)
    exact this
  have p3 : ∀ w, Calls Try.prog 12 #[.int .u8 (a : Int), .int .i64 ((n : Int) + (m : Int))] w fun e w' => e = .returned (.int .u8 ((gPowZ a ((n : Int) + (m : Int)) : Nat) : Int)) ∧ w = w' := by
    have := pow_any a ((n : Int) + (m : Int)) h0 (by omega)
    exact this
  have q1 := mul_any (gPowZ a n) (gPowZ a m) (gPowZ_lt _ h0) (gPowZ_lt _ h0)
  rw [gPowZ_add n m h0] at q1
  have p4 : ∀ w, Calls Try.prog 12 #[.int .u8 (a : Int), .int .i64 (255 : Int)] w fun e w' => e = .returned (.int .u8 (1 : Int)) ∧ w = w' := by
    have := pow_any a (255 : Int) h0 (by omega)
    rw [show gPowZ a 255 = 1 from (gPowZ_nat 255 h0 ha).trans (gPow255 h0 ha)] at this
    exact this
  have p5 : ∀ w, Calls Try.prog 12 #[.int .u8 (a : Int), .int .i64 (-(n : Int))] w fun e w' => e = .returned (.int .u8 ((gPowZ a (-(n : Int)) : Nat) : Int)) ∧ w = w' := by
    have := pow_any a (-(n : Int)) h0 (by omega)
    exact this
  have q2 : ∀ w, Calls Try.prog 10 #[.int .u8 ((gPowZ a (-(n : Int)) : Nat) : Int), .int .u8 ((gPowZ a (n : Int) : Nat) : Int)] w fun e w' => e = .returned (.int .u8 (1 : Int)) ∧ w = w' := by
    have := mul_any (gPowZ a (-(n : Int))) (gPowZ a n) (gPowZ_lt _ h0) (gPowZ_lt _ h0)
    rw [gPowZ_neg n h0 ha] at this
    exact this
  have z2 : ((a : Int) == 0) = false := by rw [beq_eq_false_iff_ne]; omega
  generalize gPowZ a ((n : Int) + (m : Int)) = r at *
  generalize gPowZ a (n : Int) = r1 at *
  generalize gPowZ a (m : Int) = r2 at *
  generalize gPowZ a (-(n : Int)) = r3 at *
  generalize gMul a c = v4 at *
  have M1 := Lib.hid m1; clear m1
  have M2 := Lib.hid m2; clear m2
  have M3 := Lib.hid m3; clear m3
  have M4 := Lib.hid m4; clear m4
  have M5 := Lib.hid m5; clear m5
  have M6 := Lib.hid m6; clear m6
  have M8 := Lib.hid m8; clear m8
  have D1 := Lib.hid d1; clear d1
  have P1 := Lib.hid p1; clear p1
  have P2 := Lib.hid p2; clear p2
  have P3 := Lib.hid p3; clear p3
  have Q1 := Lib.hid q1; clear q1
  have P4 := Lib.hid p4; clear p4
  have P5 := Lib.hid p5; clear p5
  have Q2 := Lib.hid q2; clear q2
  go_enter Try.func3, Try.ntmps3
  go_wp2_with fail
  refine (M1.out _).mono ?_
  rintro e w' ⟨rfl, rfl⟩
  go_wp2_with fail
  refine (M2.out _).mono ?_
  rintro e w' ⟨rfl, rfl⟩
  go_wp2_with fail
  refine (M3.out _).mono ?_
  rintro e w' ⟨rfl, rfl⟩
  go_wp2_with fail
  refine (M4.out _).mono ?_
  rintro e w' ⟨rfl, rfl⟩
  go_wp2_with fail
  refine (M1.out _).mono ?_
  rintro e w' ⟨rfl, rfl⟩
  go_wp2_with fail
  refine (M5.out _).mono ?_
  rintro e w' ⟨rfl, rfl⟩
  go_wp2_with fail
  refine (M6.out _).mono ?_
  rintro e w' ⟨rfl, rfl⟩
  go_wp2_with fail
  refine (M1.out _).mono ?_
  rintro e w' ⟨rfl, rfl⟩
  go_wp2_with fail
  refine (M6.out _).mono ?_
  rintro e w' ⟨rfl, rfl⟩
  go_wp2_with fail
  refine (M8.out _).mono ?_
  rintro e w' ⟨rfl, rfl⟩
  go_wp2_with fail
  refine (M1.out _).mono ?_
  rintro e w' ⟨rfl, rfl⟩
  go_wp2_with fail
  refine (D1.out _).mono ?_
  rintro e w' ⟨rfl, rfl⟩
  go_wp2_with fail
  refine (M1.out _).mono ?_
  rintro e w' ⟨rfl, rfl⟩
  go_wp2_with fail
  refine (P1.out _).mono ?_
  rintro e w' ⟨rfl, rfl⟩
  go_wp2_with fail
  refine (P2.out _).mono ?_
  rintro e w' ⟨rfl, rfl⟩
  go_wp2_with fail
  refine (Q1.out _).mono ?_
  rintro e w' ⟨rfl, rfl⟩
  go_wp2_with fail
  refine (P3.out _).mono ?_
  rintro e w' ⟨rfl, rfl⟩
  go_wp2_with fail
  refine (P4.out _).mono ?_
  rintro e w' ⟨rfl, rfl⟩
  go_wp2_with fail
  refine (P5.out _).mono ?_
  rintro e w' ⟨rfl, rfl⟩
  go_wp2_with fail
  refine (P1.out _).mono ?_
  rintro e w' ⟨rfl, rfl⟩
  go_wp2_with fail
  refine (Q2.out _).mono ?_
  rintro e w' ⟨rfl, rfl⟩
  go_wp2_with fail
  refine (gfAwake_any _).mono ?_
  rintro e w' ⟨rfl, rfl⟩
  go_wp2
  go_ret
  exact ⟨rfl, Below.refl _ _⟩
set_option maxRecDepth 20000 in
set_option maxHeartbeats 4000000 in
theorem gfField_zn (W : World) (b c n m : Nat) (h1 : b < 256) (h2 : c < 256) (h3 : n < 65536) (h4 : m < 65536) (hb : b ≠ 0) :
    Calls Try.prog 3 #[.int .u8 (0 : Int), .int .u8 (b : Int), .int .u8 (c : Int), .int .u16 (n : Int), .int .u16 (m : Int)] W fun e w' => e = .returned (.bool true) ∧ Below W.heap.size W w' := by
  have m1 : ∀ w, Calls Try.prog 10 #[.int .u8 (0 : Int), .int .u8 (b : Int)] w fun e w' => e = .returned (.int .u8 (0 : Int)) ∧ w = w' := by
    have := mul_any 0 b (by decide) h1
    rw [gMul_zero_left] at this
    exact this
  have m2 : ∀ w, Calls Try.prog 10 #[.int .u8 (b : Int), .int .u8 (0 : Int)] w fun e w' => e = .returned (.int .u8 (0 : Int)) ∧ w = w' := by
    have := mul_any b 0 h1 (by decide)
    rw [gMul_zero] at this
    exact this
  have m3 : ∀ w, Calls Try.prog 10 #[.int .u8 (b : Int), .int .u8 (c : Int)] w fun e w' => e = .returned (.int .u8 ((gMul b c : Nat) : Int)) ∧ w = w' := by
    have := mul_any b c h1 h2
    skip
    exact this
  have m4 : ∀ w, Calls Try.prog 10 #[.int .u8 (0 : Int), .int .u8 ((gMul b c : Nat) : Int)] w fun e w' => e = .returned (.int .u8 (0 : Int)) ∧ w = w' := by
    have := mul_any 0 (gMul b c) (by decide) (gMul_lt _ h1)
    rw [gMul_zero_left] at this
    exact this
  have m5 : ∀ w, Calls Try.prog 10 #[.int .u8 (0 : Int), .int .u8 (c : Int)] w fun e w' => e = .returned (.int .u8 (0 : Int)) ∧ w = w' := by
    have := mul_any 0 c (by decide) h2
    rw [gMul_zero_left] at this
    exact this
  have m6 : ∀ w, Calls Try.prog 10 #[.int .u8 (0 : Int), .int .u8 ((b ^^^ c : Nat) : Int)] w fun e w' => e = .returned (.int .u8 (0 : Int)) ∧ w = w' := by
    have := mul_any 0 (b ^^^ c) (by decide) (xlt h1 h2)
    rw [gMul_zero_left] at this
    exact this
  have m7 : ∀ w, Calls Try.prog 10 #[.int .u8 (0 : Int), .int .u8 (c : Int)] w fun e w' => e = .returned (.int .u8 (0 : Int)) ∧ w = w' := by
    have := mul_any 0 c (by decide) h2
    rw [gMul_zero_left] at this
    exact this
  have m8 : ∀ w, Calls Try.prog 10 #[.int .u8 (0 : Int), .int .u8 (1 : Int)] w fun e w' => e = .returned (.int .u8 (0 : Int)) ∧ w = w' := by
    have := mul_any 0 1 (by decide) (by decide)
    rw [gMul_one] at this
    exact this
  have x1 : bits .xor .u8 (b : Int) (c : Int) = ((b ^^^ c : Nat) : Int) := x8n b c h1 h2
  have x2 : bits .xor .u8 (0 : Int) (0 : Int) = 0 := by decide
  have d1 : ∀ w, Calls Try.prog 11 #[.int .u8 (0 : Int), .int .u8 (b : Int)] w fun e w' => e = .returned (.tuple #[.int .u8 (0 : Int), .bool true]) ∧ w = w' := by
    have := div_any 0 b (by decide) h1
    rw [show gDiv 0 b = 0 by unfold gDiv; rw [if_neg hb, gMul_zero_left], show decide (b ≠ 0) = true by simp [hb]] at this
    exact this
  have p1 : ∀ w, Calls Try.prog 12 #[.int .u8 (0 : Int), .int .i64 (n : Int)] w fun e w' => e = .returned (.int .u8 ((gPowZ 0 (n : Int) : Nat) : Int)) ∧ w = w' := by
    have := pow_any 0 (n : Int) (by decide) (by omega)
    exact this
  have p2 : ∀ w, Calls Try.prog 12 #[.int .u8 (0 : Int), .int .i64 (m : Int)] w fun e w' => e = .returned (.int .u8 ((gPowZ 0 (m : Int) : Nat) : Int)) ∧ w = w' := by
    have := pow_any 0 (m : Int) (by decide) (by omega)
    exact this
  have p3 : ∀ w, Calls Try.prog 12 #[.int .u8 (0 : Int), .int .i64 ((n : Int) + (m : Int))] w fun e w' => e = .returned (.int .u8 ((gPowZ 0 ((n : Int) + (m : Int)) : Nat) : Int)) ∧ w = w' := by
    have := pow_any 0 ((n : Int) + (m : Int)) (by decide) (by omega)
    exact this
  have q1 := mul_any (gPowZ 0 n) (gPowZ 0 m) (gPowZ_lt _ (by decide)) (gPowZ_lt _ (by decide))
  rw [gPowZ_add n m (by decide)] at q1
  have z3 : ((b : Int) == 0) = false := by rw [beq_eq_false_iff_ne]; omega
  have z4 : ((b : Int) != 0) = true := by rw [bne, z3]; rfl
  generalize gPowZ 0 ((n : Int) + (m : Int)) = r at *
  generalize gPowZ 0 (n : Int) = r1 at *
  generalize gPowZ 0 (m : Int) = r2 at *
  generalize gMul b c = v5 at *
  generalize b ^^^ c = v6 at *
  have M1 := Lib.hid m1; clear m1
  have M2 := Lib.hid m2; clear m2
  have M3 := Lib.hid m3; clear m3
  have M4 := Lib.hid m4; clear m4
  have M5 := Lib.hid m5; clear m5
  have M6 := Lib.hid m6; clear m6
  have M7 := Lib.hid m7; clear m7
  have M8 := Lib.hid m8; clear m8
  have D1 := Lib.hid d1; clear d1
  have P1 := Lib.hid p1; clear p1
  have P2 := Lib.hid p2; clear p2
  have P3 := Lib.hid p3; clear p3
  have Q1 := Lib.hid q1; clear q1
  go_enter Try.func3, Try.ntmps3
  go_wp2_with fail
  refine (M1.out _).mono ?_
  rintro e w' ⟨rfl, rfl⟩
  go_wp2_with fail
  refine (M2.out _).mono ?_
  rintro e w' ⟨rfl, rfl⟩
  go_wp2_with fail
  refine (M3.out _).mono ?_
  rintro e w' ⟨rfl, rfl⟩
  go_wp2_with fail
  refine (M4.out _).mono ?_
  rintro e w' ⟨rfl, rfl⟩
  go_wp2_with fail
  refine (M1.out _).mono ?_
  rintro e w' ⟨rfl, rfl⟩
  go_wp2_with fail
  refine (M5.out _).mono ?_
  rintro e w' ⟨rfl, rfl⟩
  go_wp2_with fail
  refine (M6.out _).mono ?_
  rintro e w' ⟨rfl, rfl⟩
  go_wp2_with fail
  refine (M1.out _).mono ?_
  rintro e w' ⟨rfl, rfl⟩
  go_wp2_with fail
  refine (M7.out _).mono ?_
  rintro e w' ⟨rfl, rfl⟩
  go_wp2_with fail
  refine (M8.out _).mono ?_
  rintro e w' ⟨rfl, rfl⟩
  go_wp2_with fail
  refine (M1.out _).mono ?_
  rintro e w' ⟨rfl, rfl⟩
  go_wp2_with fail
  refine (D1.out _).mono ?_
  rintro e w' ⟨rfl, rfl⟩
  go_wp2_with fail
  refine (M1.out _).mono ?_
  rintro e w' ⟨rfl, rfl⟩
  go_wp2_with fail
  refine (P1.out _).mono ?_
  rintro e w' ⟨rfl, rfl⟩
  go_wp2_with fail
  refine (P2.out _).mono ?_
  rintro e w' ⟨rfl, rfl⟩
  go_wp2_with fail
  refine (Q1.out _).mono ?_
  rintro e w' ⟨rfl, rfl⟩
  go_wp2_with fail
  refine (P3.out _).mono ?_
  rintro e w' ⟨rfl, rfl⟩
  go_wp2_with fail
  refine (gfAwake_any _).mono ?_
  rintro e w' ⟨rfl, rfl⟩
  go_wp2
  go_ret
  exact ⟨rfl, Below.refl _ _⟩
set_option maxRecDepth 20000 in
set_option maxHeartbeats 4000000 in
theorem gfField_zz (W : World) (c n m : Nat) (h2 : c < 256) (h3 : n < 65536) (h4 : m < 65536) :
    Calls Try.prog 3 #[.int .u8 (0 : Int), .int .u8 (0 : Int), .int .u8 (c : Int), .int .u16 (n : Int), .int .u16 (m : Int)] W fun e w' => e = .returned (.bool true) ∧ Below W.heap.size W w' := by
  have m1 : ∀ w, Calls Try.prog 10 #[.int .u8 (0 : Int), .int .u8 (0 : Int)] w fun e w' => e = .returned (.int .u8 (0 : Int)) ∧ w = w' := by
    have := mul_any 0 0 (by decide) (by decide)
    rw [gMul_zero_left] at this
    exact this
  have m2 : ∀ w, Calls Try.prog 10 #[.int .u8 (0 : Int), .int .u8 (0 : Int)] w fun e w' => e = .returned (.int .u8 (0 : Int)) ∧ w = w' := by
    have := mul_any 0 0 (by decide) (by decide)
    rw [gMul_zero] at this
    exact this
  have m3 : ∀ w, Calls Try.prog 10 #[.int .u8 (0 : Int), .int .u8 (c : Int)] w fun e w' => e = .returned (.int .u8 (0 : Int)) ∧ w = w' := by
    have := mul_any 0 c (by decide) h2
    rw [gMul_zero_left] at this
    exact this
  have m4 : ∀ w, Calls Try.prog 10 #[.int .u8 (0 : Int), .int .u8 (0 : Int)] w fun e w' => e = .returned (.int .u8 (0 : Int)) ∧ w = w' := by
    have := mul_any 0 0 (by decide) (by decide)
    rw [gMul_zero_left] at this
    exact this
  have m5 : ∀ w, Calls Try.prog 10 #[.int .u8 (0 : Int), .int .u8 (c : Int)] w fun e w' => e = .returned (.int .u8 (0 : Int)) ∧ w = w' := by
    have := mul_any 0 c (by decide) h2
    rw [gMul_zero_left] at this
    exact this
  have m6 : ∀ w, Calls Try.prog 10 #[.int .u8 (0 : Int), .int .u8 (c : Int)] w fun e w' => e = .returned (.int .u8 (0 : Int)) ∧ w = w' := by
    have := mul_any 0 c (by decide) h2
    rw [gMul_zero_left] at this
    exact this
  have m7 : ∀ w, Calls Try.prog 10 #[.int .u8 (0 : Int), .int .u8 (c : Int)] w fun e w' => e = .returned (.int .u8 (0 : Int)) ∧ w = w' := by
    have := mul_any 0 c (by decide) h2
    rw [gMul_zero_left] at this
    exact this
  have m8 : ∀ w, Calls Try.prog 10 #[.int .u8 (0 : Int), .int .u8 (1 : Int)] w fun e w' => e = .returned (.int .u8 (0 : Int)) ∧ w = w' := by
    have := mul_any 0 1 (by decide) (by decide)
    rw [gMul_one] at this
    exact this
  have x1 : bits .xor .u8 (0 : Int) (c : Int) = (c : Int) := by have := x8n 0 c (by decide) h2; rw [Nat.zero_xor] at this; exact this
  have x2 : bits .xor .u8 (0 : Int) (0 : Int) = 0 := by decide
  have d1 : ∀ w, Calls Try.prog 11 #[.int .u8 (0 : Int), .int .u8 (0 : Int)] w fun e w' => e = .returned (.tuple #[.int .u8 (0 : Int), .bool false]) ∧ w = w' := by
    have := div_any 0 0 (by decide) (by decide)
    exact this
  have p1 : ∀ w, Calls Try.prog 12 #[.int .u8 (0 : Int), .int .i64 (n : Int)] w fun e w' => e = .returned (.int .u8 ((gPowZ 0 (n : Int) : Nat) : Int)) ∧ w = w' := by
    have := pow_any 0 (n : Int) (by decide) (by omega)
    exact this
  have p2 : ∀ w, Calls Try.prog 12 #[.int .u8 (0 : Int), .int .i64 (m : Int)] w fun e w' => e = .returned (.int .u8 ((gPowZ 0 (m : Int) : Nat) : Int)) ∧ w = w' := by
    have := pow_any 0 (m : Int) (by decide) (by omega)
    exact this
  have p3 : ∀ w, Calls Try.prog 12 #[.int .u8 (0 : Int), .int .i64 ((n : Int) + (m : Int))] w fun e w' => e = .returned (.int .u8 ((gPowZ 0 ((n : Int) + (m : Int)) : Nat) : Int)) ∧ w = w' := by
    have := pow_any 0 ((n : Int) + (m : Int)) (by decide) (by omega)
    exact this
  have q1 := mul_any (gPowZ 0 n) (gPowZ 0 m) (gPowZ_lt _ (by decide)) (gPowZ_lt _ (by decide))
  rw [gPowZ_add n m (by decide)] at q1
  generalize gPowZ 0 ((n : Int) + (m : Int)) = r at *
  generalize gPowZ 0 (n : Int) = r1 at *
  generalize gPowZ 0 (m : Int) = r2 at *
  have M1 := Lib.hid m1; clear m1
  have M2 := Lib.hid m2; clear m2
  have M3 := Lib.hid m3; clear m3
  have M4 := Lib.hid m4; clear m4
  have M5 := Lib.hid m5; clear m5
  have M6 := Lib.hid m6; clear m6
  have M7 := Lib.hid m7; clear m7
  have M8 := Lib.hid m8; clear m8
  have D1 := Lib.hid d1; clear d1
  have P1 := Lib.hid p1; clear p1
  have P2 := Lib.hid p2; clear p2
  have P3 := Lib.hid p3; clear p3
  have Q1 := Lib.hid q1; clear q1
  go_enter Try.func3, Try.ntmps3
  go_wp2_with fail
  refine (M1.out _).mono ?_
  rintro e w' ⟨rfl, rfl⟩
  go_wp2_with fail
  refine (M2.out _).mono ?_
  rintro e w' ⟨rfl, rfl⟩
  go_wp2_with fail
  refine (M3.out _).mono ?_
  rintro e w' ⟨rfl, rfl⟩
  go_wp2_with fail
  refine (M4.out _).mono ?_
  rintro e w' ⟨rfl, rfl⟩
  go_wp2_with fail
  refine (M1.out _).mono ?_
  rintro e w' ⟨rfl, rfl⟩
  go_wp2_with fail
  refine (M5.out _).mono ?_
  rintro e w' ⟨rfl, rfl⟩
  go_wp2_with fail
  refine (M6.out _).mono ?_
  rintro e w' ⟨rfl, rfl⟩
  go_wp2_with fail
  refine (M1.out _).mono ?_
  rintro e w' ⟨rfl, rfl⟩
  go_wp2_with fail
  refine (M7.out _).mono ?_
  rintro e w' ⟨rfl, rfl⟩
  go_wp2_with fail
  refine (M8.out _).mono ?_
  rintro e w' ⟨rfl, rfl⟩
  go_wp2_with fail
  refine (M1.out _).mono ?_
  rintro e w' ⟨rfl, rfl⟩
  go_wp2_with fail
  refine (D1.out _).mono ?_
  rintro e w' ⟨rfl, rfl⟩
  go_wp2_with fail
  refine (M1.out _).mono ?_
  rintro e w' ⟨rfl, rfl⟩
  go_wp2_with fail
  refine (P1.out _).mono ?_
  rintro e w' ⟨rfl, rfl⟩
  go_wp2_with fail
  refine (P2.out _).mono ?_
  rintro e w' ⟨rfl, rfl⟩
  go_wp2_with fail
  refine (Q1.out _).mono ?_
  rintro e w' ⟨rfl, rfl⟩
  go_wp2_with fail
  refine (P3.out _).mono ?_
  rintro e w' ⟨rfl, rfl⟩
  go_wp2_with fail
  refine (gfAwake_any _).mono ?_
  rintro e w' ⟨rfl, rfl⟩
  go_wp2
  go_ret
  exact ⟨rfl, Below.refl _ _⟩
theorem gfField_ok (W : World) (x0 : UInt8) (x1 : UInt8) (x2 : UInt8) (x3 : UInt16) (x4 : UInt16) :
    Calls Try.prog 3 #[.int .u8 x0.toNat, .int .u8 x1.toNat, .int .u8 x2.toNat, .int .u16 x3.toNat, .int .u16 x4.toNat] W fun e w' => e = .returned (.bool true) ∧ Below W.heap.size W w' := by
  by_cases ha : x0.toNat = 0
  · by_cases hb : x1.toNat = 0
    · rw [ha, hb]; exact gfField_zz W _ _ _ x2.toNat_lt x3.toNat_lt x4.toNat_lt
    · rw [ha]; exact gfField_zn W _ _ _ _ x1.toNat_lt x2.toNat_lt x3.toNat_lt x4.toNat_lt hb
  · by_cases hb : x1.toNat = 0
    · rw [hb]; exact gfField_nz W _ _ _ _ x0.toNat_lt x2.toNat_lt x3.toNat_lt x4.toNat_lt ha
    · exact gfField_nn W _ _ _ _ _ x0.toNat_lt x1.toNat_lt x2.toNat_lt x3.toNat_lt x4.toNat_lt ha hb
end Go.Proofs.Ytdgnhnhmcobfkaa
