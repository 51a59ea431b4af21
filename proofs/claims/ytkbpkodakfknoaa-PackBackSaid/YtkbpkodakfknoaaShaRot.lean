/- Words, turned: the walks of down and rot. -/
import Derived.Test.YtkbpkodakfknoaaShaSpec
import Derived.Test.YtkbpkodakfknoaaWords
import Derived.Test.YtkbpkodakfknoaaProg
namespace Go.Proofs.Ytkbpkodakfknoaa
open Go.RowKit
set_option linter.unusedVariables false
theorem wX (a b : UInt32) : bits .xor .u32 (a.toNat : Int) (b.toNat : Int) = ((uX a b).toNat : Int) := x32 a b
theorem wO (a b : UInt32) : bits .or .u32 (a.toNat : Int) (b.toNat : Int) = ((uO a b).toNat : Int) := o32 a b
theorem wN (a b : UInt32) : bits .and .u32 (a.toNat : Int) (b.toNat : Int) = ((uN a b).toNat : Int) := a32 a b
theorem wA (a b : UInt32) : ((a.toNat : Int) + (b.toNat : Int)) % 4294967296 = ((uA a b).toNat : Int) := by
  unfold uA; simp
theorem wA' (a b : UInt32) : IntKind.u32.wrap ((a.toNat : Int) + (b.toNat : Int)) = ((uA a b).toNat : Int) := by
  rw [IntKind.wrap_u32]; exact wA a b
theorem wC (a : UInt32) : (4294967295 : Int) - (a.toNat : Int) = ((uC a).toNat : Int) := not_sub32 a
theorem wR3 (a : UInt32) : (a.toNat : Int) / 8 = ((uR a 3).toNat : Int) := by unfold uR; simp [Nat.shiftRight_eq_div_pow]
theorem wR10 (a : UInt32) : (a.toNat : Int) / 1024 = ((uR a 10).toNat : Int) := by unfold uR; simp [Nat.shiftRight_eq_div_pow]
theorem rot_eq2 (x : UInt32) : bits .or .u32 ((x.toNat : Int) * (1073741824 : Int) % (4294967296 : Int)) ((x.toNat : Int) / (4 : Int)) = ((rotr x 2).toNat : Int) := by
  have e1 : (x.toNat : Int) * (1073741824 : Int) % (4294967296 : Int) = ((x <<< 30).toNat : Int) := by simp [Nat.shiftLeft_eq]
  have e2 : (x.toNat : Int) / (4 : Int) = ((x >>> 2).toNat : Int) := by simp [Nat.shiftRight_eq_div_pow]
  rw [e1, e2, o32, UInt32.or_comm]; rfl
theorem rot_qe2 (x : UInt32) : bits .or .u32 ((x.toNat : Int) / (4 : Int)) ((x.toNat : Int) * (1073741824 : Int) % (4294967296 : Int)) = ((rotr x 2).toNat : Int) := by
  have e1 : (x.toNat : Int) * (1073741824 : Int) % (4294967296 : Int) = ((x <<< 30).toNat : Int) := by simp [Nat.shiftLeft_eq]
  have e2 : (x.toNat : Int) / (4 : Int) = ((x >>> 2).toNat : Int) := by simp [Nat.shiftRight_eq_div_pow]
  rw [e1, e2, o32]; rfl
theorem rot_eq6 (x : UInt32) : bits .or .u32 ((x.toNat : Int) * (67108864 : Int) % (4294967296 : Int)) ((x.toNat : Int) / (64 : Int)) = ((rotr x 6).toNat : Int) := by
  have e1 : (x.toNat : Int) * (67108864 : Int) % (4294967296 : Int) = ((x <<< 26).toNat : Int) := by simp [Nat.shiftLeft_eq]
  have e2 : (x.toNat : Int) / (64 : Int) = ((x >>> 6).toNat : Int) := by simp [Nat.shiftRight_eq_div_pow]
  rw [e1, e2, o32, UInt32.or_comm]; rfl
theorem rot_qe6 (x : UInt32) : bits .or .u32 ((x.toNat : Int) / (64 : Int)) ((x.toNat : Int) * (67108864 : Int) % (4294967296 : Int)) = ((rotr x 6).toNat : Int) := by
  have e1 : (x.toNat : Int) * (67108864 : Int) % (4294967296 : Int) = ((x <<< 26).toNat : Int) := by simp [Nat.shiftLeft_eq]
  have e2 : (x.toNat : Int) / (64 : Int) = ((x >>> 6).toNat : Int) := by simp [Nat.shiftRight_eq_div_pow]
  rw [e1, e2, o32]; rfl
theorem rot_eq7 (x : UInt32) : bits .or .u32 ((x.toNat : Int) * (33554432 : Int) % (4294967296 : Int)) ((x.toNat : Int) / (128 : Int)) = ((rotr x 7).toNat : Int) := by
  have e1 : (x.toNat : Int) * (33554432 : Int) % (4294967296 : Int) = ((x <<< 25).toNat : Int) := by simp [Nat.shiftLeft_eq]
  have e2 : (x.toNat : Int) / (128 : Int) = ((x >>> 7).toNat : Int) := by simp [Nat.shiftRight_eq_div_pow]
  rw [e1, e2, o32, UInt32.or_comm]; rfl
theorem rot_qe7 (x : UInt32) : bits .or .u32 ((x.toNat : Int) / (128 : Int)) ((x.toNat : Int) * (33554432 : Int) % (4294967296 : Int)) = ((rotr x 7).toNat : Int) := by
  have e1 : (x.toNat : Int) * (33554432 : Int) % (4294967296 : Int) = ((x <<< 25).toNat : Int) := by simp [Nat.shiftLeft_eq]
  have e2 : (x.toNat : Int) / (128 : Int) = ((x >>> 7).toNat : Int) := by simp [Nat.shiftRight_eq_div_pow]
  rw [e1, e2, o32]; rfl
theorem rot_eq11 (x : UInt32) : bits .or .u32 ((x.toNat : Int) * (2097152 : Int) % (4294967296 : Int)) ((x.toNat : Int) / (2048 : Int)) = ((rotr x 11).toNat : Int) := by
  have e1 : (x.toNat : Int) * (2097152 : Int) % (4294967296 : Int) = ((x <<< 21).toNat : Int) := by simp [Nat.shiftLeft_eq]
  have e2 : (x.toNat : Int) / (2048 : Int) = ((x >>> 11).toNat : Int) := by simp [Nat.shiftRight_eq_div_pow]
  rw [e1, e2, o32, UInt32.or_comm]; rfl
theorem rot_qe11 (x : UInt32) : bits .or .u32 ((x.toNat : Int) / (2048 : Int)) ((x.toNat : Int) * (2097152 : Int) % (4294967296 : Int)) = ((rotr x 11).toNat : Int) := by
  have e1 : (x.toNat : Int) * (2097152 : Int) % (4294967296 : Int) = ((x <<< 21).toNat : Int) := by simp [Nat.shiftLeft_eq]
  have e2 : (x.toNat : Int) / (2048 : Int) = ((x >>> 11).toNat : Int) := by simp [Nat.shiftRight_eq_div_pow]
  rw [e1, e2, o32]; rfl
theorem rot_eq13 (x : UInt32) : bits .or .u32 ((x.toNat : Int) * (524288 : Int) % (4294967296 : Int)) ((x.toNat : Int) / (8192 : Int)) = ((rotr x 13).toNat : Int) := by
  have e1 : (x.toNat : Int) * (524288 : Int) % (4294967296 : Int) = ((x <<< 19).toNat : Int) := by simp [Nat.shiftLeft_eq]
  have e2 : (x.toNat : Int) / (8192 : Int) = ((x >>> 13).toNat : Int) := by simp [Nat.shiftRight_eq_div_pow]
  rw [e1, e2, o32, UInt32.or_comm]; rfl
theorem rot_qe13 (x : UInt32) : bits .or .u32 ((x.toNat : Int) / (8192 : Int)) ((x.toNat : Int) * (524288 : Int) % (4294967296 : Int)) = ((rotr x 13).toNat : Int) := by
  have e1 : (x.toNat : Int) * (524288 : Int) % (4294967296 : Int) = ((x <<< 19).toNat : Int) := by simp [Nat.shiftLeft_eq]
  have e2 : (x.toNat : Int) / (8192 : Int) = ((x >>> 13).toNat : Int) := by simp [Nat.shiftRight_eq_div_pow]
  rw [e1, e2, o32]; rfl
theorem rot_eq17 (x : UInt32) : bits .or .u32 ((x.toNat : Int) * (32768 : Int) % (4294967296 : Int)) ((x.toNat : Int) / (131072 : Int)) = ((rotr x 17).toNat : Int) := by
  have e1 : (x.toNat : Int) * (32768 : Int) % (4294967296 : Int) = ((x <<< 15).toNat : Int) := by simp [Nat.shiftLeft_eq]
  have e2 : (x.toNat : Int) / (131072 : Int) = ((x >>> 17).toNat : Int) := by simp [Nat.shiftRight_eq_div_pow]
  rw [e1, e2, o32, UInt32.or_comm]; rfl
theorem rot_qe17 (x : UInt32) : bits .or .u32 ((x.toNat : Int) / (131072 : Int)) ((x.toNat : Int) * (32768 : Int) % (4294967296 : Int)) = ((rotr x 17).toNat : Int) := by
  have e1 : (x.toNat : Int) * (32768 : Int) % (4294967296 : Int) = ((x <<< 15).toNat : Int) := by simp [Nat.shiftLeft_eq]
  have e2 : (x.toNat : Int) / (131072 : Int) = ((x >>> 17).toNat : Int) := by simp [Nat.shiftRight_eq_div_pow]
  rw [e1, e2, o32]; rfl
theorem rot_eq18 (x : UInt32) : bits .or .u32 ((x.toNat : Int) * (16384 : Int) % (4294967296 : Int)) ((x.toNat : Int) / (262144 : Int)) = ((rotr x 18).toNat : Int) := by
  have e1 : (x.toNat : Int) * (16384 : Int) % (4294967296 : Int) = ((x <<< 14).toNat : Int) := by simp [Nat.shiftLeft_eq]
  have e2 : (x.toNat : Int) / (262144 : Int) = ((x >>> 18).toNat : Int) := by simp [Nat.shiftRight_eq_div_pow]
  rw [e1, e2, o32, UInt32.or_comm]; rfl
theorem rot_qe18 (x : UInt32) : bits .or .u32 ((x.toNat : Int) / (262144 : Int)) ((x.toNat : Int) * (16384 : Int) % (4294967296 : Int)) = ((rotr x 18).toNat : Int) := by
  have e1 : (x.toNat : Int) * (16384 : Int) % (4294967296 : Int) = ((x <<< 14).toNat : Int) := by simp [Nat.shiftLeft_eq]
  have e2 : (x.toNat : Int) / (262144 : Int) = ((x >>> 18).toNat : Int) := by simp [Nat.shiftRight_eq_div_pow]
  rw [e1, e2, o32]; rfl
theorem rot_eq19 (x : UInt32) : bits .or .u32 ((x.toNat : Int) * (8192 : Int) % (4294967296 : Int)) ((x.toNat : Int) / (524288 : Int)) = ((rotr x 19).toNat : Int) := by
  have e1 : (x.toNat : Int) * (8192 : Int) % (4294967296 : Int) = ((x <<< 13).toNat : Int) := by simp [Nat.shiftLeft_eq]
  have e2 : (x.toNat : Int) / (524288 : Int) = ((x >>> 19).toNat : Int) := by simp [Nat.shiftRight_eq_div_pow]
  rw [e1, e2, o32, UInt32.or_comm]; rfl
theorem rot_qe19 (x : UInt32) : bits .or .u32 ((x.toNat : Int) / (524288 : Int)) ((x.toNat : Int) * (8192 : Int) % (4294967296 : Int)) = ((rotr x 19).toNat : Int) := by
  have e1 : (x.toNat : Int) * (8192 : Int) % (4294967296 : Int) = ((x <<< 13).toNat : Int) := by simp [Nat.shiftLeft_eq]
  have e2 : (x.toNat : Int) / (524288 : Int) = ((x >>> 19).toNat : Int) := by simp [Nat.shiftRight_eq_div_pow]
  rw [e1, e2, o32]; rfl
theorem rot_eq22 (x : UInt32) : bits .or .u32 ((x.toNat : Int) * (1024 : Int) % (4294967296 : Int)) ((x.toNat : Int) / (4194304 : Int)) = ((rotr x 22).toNat : Int) := by
  have e1 : (x.toNat : Int) * (1024 : Int) % (4294967296 : Int) = ((x <<< 10).toNat : Int) := by simp [Nat.shiftLeft_eq]
  have e2 : (x.toNat : Int) / (4194304 : Int) = ((x >>> 22).toNat : Int) := by simp [Nat.shiftRight_eq_div_pow]
  rw [e1, e2, o32, UInt32.or_comm]; rfl
theorem rot_qe22 (x : UInt32) : bits .or .u32 ((x.toNat : Int) / (4194304 : Int)) ((x.toNat : Int) * (1024 : Int) % (4294967296 : Int)) = ((rotr x 22).toNat : Int) := by
  have e1 : (x.toNat : Int) * (1024 : Int) % (4294967296 : Int) = ((x <<< 10).toNat : Int) := by simp [Nat.shiftLeft_eq]
  have e2 : (x.toNat : Int) / (4194304 : Int) = ((x >>> 22).toNat : Int) := by simp [Nat.shiftRight_eq_div_pow]
  rw [e1, e2, o32]; rfl
theorem rot_eq25 (x : UInt32) : bits .or .u32 ((x.toNat : Int) * (128 : Int) % (4294967296 : Int)) ((x.toNat : Int) / (33554432 : Int)) = ((rotr x 25).toNat : Int) := by
  have e1 : (x.toNat : Int) * (128 : Int) % (4294967296 : Int) = ((x <<< 7).toNat : Int) := by simp [Nat.shiftLeft_eq]
  have e2 : (x.toNat : Int) / (33554432 : Int) = ((x >>> 25).toNat : Int) := by simp [Nat.shiftRight_eq_div_pow]
  rw [e1, e2, o32, UInt32.or_comm]; rfl
theorem rot_qe25 (x : UInt32) : bits .or .u32 ((x.toNat : Int) / (33554432 : Int)) ((x.toNat : Int) * (128 : Int) % (4294967296 : Int)) = ((rotr x 25).toNat : Int) := by
  have e1 : (x.toNat : Int) * (128 : Int) % (4294967296 : Int) = ((x <<< 7).toNat : Int) := by simp [Nat.shiftLeft_eq]
  have e2 : (x.toNat : Int) / (33554432 : Int) = ((x >>> 25).toNat : Int) := by simp [Nat.shiftRight_eq_div_pow]
  rw [e1, e2, o32]; rfl
theorem down2_any (x : UInt32) (w : World) : Calls Try.prog 80 #[.int .u32 x.toNat, .int .i64 2] w fun e w' => e = .returned (.int .u32 (rotr x 2).toNat) ∧ w = w' := by
  have h := rot_eq2 x
  have hb : bits .and .u64 (IntKind.u64.wrap (-2)) 31 = 30 := by decide +kernel
  have hx := x.toNat_lt
  generalize x.toNat = n at *
  go_enter Try.func80, Try.ntmps80
  go_wp2
  go_ret
  exact ⟨by first | rfl | (rw [← h]; rfl), rfl⟩
theorem rot2_any (x : UInt32) (w : World) : Calls Try.prog 54 #[.int .u32 x.toNat, .int .u64 2] w fun e w' => e = .returned (.int .u32 (rotr x 2).toNat) ∧ w = w' := by
  have h := rot_qe2 x
  have hx := x.toNat_lt
  generalize x.toNat = n at *
  go_enter Try.func54, Try.ntmps54
  go_wp2
  go_ret
  exact ⟨by first | rfl | (rw [← h]; rfl), rfl⟩
theorem down6_any (x : UInt32) (w : World) : Calls Try.prog 80 #[.int .u32 x.toNat, .int .i64 6] w fun e w' => e = .returned (.int .u32 (rotr x 6).toNat) ∧ w = w' := by
  have h := rot_eq6 x
  have hb : bits .and .u64 (IntKind.u64.wrap (-6)) 31 = 26 := by decide +kernel
  have hx := x.toNat_lt
  generalize x.toNat = n at *
  go_enter Try.func80, Try.ntmps80
  go_wp2
  go_ret
  exact ⟨by first | rfl | (rw [← h]; rfl), rfl⟩
theorem rot6_any (x : UInt32) (w : World) : Calls Try.prog 54 #[.int .u32 x.toNat, .int .u64 6] w fun e w' => e = .returned (.int .u32 (rotr x 6).toNat) ∧ w = w' := by
  have h := rot_qe6 x
  have hx := x.toNat_lt
  generalize x.toNat = n at *
  go_enter Try.func54, Try.ntmps54
  go_wp2
  go_ret
  exact ⟨by first | rfl | (rw [← h]; rfl), rfl⟩
theorem down7_any (x : UInt32) (w : World) : Calls Try.prog 80 #[.int .u32 x.toNat, .int .i64 7] w fun e w' => e = .returned (.int .u32 (rotr x 7).toNat) ∧ w = w' := by
  have h := rot_eq7 x
  have hb : bits .and .u64 (IntKind.u64.wrap (-7)) 31 = 25 := by decide +kernel
  have hx := x.toNat_lt
  generalize x.toNat = n at *
  go_enter Try.func80, Try.ntmps80
  go_wp2
  go_ret
  exact ⟨by first | rfl | (rw [← h]; rfl), rfl⟩
theorem rot7_any (x : UInt32) (w : World) : Calls Try.prog 54 #[.int .u32 x.toNat, .int .u64 7] w fun e w' => e = .returned (.int .u32 (rotr x 7).toNat) ∧ w = w' := by
  have h := rot_qe7 x
  have hx := x.toNat_lt
  generalize x.toNat = n at *
  go_enter Try.func54, Try.ntmps54
  go_wp2
  go_ret
  exact ⟨by first | rfl | (rw [← h]; rfl), rfl⟩
theorem down11_any (x : UInt32) (w : World) : Calls Try.prog 80 #[.int .u32 x.toNat, .int .i64 11] w fun e w' => e = .returned (.int .u32 (rotr x 11).toNat) ∧ w = w' := by
  have h := rot_eq11 x
  have hb : bits .and .u64 (IntKind.u64.wrap (-11)) 31 = 21 := by decide +kernel
  have hx := x.toNat_lt
  generalize x.toNat = n at *
  go_enter Try.func80, Try.ntmps80
  go_wp2
  go_ret
  exact ⟨by first | rfl | (rw [← h]; rfl), rfl⟩
theorem rot11_any (x : UInt32) (w : World) : Calls Try.prog 54 #[.int .u32 x.toNat, .int .u64 11] w fun e w' => e = .returned (.int .u32 (rotr x 11).toNat) ∧ w = w' := by
  have h := rot_qe11 x
  have hx := x.toNat_lt
  generalize x.toNat = n at *
  go_enter Try.func54, Try.ntmps54
  go_wp2
  go_ret
  exact ⟨by first | rfl | (rw [← h]; rfl), rfl⟩
theorem down13_any (x : UInt32) (w : World) : Calls Try.prog 80 #[.int .u32 x.toNat, .int .i64 13] w fun e w' => e = .returned (.int .u32 (rotr x 13).toNat) ∧ w = w' := by
  have h := rot_eq13 x
  have hb : bits .and .u64 (IntKind.u64.wrap (-13)) 31 = 19 := by decide +kernel
  have hx := x.toNat_lt
  generalize x.toNat = n at *
  go_enter Try.func80, Try.ntmps80
  go_wp2
  go_ret
  exact ⟨by first | rfl | (rw [← h]; rfl), rfl⟩
theorem rot13_any (x : UInt32) (w : World) : Calls Try.prog 54 #[.int .u32 x.toNat, .int .u64 13] w fun e w' => e = .returned (.int .u32 (rotr x 13).toNat) ∧ w = w' := by
  have h := rot_qe13 x
  have hx := x.toNat_lt
  generalize x.toNat = n at *
  go_enter Try.func54, Try.ntmps54
  go_wp2
  go_ret
  exact ⟨by first | rfl | (rw [← h]; rfl), rfl⟩
theorem down17_any (x : UInt32) (w : World) : Calls Try.prog 80 #[.int .u32 x.toNat, .int .i64 17] w fun e w' => e = .returned (.int .u32 (rotr x 17).toNat) ∧ w = w' := by
  have h := rot_eq17 x
  have hb : bits .and .u64 (IntKind.u64.wrap (-17)) 31 = 15 := by decide +kernel
  have hx := x.toNat_lt
  generalize x.toNat = n at *
  go_enter Try.func80, Try.ntmps80
  go_wp2
  go_ret
  exact ⟨by first | rfl | (rw [← h]; rfl), rfl⟩
theorem rot17_any (x : UInt32) (w : World) : Calls Try.prog 54 #[.int .u32 x.toNat, .int .u64 17] w fun e w' => e = .returned (.int .u32 (rotr x 17).toNat) ∧ w = w' := by
  have h := rot_qe17 x
  have hx := x.toNat_lt
  generalize x.toNat = n at *
  go_enter Try.func54, Try.ntmps54
  go_wp2
  go_ret
  exact ⟨by first | rfl | (rw [← h]; rfl), rfl⟩
theorem down18_any (x : UInt32) (w : World) : Calls Try.prog 80 #[.int .u32 x.toNat, .int .i64 18] w fun e w' => e = .returned (.int .u32 (rotr x 18).toNat) ∧ w = w' := by
  have h := rot_eq18 x
  have hb : bits .and .u64 (IntKind.u64.wrap (-18)) 31 = 14 := by decide +kernel
  have hx := x.toNat_lt
  generalize x.toNat = n at *
  go_enter Try.func80, Try.ntmps80
  go_wp2
  go_ret
  exact ⟨by first | rfl | (rw [← h]; rfl), rfl⟩
theorem rot18_any (x : UInt32) (w : World) : Calls Try.prog 54 #[.int .u32 x.toNat, .int .u64 18] w fun e w' => e = .returned (.int .u32 (rotr x 18).toNat) ∧ w = w' := by
  have h := rot_qe18 x
  have hx := x.toNat_lt
  generalize x.toNat = n at *
  go_enter Try.func54, Try.ntmps54
  go_wp2
  go_ret
  exact ⟨by first | rfl | (rw [← h]; rfl), rfl⟩
theorem down19_any (x : UInt32) (w : World) : Calls Try.prog 80 #[.int .u32 x.toNat, .int .i64 19] w fun e w' => e = .returned (.int .u32 (rotr x 19).toNat) ∧ w = w' := by
  have h := rot_eq19 x
  have hb : bits .and .u64 (IntKind.u64.wrap (-19)) 31 = 13 := by decide +kernel
  have hx := x.toNat_lt
  generalize x.toNat = n at *
  go_enter Try.func80, Try.ntmps80
  go_wp2
  go_ret
  exact ⟨by first | rfl | (rw [← h]; rfl), rfl⟩
theorem rot19_any (x : UInt32) (w : World) : Calls Try.prog 54 #[.int .u32 x.toNat, .int .u64 19] w fun e w' => e = .returned (.int .u32 (rotr x 19).toNat) ∧ w = w' := by
  have h := rot_qe19 x
  have hx := x.toNat_lt
  generalize x.toNat = n at *
  go_enter Try.func54, Try.ntmps54
  go_wp2
  go_ret
  exact ⟨by first | rfl | (rw [← h]; rfl), rfl⟩
theorem down22_any (x : UInt32) (w : World) : Calls Try.prog 80 #[.int .u32 x.toNat, .int .i64 22] w fun e w' => e = .returned (.int .u32 (rotr x 22).toNat) ∧ w = w' := by
  have h := rot_eq22 x
  have hb : bits .and .u64 (IntKind.u64.wrap (-22)) 31 = 10 := by decide +kernel
  have hx := x.toNat_lt
  generalize x.toNat = n at *
  go_enter Try.func80, Try.ntmps80
  go_wp2
  go_ret
  exact ⟨by first | rfl | (rw [← h]; rfl), rfl⟩
theorem rot22_any (x : UInt32) (w : World) : Calls Try.prog 54 #[.int .u32 x.toNat, .int .u64 22] w fun e w' => e = .returned (.int .u32 (rotr x 22).toNat) ∧ w = w' := by
  have h := rot_qe22 x
  have hx := x.toNat_lt
  generalize x.toNat = n at *
  go_enter Try.func54, Try.ntmps54
  go_wp2
  go_ret
  exact ⟨by first | rfl | (rw [← h]; rfl), rfl⟩
theorem down25_any (x : UInt32) (w : World) : Calls Try.prog 80 #[.int .u32 x.toNat, .int .i64 25] w fun e w' => e = .returned (.int .u32 (rotr x 25).toNat) ∧ w = w' := by
  have h := rot_eq25 x
  have hb : bits .and .u64 (IntKind.u64.wrap (-25)) 31 = 7 := by decide +kernel
  have hx := x.toNat_lt
  generalize x.toNat = n at *
  go_enter Try.func80, Try.ntmps80
  go_wp2
  go_ret
  exact ⟨by first | rfl | (rw [← h]; rfl), rfl⟩
theorem rot25_any (x : UInt32) (w : World) : Calls Try.prog 54 #[.int .u32 x.toNat, .int .u64 25] w fun e w' => e = .returned (.int .u32 (rotr x 25).toNat) ∧ w = w' := by
  have h := rot_qe25 x
  have hx := x.toNat_lt
  generalize x.toNat = n at *
  go_enter Try.func54, Try.ntmps54
  go_wp2
  go_ret
  exact ⟨by first | rfl | (rw [← h]; rfl), rfl⟩
end Go.Proofs.Ytkbpkodakfknoaa
