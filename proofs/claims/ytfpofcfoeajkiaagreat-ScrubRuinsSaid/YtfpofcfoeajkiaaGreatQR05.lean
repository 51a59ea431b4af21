/- Texts of this claim's author, packed: ShaRot, Strs, ShaMem, ShaSched. Conditions: none. -/
import Derived.Test.YtfpofcfoeajkiaaGreatQR04
import Derived.Test.YtfpofcfoeajkiaaGreatQR01
import Derived.Test.YtfpofcfoeajkiaaGreatProg
import Derived.Laws.AppendOwn
import Derived.Lib.Hide
import Derived.OwnWalk
import Derived.Laws.Rows
import Derived.Outline
import Derived.BigRegion
import Derived.StillTailTactics
import Derived.Deep.QuietTactic
import Derived.BigQuiet
/- Words, turned: the walks of down and rot. -/
namespace Go.Proofs.YtfpofcfoeajkiaaGreat
open Go.RowKit
set_option linter.unusedVariables false
theorem wX (a b : UInt32) : bits .xor .u32 (a.toNat : Int) (b.toNat : Int) = ((uX a b).toNat : Int) := x32 a b
theorem wO (a b : UInt32) : bits .or .u32 (a.toNat : Int) (b.toNat : Int) = ((uO a b).toNat : Int) := o32 a b
theorem wN (a b : UInt32) : bits .and .u32 (a.toNat : Int) (b.toNat : Int) = ((uN a b).toNat : Int) := a32 a b
theorem wA (a b : UInt32) : ((a.toNat : Int) + (b.toNat : Int)) % 4294967296 = ((uA a b).toNat : Int) := by
  unfold uA; simp
theorem wA' (a b : UInt32) : IntKind.u32.wrap ((a.toNat : Int) + (b.toNat : Int)) = ((uA a b).toNat : Int) := by
  rw [IntKind.wrap_u32]; exact wA a b
theorem wC (a : UInt32) : (4294967295 : Int) - (a.toNat : Int) = ((uC a).toNat : Int) := not_sub32 a
theorem wR3 (a : UInt32) : (a.toNat : Int) / 8 = ((uR a 3).toNat : Int) := by unfold uR; simp [Nat.shiftRight_eq_div_pow]
theorem wR10 (a : UInt32) : (a.toNat : Int) / 1024 = ((uR a 10).toNat : Int) := by unfold uR; simp [Nat.shiftRight_eq_div_pow]
theorem rot_eq2 (x : UInt32) : bits .or .u32 ((x.toNat : Int) * (1073741824 : Int) % (4294967296 : Int)) ((x.toNat : Int) / (4 : Int)) = ((rotr x 2).toNat : Int) := by
  have e1 : (x.toNat : Int) * (1073741824 : Int) % (4294967296 : Int) = ((x <<< 30).toNat : Int) := by simp [Nat.shiftLeft_eq]
  have e2 : (x.toNat : Int) / (4 : Int) = ((x >>> 2).toNat : Int) := by simp [Nat.shiftRight_eq_div_pow]
  rw [e1, e2, o32, UInt32.or_comm]; rfl
theorem rot_qe2 (x : UInt32) : bits .or .u32 ((x.toNat : Int) / (4 : Int)) ((x.toNat : Int) * (1073741824 : Int) % (4294967296 : Int)) = ((rotr x 2).toNat : Int) := by
  have e1 : (x.toNat : Int) * (1073741824 : Int) % (4294967296 : Int) = ((x <<< 30).toNat : Int) := by simp [Nat.shiftLeft_eq]
  have e2 : (x.toNat : Int) / (4 : Int) = ((x >>> 2).toNat : Int) := by simp [Nat.shiftRight_eq_div_pow]
  rw [e1, e2, o32]; rfl
theorem rot_eq6 (x : UInt32) : bits .or .u32 ((x.toNat : Int) * (67108864 : Int) % (4294967296 : Int)) ((x.toNat : Int) / (64 : Int)) = ((rotr x 6).toNat : Int) := by
  have e1 : (x.toNat : Int) * (67108864 : Int) % (4294967296 : Int) = ((x <<< 26).toNat : Int) := by simp [Nat.shiftLeft_eq]
  have e2 : (x.toNat : Int) / (64 : Int) = ((x >>> 6).toNat : Int) := by simp [Nat.shiftRight_eq_div_pow]
  rw [e1, e2, o32, UInt32.or_comm]; rfl
theorem rot_qe6 (x : UInt32) : bits .or .u32 ((x.toNat : Int) / (64 : Int)) ((x.toNat : Int) * (67108864 : Int) % (4294967296 : Int)) = ((rotr x 6).toNat : Int) := by
  have e1 : (x.toNat : Int) * (67108864 : Int) % (4294967296 : Int) = ((x <<< 26).toNat : Int) := by simp [Nat.shiftLeft_eq]
  have e2 : (x.toNat : Int) / (64 : Int) = ((x >>> 6).toNat : Int) := by simp [Nat.shiftRight_eq_div_pow]
  rw [e1, e2, o32]; rfl
theorem rot_eq7 (x : UInt32) : bits .or .u32 ((x.toNat : Int) * (33554432 : Int) % (4294967296 : Int)) ((x.toNat : Int) / (128 : Int)) = ((rotr x 7).toNat : Int) := by
  have e1 : (x.toNat : Int) * (33554432 : Int) % (4294967296 : Int) = ((x <<< 25).toNat : Int) := by simp [Nat.shiftLeft_eq]
  have e2 : (x.toNat : Int) / (128 : Int) = ((x >>> 7).toNat : Int) := by simp [Nat.shiftRight_eq_div_pow]
  rw [e1, e2, o32, UInt32.or_comm]; rfl
theorem rot_qe7 (x : UInt32) : bits .or .u32 ((x.toNat : Int) / (128 : Int)) ((x.toNat : Int) * (33554432 : Int) % (4294967296 : Int)) = ((rotr x 7).toNat : Int) := by
  have e1 : (x.toNat : Int) * (33554432 : Int) % (4294967296 : Int) = ((x <<< 25).toNat : Int) := by simp [Nat.shiftLeft_eq]
  have e2 : (x.toNat : Int) / (128 : Int) = ((x >>> 7).toNat : Int) := by simp [Nat.shiftRight_eq_div_pow]
  rw [e1, e2, o32]; rfl
theorem rot_eq11 (x : UInt32) : bits .or .u32 ((x.toNat : Int) * (2097152 : Int) % (4294967296 : Int)) ((x.toNat : Int) / (2048 : Int)) = ((rotr x 11).toNat : Int) := by
  have e1 : (x.toNat : Int) * (2097152 : Int) % (4294967296 : Int) = ((x <<< 21).toNat : Int) := by simp [Nat.shiftLeft_eq]
  have e2 : (x.toNat : Int) / (2048 : Int) = ((x >>> 11).toNat : Int) := by simp [Nat.shiftRight_eq_div_pow]
  rw [e1, e2, o32, UInt32.or_comm]; rfl
theorem rot_qe11 (x : UInt32) : bits .or .u32 ((x.toNat : Int) / (2048 : Int)) ((x.toNat : Int) * (2097152 : Int) % (4294967296 : Int)) = ((rotr x 11).toNat : Int) := by
  have e1 : (x.toNat : Int) * (2097152 : Int) % (4294967296 : Int) = ((x <<< 21).toNat : Int) := by simp [Nat.shiftLeft_eq]
  have e2 : (x.toNat : Int) / (2048 : Int) = ((x >>> 11).toNat : Int) := by simp [Nat.shiftRight_eq_div_pow]
  rw [e1, e2, o32]; rfl
theorem rot_eq13 (x : UInt32) : bits .or .u32 ((x.toNat : Int) * (524288 : Int) % (4294967296 : Int)) ((x.toNat : Int) / (8192 : Int)) = ((rotr x 13).toNat : Int) := by
  have e1 : (x.toNat : Int) * (524288 : Int) % (4294967296 : Int) = ((x <<< 19).toNat : Int) := by simp [Nat.shiftLeft_eq]
  have e2 : (x.toNat : Int) / (8192 : Int) = ((x >>> 13).toNat : Int) := by simp [Nat.shiftRight_eq_div_pow]
  rw [e1, e2, o32, UInt32.or_comm]; rfl
theorem rot_qe13 (x : UInt32) : bits .or .u32 ((x.toNat : Int) / (8192 : Int)) ((x.toNat : Int) * (524288 : Int) % (4294967296 : Int)) = ((rotr x 13).toNat : Int) := by
  have e1 : (x.toNat : Int) * (524288 : Int) % (4294967296 : Int) = ((x <<< 19).toNat : Int) := by simp [Nat.shiftLeft_eq]
  have e2 : (x.toNat : Int) / (8192 : Int) = ((x >>> 13).toNat : Int) := by simp [Nat.shiftRight_eq_div_pow]
  rw [e1, e2, o32]; rfl
theorem rot_eq17 (x : UInt32) : bits .or .u32 ((x.toNat : Int) * (32768 : Int) % (4294967296 : Int)) ((x.toNat : Int) / (131072 : Int)) = ((rotr x 17).toNat : Int) := by
  have e1 : (x.toNat : Int) * (32768 : Int) % (4294967296 : Int) = ((x <<< 15).toNat : Int) := by simp [Nat.shiftLeft_eq]
  have e2 : (x.toNat : Int) / (131072 : Int) = ((x >>> 17).toNat : Int) := by simp [Nat.shiftRight_eq_div_pow]
  rw [e1, e2, o32, UInt32.or_comm]; rfl
theorem rot_qe17 (x : UInt32) : bits .or .u32 ((x.toNat : Int) / (131072 : Int)) ((x.toNat : Int) * (32768 : Int) % (4294967296 : Int)) = ((rotr x 17).toNat : Int) := by
  have e1 : (x.toNat : Int) * (32768 : Int) % (4294967296 : Int) = ((x <<< 15).toNat : Int) := by simp [Nat.shiftLeft_eq]
  have e2 : (x.toNat : Int) / (131072 : Int) = ((x >>> 17).toNat : Int) := by simp [Nat.shiftRight_eq_div_pow]
  rw [e1, e2, o32]; rfl
theorem rot_eq18 (x : UInt32) : bits .or .u32 ((x.toNat : Int) * (16384 : Int) % (4294967296 : Int)) ((x.toNat : Int) / (262144 : Int)) = ((rotr x 18).toNat : Int) := by
  have e1 : (x.toNat : Int) * (16384 : Int) % (4294967296 : Int) = ((x <<< 14).toNat : Int) := by simp [Nat.shiftLeft_eq]
  have e2 : (x.toNat : Int) / (262144 : Int) = ((x >>> 18).toNat : Int) := by simp [Nat.shiftRight_eq_div_pow]
  rw [e1, e2, o32, UInt32.or_comm]; rfl
theorem rot_qe18 (x : UInt32) : bits .or .u32 ((x.toNat : Int) / (262144 : Int)) ((x.toNat : Int) * (16384 : Int) % (4294967296 : Int)) = ((rotr x 18).toNat : Int) := by
  have e1 : (x.toNat : Int) * (16384 : Int) % (4294967296 : Int) = ((x <<< 14).toNat : Int) := by simp [Nat.shiftLeft_eq]
  have e2 : (x.toNat : Int) / (262144 : Int) = ((x >>> 18).toNat : Int) := by simp [Nat.shiftRight_eq_div_pow]
  rw [e1, e2, o32]; rfl
theorem rot_eq19 (x : UInt32) : bits .or .u32 ((x.toNat : Int) * (8192 : Int) % (4294967296 : Int)) ((x.toNat : Int) / (524288 : Int)) = ((rotr x 19).toNat : Int) := by
  have e1 : (x.toNat : Int) * (8192 : Int) % (4294967296 : Int) = ((x <<< 13).toNat : Int) := by simp [Nat.shiftLeft_eq]
  have e2 : (x.toNat : Int) / (524288 : Int) = ((x >>> 19).toNat : Int) := by simp [Nat.shiftRight_eq_div_pow]
  rw [e1, e2, o32, UInt32.or_comm]; rfl
theorem rot_qe19 (x : UInt32) : bits .or .u32 ((x.toNat : Int) / (524288 : Int)) ((x.toNat : Int) * (8192 : Int) % (4294967296 : Int)) = ((rotr x 19).toNat : Int) := by
  have e1 : (x.toNat : Int) * (8192 : Int) % (4294967296 : Int) = ((x <<< 13).toNat : Int) := by simp [Nat.shiftLeft_eq]
  have e2 : (x.toNat : Int) / (524288 : Int) = ((x >>> 19).toNat : Int) := by simp [Nat.shiftRight_eq_div_pow]
  rw [e1, e2, o32]; rfl
theorem rot_eq22 (x : UInt32) : bits .or .u32 ((x.toNat : Int) * (1024 : Int) % (4294967296 : Int)) ((x.toNat : Int) / (4194304 : Int)) = ((rotr x 22).toNat : Int) := by
  have e1 : (x.toNat : Int) * (1024 : Int) % (4294967296 : Int) = ((x <<< 10).toNat : Int) := by simp [Nat.shiftLeft_eq]
  have e2 : (x.toNat : Int) / (4194304 : Int) = ((x >>> 22).toNat : Int) := by simp [Nat.shiftRight_eq_div_pow]
  rw [e1, e2, o32, UInt32.or_comm]; rfl
theorem rot_qe22 (x : UInt32) : bits .or .u32 ((x.toNat : Int) / (4194304 : Int)) ((x.toNat : Int) * (1024 : Int) % (4294967296 : Int)) = ((rotr x 22).toNat : Int) := by
  have e1 : (x.toNat : Int) * (1024 : Int) % (4294967296 : Int) = ((x <<< 10).toNat : Int) := by simp [Nat.shiftLeft_eq]
  have e2 : (x.toNat : Int) / (4194304 : Int) = ((x >>> 22).toNat : Int) := by simp [Nat.shiftRight_eq_div_pow]
  rw [e1, e2, o32]; rfl
theorem rot_eq25 (x : UInt32) : bits .or .u32 ((x.toNat : Int) * (128 : Int) % (4294967296 : Int)) ((x.toNat : Int) / (33554432 : Int)) = ((rotr x 25).toNat : Int) := by
  have e1 : (x.toNat : Int) * (128 : Int) % (4294967296 : Int) = ((x <<< 7).toNat : Int) := by simp [Nat.shiftLeft_eq]
  have e2 : (x.toNat : Int) / (33554432 : Int) = ((x >>> 25).toNat : Int) := by simp [Nat.shiftRight_eq_div_pow]
  rw [e1, e2, o32, UInt32.or_comm]; rfl
theorem rot_qe25 (x : UInt32) : bits .or .u32 ((x.toNat : Int) / (33554432 : Int)) ((x.toNat : Int) * (128 : Int) % (4294967296 : Int)) = ((rotr x 25).toNat : Int) := by
  have e1 : (x.toNat : Int) * (128 : Int) % (4294967296 : Int) = ((x <<< 7).toNat : Int) := by simp [Nat.shiftLeft_eq]
  have e2 : (x.toNat : Int) / (33554432 : Int) = ((x >>> 25).toNat : Int) := by simp [Nat.shiftRight_eq_div_pow]
  rw [e1, e2, o32]; rfl
theorem down2_any (x : UInt32) (w : World) : Calls Tryz.prog 118 #[.int .u32 x.toNat, .int .i64 2] w fun e w' => e = .returned (.int .u32 (rotr x 2).toNat) ∧ w = w' := by
  have h := rot_eq2 x
  have hb : bits .and .u64 (IntKind.u64.wrap (-2)) 31 = 30 := by decide +kernel
  have hx := x.toNat_lt
  generalize x.toNat = n at *
  go_enter Tryz.func118, Tryz.ntmps118
  go_wp2
  go_ret
  exact ⟨by first | rfl | (rw [← h]; rfl), rfl⟩
theorem rot2_any (x : UInt32) (w : World) : Calls Tryz.prog 77 #[.int .u32 x.toNat, .int .u64 2] w fun e w' => e = .returned (.int .u32 (rotr x 2).toNat) ∧ w = w' := by
  have h := rot_qe2 x
  have hx := x.toNat_lt
  generalize x.toNat = n at *
  go_enter Tryz.func77, Tryz.ntmps77
  go_wp2
  go_ret
  exact ⟨by first | rfl | (rw [← h]; rfl), rfl⟩
theorem down6_any (x : UInt32) (w : World) : Calls Tryz.prog 118 #[.int .u32 x.toNat, .int .i64 6] w fun e w' => e = .returned (.int .u32 (rotr x 6).toNat) ∧ w = w' := by
  have h := rot_eq6 x
  have hb : bits .and .u64 (IntKind.u64.wrap (-6)) 31 = 26 := by decide +kernel
  have hx := x.toNat_lt
  generalize x.toNat = n at *
  go_enter Tryz.func118, Tryz.ntmps118
  go_wp2
  go_ret
  exact ⟨by first | rfl | (rw [← h]; rfl), rfl⟩
theorem rot6_any (x : UInt32) (w : World) : Calls Tryz.prog 77 #[.int .u32 x.toNat, .int .u64 6] w fun e w' => e = .returned (.int .u32 (rotr x 6).toNat) ∧ w = w' := by
  have h := rot_qe6 x
  have hx := x.toNat_lt
  generalize x.toNat = n at *
  go_enter Tryz.func77, Tryz.ntmps77
  go_wp2
  go_ret
  exact ⟨by first | rfl | (rw [← h]; rfl), rfl⟩
theorem down7_any (x : UInt32) (w : World) : Calls Tryz.prog 118 #[.int .u32 x.toNat, .int .i64 7] w fun e w' => e = .returned (.int .u32 (rotr x 7).toNat) ∧ w = w' := by
  have h := rot_eq7 x
  have hb : bits .and .u64 (IntKind.u64.wrap (-7)) 31 = 25 := by decide +kernel
  have hx := x.toNat_lt
  generalize x.toNat = n at *
  go_enter Tryz.func118, Tryz.ntmps118
  go_wp2
  go_ret
  exact ⟨by first | rfl | (rw [← h]; rfl), rfl⟩
theorem rot7_any (x : UInt32) (w : World) : Calls Tryz.prog 77 #[.int .u32 x.toNat, .int .u64 7] w fun e w' => e = .returned (.int .u32 (rotr x 7).toNat) ∧ w = w' := by
  have h := rot_qe7 x
  have hx := x.toNat_lt
  generalize x.toNat = n at *
  go_enter Tryz.func77, Tryz.ntmps77
  go_wp2
  go_ret
  exact ⟨by first | rfl | (rw [← h]; rfl), rfl⟩
theorem down11_any (x : UInt32) (w : World) : Calls Tryz.prog 118 #[.int .u32 x.toNat, .int .i64 11] w fun e w' => e = .returned (.int .u32 (rotr x 11).toNat) ∧ w = w' := by
  have h := rot_eq11 x
  have hb : bits .and .u64 (IntKind.u64.wrap (-11)) 31 = 21 := by decide +kernel
  have hx := x.toNat_lt
  generalize x.toNat = n at *
  go_enter Tryz.func118, Tryz.ntmps118
  go_wp2
  go_ret
  exact ⟨by first | rfl | (rw [← h]; rfl), rfl⟩
theorem rot11_any (x : UInt32) (w : World) : Calls Tryz.prog 77 #[.int .u32 x.toNat, .int .u64 11] w fun e w' => e = .returned (.int .u32 (rotr x 11).toNat) ∧ w = w' := by
  have h := rot_qe11 x
  have hx := x.toNat_lt
  generalize x.toNat = n at *
  go_enter Tryz.func77, Tryz.ntmps77
  go_wp2
  go_ret
  exact ⟨by first | rfl | (rw [← h]; rfl), rfl⟩
theorem down13_any (x : UInt32) (w : World) : Calls Tryz.prog 118 #[.int .u32 x.toNat, .int .i64 13] w fun e w' => e = .returned (.int .u32 (rotr x 13).toNat) ∧ w = w' := by
  have h := rot_eq13 x
  have hb : bits .and .u64 (IntKind.u64.wrap (-13)) 31 = 19 := by decide +kernel
  have hx := x.toNat_lt
  generalize x.toNat = n at *
  go_enter Tryz.func118, Tryz.ntmps118
  go_wp2
  go_ret
  exact ⟨by first | rfl | (rw [← h]; rfl), rfl⟩
theorem rot13_any (x : UInt32) (w : World) : Calls Tryz.prog 77 #[.int .u32 x.toNat, .int .u64 13] w fun e w' => e = .returned (.int .u32 (rotr x 13).toNat) ∧ w = w' := by
  have h := rot_qe13 x
  have hx := x.toNat_lt
  generalize x.toNat = n at *
  go_enter Tryz.func77, Tryz.ntmps77
  go_wp2
  go_ret
  exact ⟨by first | rfl | (rw [← h]; rfl), rfl⟩
theorem down17_any (x : UInt32) (w : World) : Calls Tryz.prog 118 #[.int .u32 x.toNat, .int .i64 17] w fun e w' => e = .returned (.int .u32 (rotr x 17).toNat) ∧ w = w' := by
  have h := rot_eq17 x
  have hb : bits .and .u64 (IntKind.u64.wrap (-17)) 31 = 15 := by decide +kernel
  have hx := x.toNat_lt
  generalize x.toNat = n at *
  go_enter Tryz.func118, Tryz.ntmps118
  go_wp2
  go_ret
  exact ⟨by first | rfl | (rw [← h]; rfl), rfl⟩
theorem rot17_any (x : UInt32) (w : World) : Calls Tryz.prog 77 #[.int .u32 x.toNat, .int .u64 17] w fun e w' => e = .returned (.int .u32 (rotr x 17).toNat) ∧ w = w' := by
  have h := rot_qe17 x
  have hx := x.toNat_lt
  generalize x.toNat = n at *
  go_enter Tryz.func77, Tryz.ntmps77
  go_wp2
  go_ret
  exact ⟨by first | rfl | (rw [← h]; rfl), rfl⟩
theorem down18_any (x : UInt32) (w : World) : Calls Tryz.prog 118 #[.int .u32 x.toNat, .int .i64 18] w fun e w' => e = .returned (.int .u32 (rotr x 18).toNat) ∧ w = w' := by
  have h := rot_eq18 x
  have hb : bits .and .u64 (IntKind.u64.wrap (-18)) 31 = 14 := by decide +kernel
  have hx := x.toNat_lt
  generalize x.toNat = n at *
  go_enter Tryz.func118, Tryz.ntmps118
  go_wp2
  go_ret
  exact ⟨by first | rfl | (rw [← h]; rfl), rfl⟩
theorem rot18_any (x : UInt32) (w : World) : Calls Tryz.prog 77 #[.int .u32 x.toNat, .int .u64 18] w fun e w' => e = .returned (.int .u32 (rotr x 18).toNat) ∧ w = w' := by
  have h := rot_qe18 x
  have hx := x.toNat_lt
  generalize x.toNat = n at *
  go_enter Tryz.func77, Tryz.ntmps77
  go_wp2
  go_ret
  exact ⟨by first | rfl | (rw [← h]; rfl), rfl⟩
theorem down19_any (x : UInt32) (w : World) : Calls Tryz.prog 118 #[.int .u32 x.toNat, .int .i64 19] w fun e w' => e = .returned (.int .u32 (rotr x 19).toNat) ∧ w = w' := by
  have h := rot_eq19 x
  have hb : bits .and .u64 (IntKind.u64.wrap (-19)) 31 = 13 := by decide +kernel
  have hx := x.toNat_lt
  generalize x.toNat = n at *
  go_enter Tryz.func118, Tryz.ntmps118
  go_wp2
  go_ret
  exact ⟨by first | rfl | (rw [← h]; rfl), rfl⟩
theorem rot19_any (x : UInt32) (w : World) : Calls Tryz.prog 77 #[.int .u32 x.toNat, .int .u64 19] w fun e w' => e = .returned (.int .u32 (rotr x 19).toNat) ∧ w = w' := by
  have h := rot_qe19 x
  have hx := x.toNat_lt
  generalize x.toNat = n at *
  go_enter Tryz.func77, Tryz.ntmps77
  go_wp2
  go_ret
  exact ⟨by first | rfl | (rw [← h]; rfl), rfl⟩
theorem down22_any (x : UInt32) (w : World) : Calls Tryz.prog 118 #[.int .u32 x.toNat, .int .i64 22] w fun e w' => e = .returned (.int .u32 (rotr x 22).toNat) ∧ w = w' := by
  have h := rot_eq22 x
  have hb : bits .and .u64 (IntKind.u64.wrap (-22)) 31 = 10 := by decide +kernel
  have hx := x.toNat_lt
  generalize x.toNat = n at *
  go_enter Tryz.func118, Tryz.ntmps118
  go_wp2
  go_ret
  exact ⟨by first | rfl | (rw [← h]; rfl), rfl⟩
theorem rot22_any (x : UInt32) (w : World) : Calls Tryz.prog 77 #[.int .u32 x.toNat, .int .u64 22] w fun e w' => e = .returned (.int .u32 (rotr x 22).toNat) ∧ w = w' := by
  have h := rot_qe22 x
  have hx := x.toNat_lt
  generalize x.toNat = n at *
  go_enter Tryz.func77, Tryz.ntmps77
  go_wp2
  go_ret
  exact ⟨by first | rfl | (rw [← h]; rfl), rfl⟩
theorem down25_any (x : UInt32) (w : World) : Calls Tryz.prog 118 #[.int .u32 x.toNat, .int .i64 25] w fun e w' => e = .returned (.int .u32 (rotr x 25).toNat) ∧ w = w' := by
  have h := rot_eq25 x
  have hb : bits .and .u64 (IntKind.u64.wrap (-25)) 31 = 7 := by decide +kernel
  have hx := x.toNat_lt
  generalize x.toNat = n at *
  go_enter Tryz.func118, Tryz.ntmps118
  go_wp2
  go_ret
  exact ⟨by first | rfl | (rw [← h]; rfl), rfl⟩
theorem rot25_any (x : UInt32) (w : World) : Calls Tryz.prog 77 #[.int .u32 x.toNat, .int .u64 25] w fun e w' => e = .returned (.int .u32 (rotr x 25).toNat) ∧ w = w' := by
  have h := rot_qe25 x
  have hx := x.toNat_lt
  generalize x.toNat = n at *
  go_enter Tryz.func77, Tryz.ntmps77
  go_wp2
  go_ret
  exact ⟨by first | rfl | (rw [← h]; rfl), rfl⟩
end Go.Proofs.YtfpofcfoeajkiaaGreat
/- Lists of texts in memory: what reads as one, what owns one. -/
namespace Go.Proofs.YtfpofcfoeajkiaaGreat
open Go.RowKit
set_option linter.unusedVariables false
/-- the slice v holds the texts l, in blocks that are there -/
def StrsB (w : World) (v : Value) (l : List ByteArray) : Prop :=
  ∃ A c, v = .slice A l.length c ∧ l.length ≤ c ∧ c ≤ maxLen ∧ (0 < l.length → ∃ b off, A = some ⟨b, off, none⟩ ∧ b < w.heap.size ∧ ∀ j, j < l.length → w.cell? ⟨b, off + j, none⟩ = (l[j]?).map .string)
theorem StrsB.below {w w' : World} {v : Value} {l : List ByteArray} {B : Nat} (h : StrsB w v l) (hb : Below B w w') (hB : w.heap.size ≤ B) : StrsB w' v l := by
  obtain ⟨A, c, h1, h2, h3, h4⟩ := h
  refine ⟨A, c, h1, h2, h3, fun hl => ?_⟩
  obtain ⟨b, off, e1, e2, e3⟩ := h4 hl
  exact ⟨b, off, e1, Nat.lt_of_lt_of_le e2 hb.size, fun j hj => (hb.cell (p := ⟨b, off + j, none⟩) (Nat.lt_of_lt_of_le e2 hB)).trans (e3 j hj)⟩
theorem StrsB.drewN {w : World} {v : Value} {l : List ByteArray} (h : StrsB w v l) (n : Nat) : StrsB (w.drewN n) v l := h
theorem StrsB.cons {w : World} {v : Value} {x : ByteArray} {xs : List ByteArray} (h : StrsB w v (x :: xs)) :
    ∃ b off c, v = .slice (some ⟨b, off, none⟩) (xs.length + 1) c ∧ xs.length + 1 ≤ c ∧ c ≤ maxLen ∧ b < w.heap.size ∧ w.cell? ⟨b, off, none⟩ = some (.string x) ∧ StrsB w (.slice (some ⟨b, off + 1, none⟩) xs.length (c - 1)) xs := by
  obtain ⟨A, c, h1, h2, h3, h4⟩ := h
  obtain ⟨b, off, rfl, e2, e3⟩ := h4 (by simp)
  refine ⟨b, off, c, h1, h2, h3, e2, by simpa using e3 0 (by simp), _, _, rfl, by simp at h2; omega, by omega, fun hl => ⟨b, off + 1, rfl, e2, fun j hj => ?_⟩⟩
  have := e3 (j + 1) (by simp; omega)
  rw [show off + 1 + j = off + (j + 1) by omega, this]
  simp
theorem StrsB.nil {w : World} {v : Value} (h : StrsB w v []) : ∃ A c, v = .slice A 0 c ∧ c ≤ maxLen := by
  obtain ⟨A, c, h1, h2, h3, h4⟩ := h
  exact ⟨A, c, h1, h3⟩
/-- a list of texts that has some: its slice, written out -/
theorem StrsB.at {w : World} {v : Value} {l : List ByteArray} (h : StrsB w v l) (hl : 0 < l.length) :
    ∃ b off c, v = .slice (some ⟨b, off, none⟩) l.length c ∧ l.length ≤ c ∧ c ≤ maxLen ∧ b < w.heap.size ∧ ∀ j (hj : j < l.length), w.cell? ⟨b, off + j, none⟩ = some (.string l[j]) := by
  obtain ⟨A, c, h1, h2, h3, h4⟩ := h
  obtain ⟨b, off, rfl, e2, e3⟩ := h4 hl
  exact ⟨b, off, c, h1, h2, h3, e2, fun j hj => by rw [e3 j hj]; simp [hj]⟩
theorem StrsB.len {w : World} {v : Value} {l : List ByteArray} (h : StrsB w v l) : ∃ A c, v = .slice A l.length c ∧ l.length ≤ c ∧ c ≤ maxLen := by
  obtain ⟨A, c, h1, h2, h3, h4⟩ := h
  exact ⟨A, c, h1, h2, h3⟩
theorem strsB_nil (w : World) : StrsB w (.slice none 0 0) [] := ⟨none, 0, rfl, Nat.le_refl _, by unfold maxLen; omega, fun h => absurd h (by simp)⟩
theorem flat_str : ∀ l : List ByteArray, List.flatMap EStr l = l.map .string
  | [] => rfl
  | b :: l => by rw [List.flatMap_cons, flat_str l]; rfl
theorem StrsB.of_sl {w : World} {A : Option Addr} {n c : Nat} {l : List ByteArray} (h : Sl w A n c 1 (l.flatMap EStr)) (hn : l.length = n) : StrsB w (.slice A n c) l := by
  subst hn
  refine ⟨A, c, rfl, h.le, h.cap, fun hl => ?_⟩
  obtain ⟨b, off, e1, e2, e3⟩ := h.cells hl
  refine ⟨b, off, e1, e2, fun j hj => ?_⟩
  rw [e3 j (by omega), flat_str]
  simp
theorem StrsB.of_owns {w : World} {v : Value} {l : List ByteArray} {B : Nat} (h : w.ownsRow B 9 1 v l.length (l.map .string)) : StrsB w v l := by
  rcases h.2 with ⟨hv, h0⟩ | ⟨g, cap, cur, hv, hb, hg, hn, hm, hc, ht⟩
  · exact ⟨none, 0, by rw [hv, h0], by omega, by unfold maxLen; omega, fun hl => by omega⟩
  · refine ⟨_, cap, hv, hn, hm, fun hl => ⟨g, 0, rfl, ?_, fun j hj => ?_⟩⟩
    · exact (Array.getElem?_eq_some_iff.1 hg).1
    · have := h.cells (g := g) (by rw [hv]; rfl) j (.string l[j]) (by simp [hj])
      rw [add_eq] at this
      rw [this]; simp [hj]
theorem owns_drewN {w : World} {B t k n : Nat} {v : Value} {l : List Value} (m : Nat) (h : w.ownsRow B t k v n l) : (w.drewN m).ownsRow B t k v n l := h
theorem owns_len {w : World} {B t n : Nat} {v : Value} {l : List ByteArray} (h : w.ownsRow B t 1 v n (l.map .string)) : n = l.length := by
  have := h.1
  simpa using this.symm
theorem strInfo : (Tryz.prog.info? 9).map (fun i => (i.zero, i.size, i.bytes)) = some (some (.string ByteArray.empty), 1, 16) := by kernel_rfl
theorem below_then {W a b : World} (h : Below W.heap.size W a) (k : Below a.heap.size a b) : Below W.heap.size W b := h.trans (k.mono h.size)
theorem take_succ_list {α : Type} (l : List α) (k : Nat) (h : k < l.length) : l.take (k + 1) = l.take k ++ [l[k]] := by
  rw [List.take_succ_eq_append_getElem h]
end Go.Proofs.YtfpofcfoeajkiaaGreat
/- Rows of words in memory. -/
namespace Go.Proofs.YtfpofcfoeajkiaaGreat
open Go.RowKit
set_option linter.unusedVariables false
def cellsOf (n : Nat) (f : Nat → UInt32) : Array Value := ((List.range n).map fun j => Value.int .u32 (f j).toNat).toArray
def bytesOf (n : Nat) (f : Nat → UInt8) : Array Value := ((List.range n).map fun j => Value.int .u8 (f j).toNat).toArray
theorem cellsOf_size (n : Nat) (f : Nat → UInt32) : (cellsOf n f).size = n := by simp [cellsOf]
theorem bytesOf_size (n : Nat) (f : Nat → UInt8) : (bytesOf n f).size = n := by simp [bytesOf]
theorem cellsOf_get {n j : Nat} (f : Nat → UInt32) (h : j < n) : (cellsOf n f)[j]? = some (.int .u32 (f j).toNat) := by simp [cellsOf, h]
theorem bytesOf_get {n j : Nat} (f : Nat → UInt8) (h : j < n) : (bytesOf n f)[j]? = some (.int .u8 (f j).toNat) := by simp [bytesOf, h]
theorem cellsOf_congr {n : Nat} {f g : Nat → UInt32} (h : ∀ j, j < n → f j = g j) : cellsOf n f = cellsOf n g := by
  unfold cellsOf
  congr 1
  apply List.map_congr_left
  intro j hj
  rw [h j (by simpa using hj)]
def upd (f : Nat → UInt32) (j : Nat) (v : UInt32) (i : Nat) : UInt32 := if i = j then v else f i
theorem cellsOf_set {n j : Nat} (f : Nat → UInt32) (v : UInt32) (h : j < n) : (cellsOf n f).setIfInBounds j (.int .u32 v.toNat) = cellsOf n (upd f j v) := by
  apply Array.ext
  · simp [cellsOf]
  · intro i h1 h2
    rw [Array.getElem_setIfInBounds]
    · by_cases hij : j = i
      · subst hij; simp [cellsOf, upd]
      · have : i ≠ j := fun e => hij e.symm
        simp [cellsOf, upd, hij, this]
    · simpa [cellsOf] using h1
theorem bytesOf_list (b : List UInt8) (n : Nat) (h : b.length = n) : (b.map (fun c => Value.int .u8 c.toNat)).toArray = bytesOf n (fun i => b.getD i 0) := by
  subst h
  apply Array.ext
  · simp [bytesOf]
  · intro i h1 h2
    have hi : i < b.length := by simpa using h1
    simp [bytesOf, hi]
theorem cellsOf_list (b : List UInt32) (n : Nat) (h : b.length = n) : (b.map (fun c => Value.int .u32 c.toNat)).toArray = cellsOf n (fun i => b.getD i 0) := by
  subst h
  apply Array.ext
  · simp [cellsOf]
  · intro i h1 h2
    have hi : i < b.length := by simpa using h1
    simp [cellsOf, hi]
/-- block b is a row -/
def Row (w : World) (b : Nat) (t : TypeId) (cs : Array Value) : Prop := w.heap[b]? = some (.cells cs t (0, 0))
theorem Row.lt {w : World} {b : Nat} {t : TypeId} {cs : Array Value} (h : Row w b t cs) : b < w.heap.size := (Array.getElem?_eq_some_iff.1 h).1
theorem Row.cell {w : World} {b : Nat} {t : TypeId} {n j : Nat} {f : Nat → UInt32} (h : Row w b t (cellsOf n f)) (hj : j < n) : w.cell? ⟨b, j, none⟩ = some (.int .u32 (f j).toNat) := by
  rw [cell_of_row w b j _ _ _ h]; exact cellsOf_get f hj
theorem Row.cellB {w : World} {b : Nat} {t : TypeId} {n j : Nat} {f : Nat → UInt8} (h : Row w b t (bytesOf n f)) (hj : j < n) : w.cell? ⟨b, j, none⟩ = some (.int .u8 (f j).toNat) := by
  rw [cell_of_row w b j _ _ _ h]; exact bytesOf_get f hj
theorem Row.free {w : World} {b : Nat} {t : TypeId} {cs : Array Value} (h : Row w b t cs) (j : Nat) : w.frozen? ⟨b, j, none⟩ = false := frozen_of_row w b j cs t h
theorem Row.set {w : World} {b : Nat} {t : TypeId} {n j : Nat} {f : Nat → UInt32} (h : Row w b t (cellsOf n f)) (v : UInt32) (hj : j < n) : Row (w.setCell ⟨b, j, none⟩ (.int .u32 v.toNat)) b t (cellsOf n (upd f j v)) := by
  unfold Row
  rw [heap_setCell_same w b j _ t _ h, cellsOf_set f v hj]
theorem Row.other {w : World} {b : Nat} {t : TypeId} {cs : Array Value} (h : Row w b t cs) (a : Addr) (v : Value) (hne : b ≠ a.block) : Row (w.setCell a v) b t cs := by
  unfold Row
  rw [heap_setCell_other w a b v hne]; exact h
theorem Row.drew {w : World} {b : Nat} {t : TypeId} {cs : Array Value} (h : Row w b t cs) : Row w.drew b t cs := h
theorem Row.drewN {w : World} {b : Nat} {t : TypeId} {cs : Array Value} (h : Row w b t cs) (n : Nat) : Row (w.drewN n) b t cs := h
theorem Row.below {w w' : World} {b B : Nat} {t : TypeId} {cs : Array Value} (h : Row w b t cs) (hb : Below B w w') (hB : b < B) : Row w' b t cs := (hb.block b hB).trans h
theorem Row.alloc {w : World} {b : Nat} {t : TypeId} {cs : Array Value} (h : Row w b t cs) (o : Obj) : Row (w.alloc o) b t cs := by
  show (w.heap.push o)[b]? = _
  rw [Array.getElem?_push_lt h.lt]
  have h2 : w.heap[b]? = _ := h
  rw [Array.getElem?_eq_getElem h.lt] at h2
  exact h2
theorem row_new (w : World) (t : TypeId) (cs : Array Value) : Row (w.alloc (.cells cs t)) w.heap.size t cs := heap_alloc_new w _
end Go.Proofs.YtfpofcfoeajkiaaGreat
/- A block's words: the walks of schedule and words. -/
namespace Go.Proofs.YtfpofcfoeajkiaaGreat
open Go.RowKit
set_option linter.unusedVariables false
/-- the words, byte by byte -/
def sch1 (b : List UInt8) : Nat → Nat → UInt32
  | 0 => fun _ => 0
  | k + 1 => upd (sch1 b k) (k / 4) (uO (sch1 b k (k / 4)) (uL (byteAt b k) (24 - 8 * (k % 4))))
theorem uL_nat (x : UInt32) (n : Nat) (h : n < 32) : (uL x n).toNat = x.toNat * 2 ^ n % 4294967296 := by
  unfold uL
  rw [UInt32.toNat_shiftLeft, Nat.shiftLeft_eq, UInt32.toNat_ofNat', Nat.mod_eq_of_lt (a := n) (by omega), Nat.mod_eq_of_lt h]
theorem shl8 (c : UInt8) (n : Nat) (h : n < 32) : (c.toNat : Int) % 4294967296 * 2 ^ n % 4294967296 = ((uL c.toUInt32 n).toNat : Int) := by
  rw [uL_nat _ _ h]
  have hc := c.toNat_lt
  have e : (c.toNat : Int) % 4294967296 = (c.toNat : Int) := by omega
  rw [e, UInt8.toNat_toUInt32, Int.natCast_emod, Int.natCast_mul, Int.natCast_pow]
  rfl
theorem run_index_u8 (B : Array Value) (k : Nat) (v : Value) (h : k < 64) (hg : B[k]? = some v) (W : World) : (Instr.index 87 (.agg B) (.int .i64 (k : Int))).run Tryz.prog W = .ok v W := by
  simp [Instr.index, run_underlying Tryz.underlying87, go_sem, h, hg]
theorem zero64 : (#[Value.int .u32 0, Value.int .u32 0, Value.int .u32 0, Value.int .u32 0, Value.int .u32 0, Value.int .u32 0, Value.int .u32 0, Value.int .u32 0, Value.int .u32 0, Value.int .u32 0, Value.int .u32 0, Value.int .u32 0, Value.int .u32 0, Value.int .u32 0, Value.int .u32 0, Value.int .u32 0, Value.int .u32 0, Value.int .u32 0, Value.int .u32 0, Value.int .u32 0, Value.int .u32 0, Value.int .u32 0, Value.int .u32 0, Value.int .u32 0, Value.int .u32 0, Value.int .u32 0, Value.int .u32 0, Value.int .u32 0, Value.int .u32 0, Value.int .u32 0, Value.int .u32 0, Value.int .u32 0, Value.int .u32 0, Value.int .u32 0, Value.int .u32 0, Value.int .u32 0, Value.int .u32 0, Value.int .u32 0, Value.int .u32 0, Value.int .u32 0, Value.int .u32 0, Value.int .u32 0, Value.int .u32 0, Value.int .u32 0, Value.int .u32 0, Value.int .u32 0, Value.int .u32 0, Value.int .u32 0, Value.int .u32 0, Value.int .u32 0, Value.int .u32 0, Value.int .u32 0, Value.int .u32 0, Value.int .u32 0, Value.int .u32 0, Value.int .u32 0, Value.int .u32 0, Value.int .u32 0, Value.int .u32 0, Value.int .u32 0, Value.int .u32 0, Value.int .u32 0, Value.int .u32 0, Value.int .u32 0] : Array Value) = cellsOf 64 (fun _ => 0) := by rfl
theorem cellsOf_one (n : Nat) (f : Nat → UInt32) : (cellsOf n f).all (·.oneCell') = true := by
  rw [Array.all_eq_true]
  intro i hi
  simp only [cellsOf, List.getElem_toArray, List.getElem_map]
  rfl
theorem below_setRow {B : Nat} {a w : World} (h : Below B a w) {g : Nat} (hg : B ≤ g) (cs : Array Value) : Below B a (w.setRow g cs) :=
  ⟨h.os, h.tape, h.output, by simpa [World.setRow] using h.size, fun i hi => (setRow_other w g i cs (by omega)).trans (h.block i hi)⟩
theorem rev {P : Program} {f : FuncId} {args : Array Value} {w : World} {v : Value} (h : Calls P f args w fun e w' => e = .returned v ∧ w = w') : Calls P f args w fun e w' => e = .returned v ∧ w' = w :=
  h.mono fun _ _ ⟨a, b⟩ => ⟨a, b.symm⟩
def pt (b : List UInt8) (j : Nat) : Nat → UInt32
  | 0 => 0
  | n + 1 => uO (pt b j n) (uL (byteAt b (4 * j + n)) (24 - 8 * n))
theorem pt4 (b : List UInt8) (j : Nat) : pt b j 4 = be4 b j := by
  have h0 : ∀ x, uO 0 x = x := fun x => UInt32.zero_or
  have h1 : ∀ x, uL x 0 = x := fun x => by unfold uL; simp
  simp only [pt, h0, Nat.mul_zero, Nat.sub_zero, Nat.add_zero, be4, Nat.reduceMul, Nat.reduceSub, h1]
theorem sch1_val (b : List UInt8) : ∀ k, ∀ j, sch1 b k j = pt b j (min 4 (k - 4 * j))
  | 0, j => by rw [show min 4 (0 - 4 * j) = 0 by omega]; rfl
  | k + 1, j => by
    rw [sch1]
    unfold upd
    by_cases h : j = k / 4
    · rw [if_pos h, ← h, sch1_val b k j, show min 4 (k - 4 * j) = k % 4 by omega, show min 4 (k + 1 - 4 * j) = k % 4 + 1 by omega, pt, show 4 * j + k % 4 = k by omega]
    · rw [if_neg h, sch1_val b k j]
      congr 1
      omega
def wUp (b : List UInt8) (k j : Nat) : UInt32 := if j < k then wAt b j else 0
theorem sch1_done (b : List UInt8) : cellsOf 64 (sch1 b 64) = cellsOf 64 (wUp b 16) := by
  apply cellsOf_congr
  intro j hj
  rw [sch1_val]
  unfold wUp
  by_cases h : j < 16
  · rw [if_pos h, show min 4 (64 - 4 * j) = 4 by omega, pt4, wAt_lo b j h]
  · rw [if_neg h, show min 4 (64 - 4 * j) = 0 by omega]; rfl
theorem wUp_next (b : List UInt8) (k : Nat) (v : UInt32) (h : v = wAt b k) : cellsOf 64 (upd (wUp b k) k v) = cellsOf 64 (wUp b (k + 1)) := by
  apply cellsOf_congr
  intro j hj
  unfold upd wUp
  by_cases h1 : j = k
  · subst h1; rw [if_pos rfl, if_pos (by omega), h]
  · rw [if_neg h1]
    by_cases h2 : j < k
    · rw [if_pos h2, if_pos (by omega)]
    · rw [if_neg h2, if_neg (by omega)]
theorem wUp_done (b : List UInt8) : cellsOf 64 (wUp b 64) = cellsOf 64 (wAt b) := by
  apply cellsOf_congr
  intro j hj
  unfold wUp; rw [if_pos hj]
theorem wUp_at (b : List UInt8) (k j : Nat) (h : j < k) : wUp b k j = wAt b j := by unfold wUp; rw [if_pos h]
/-- the next word, in the program's order of sums -/
theorem wAt_prog (b : List UInt8) (k : Nat) (h : 16 ≤ k) : uA (uA (uA (wAt b (k - 16)) (wAt b (k - 7))) (sg0 (wAt b (k - 15)))) (sg1 (wAt b (k - 2))) = wAt b k := by
  rw [wAt_hi b k h]
  congr 1
  rw [uA_assoc, uA_assoc, uA_comm (wAt b (k - 7))]
set_option maxRecDepth 20000 in
set_option maxHeartbeats 2000000 in
theorem schedule_any (b : List UInt8) (hb : b.length = 64) (w : World) :
    Calls Tryz.prog 117 #[.agg (bytesOf 64 fun i => b.getD i 0)] w fun e w' => e = .returned (.agg (cellsOf 64 (wAt b))) ∧ Below w.heap.size w w' := by
  have hi25 : (Tryz.prog.info? 87).map (·.size) = some 64 := by kernel_rfl
  obtain ⟨B, hB⟩ : ∃ B, B = bytesOf 64 (fun i => b.getD i 0) := ⟨_, rfl⟩
  have hBs : B.size = 64 := by rw [hB, bytesOf_size]
  have hR1 := (row_new w 87 B)
  rw [← hB]
  have HB := Lib.hid hB; clear hB
  have hld : (Tryz.prog.info? 87).map (·.size) = some B.size := by rw [hBs]; exact hi25
  have HR1 := Lib.hid hR1; clear hR1
  have HBs := Lib.hid hBs; clear hBs
  have HL := Lib.hid hld; clear hld hi25
  go_enter Tryz.func117, Tryz.ntmps117
  go_wp2_with (refine wpList_load_row rfl _ _ rfl w.heap.size rfl 87 B (0, 0) _ (HR1.out.alloc _) Tryz.underlying87 rfl HL.out ?_)
  rw [zero64]
  have hR2 := row_new (w.alloc (.cells B 87)) 117 (cellsOf 64 (fun _ => 0))
  rw [World.size_alloc] at hR2
  have hB2 := ((Below.refl w.heap.size w).alloc (Nat.le_refl _) (.cells B 87)).alloc (by simp) (.cells (cellsOf 64 (fun _ => 0)) 117)
  have HR2 := Lib.hid hR2; clear hR2
  have HB2 := Lib.hid hB2; clear hB2
  go_loopw [9] (fun i wr => ∃ k : Nat, k ≤ 64 ∧ i = .int .i64 k ∧ Hid (Row wr (w.heap.size + 1) 117 (cellsOf 64 (sch1 b k))) ∧ Hid (Below w.heap.size w wr)) (fun i _ => 64 - (intOf i).toNat)
  case atStart => exact ⟨0, by omega, rfl, HR2.out, HB2.out⟩
  case round =>
    obtain ⟨k, hk, rfl, HR, HW⟩ := hrel
    by_cases hlt : k < 64
    · have hq : k / 4 < 64 := by omega
      have e1 := HR.out.cell hq
      have f1 := HR.out.free (k / 4)
      have hgB : B[k]? = some (.int .u8 (b.getD k 0).toNat) := by rw [HB.out]; exact bytesOf_get (fun i => b.getD i 0) hlt
      have HN : Hid (sch1 b (k + 1) = upd (sch1 b k) (k / 4) (uO (sch1 b k (k / 4)) (uL (b.getD k 0).toUInt32 (24 - 8 * (k % 4))))) := rfl
      have hr4 : k % 4 < 4 := by omega
      have hsh := shl8 (b.getD k 0) (24 - 8 * (k % 4)) (by omega)
      have hor := wO (sch1 b k (k / 4)) (uL (b.getD k 0).toUInt32 (24 - 8 * (k % 4)))
      have r1 : (k : Int) / 4 = ((k / 4 : Nat) : Int) := by omega
      have r4 : (k : Int) % 4 = ((k % 4 : Nat) : Int) := by omega
      have hix := fun W => run_index_u8 B k _ hlt hgB W
      clear hgB
      generalize b.getD k 0 = c at *
      generalize uL c.toUInt32 (24 - 8 * (k % 4)) = s at *
      generalize hx : sch1 b k (k / 4) = x at *
      have HS := HR.out.set (uO x s) hq
      have HRn := Lib.hid HS; clear HS hx
      have HC := Lib.hid hr4; clear hr4
      generalize k / 4 = q at *
      generalize k % 4 = r at *
      have hr3 : r ≤ 3 := by have := HC.out; omega
      have r2 : (k : Int).tdiv 4 = (q : Int) := by rw [Int.tdiv_eq_ediv_of_nonneg (by omega)]; exact r1
      have r5 : (k : Int).tmod 4 = (r : Int) := by rw [Int.tmod_eq_emod_of_nonneg (by omega)]; exact r4
      have r3 : IntKind.i64.wrap (q : Int) = (q : Int) := IntWalk.i64_in _ (by omega)
      have r6 : IntKind.i64.wrap (8 * (r : Int)) = 8 * (r : Int) := IntWalk.i64_in _ (by omega)
      have r7 : IntKind.i64.wrap (24 - 8 * (r : Int)) = 24 - 8 * (r : Int) := IntWalk.i64_in _ (by omega)
      have b1 : (0 : Int) ≤ (q : Int) := by omega
      have b2 : (q : Int) < 64 := by omega
      go_wp2_with fail
      go_region
      have HWn := Lib.hid ((HW.out.setCell (p := ⟨w.heap.size + 1, q, none⟩) (by simp) (.int .u32 (uO x s).toNat)).drew)
      clear hsh hor e1 f1
      go_wp2
      go_roundw
      case rel => exact ⟨k + 1, by omega, by go_num, by rw [HN.out]; exact HRn.out.drew, HWn.out⟩
      case measure => simp [intOf]; omega
    · have HR16 : Hid (Row wr (w.heap.size + 1) 117 (cellsOf 64 (wUp b 16))) := by
        have h : k = 64 := by omega
        unfold Hid; rw [← sch1_done]; subst h; exact HR.out
      clear HR
      go_wp2_with fail
      obtain ⟨w1, hw1⟩ : ∃ w1 : World, w1 = wr := ⟨_, rfl⟩
      rw [← hw1] at HW HR16 ⊢
      clear hw1
      go_loopw [5] (fun i wr => ∃ k : Nat, 16 ≤ k ∧ k ≤ 64 ∧ i = .int .i64 k ∧ Hid (Row wr (w.heap.size + 1) 117 (cellsOf 64 (wUp b k))) ∧ Hid (Below w.heap.size w wr)) (fun i _ => 64 - (intOf i).toNat)
      case atStart => exact ⟨16, by omega, by omega, rfl, HR16.out, HW.out⟩
      case round =>
        obtain ⟨k, hk16, hk, rfl, HR, HV⟩ := hrel
        by_cases hlt : k < 64
        · have HP := Lib.hid (wAt_prog b k hk16)
          have e15 := HR.out.cell (j := k - 15) (by omega)
          have e2 := HR.out.cell (j := k - 2) (by omega)
          have e16 := HR.out.cell (j := k - 16) (by omega)
          have e7 := HR.out.cell (j := k - 7) (by omega)
          have ek := HR.out.cell (j := k) (by omega)
          have fk := HR.out.free k
          rw [wUp_at b k (k - 15) (by omega)] at e15
          rw [wUp_at b k (k - 2) (by omega)] at e2
          rw [wUp_at b k (k - 16) (by omega)] at e16
          rw [wUp_at b k (k - 7) (by omega)] at e7
          generalize wAt b (k - 15) = x at *
          generalize wAt b (k - 2) = y at *
          generalize wAt b (k - 16) = p at *
          generalize wAt b (k - 7) = q at *
          generalize wUp b k k = z at *
          have i15 : (k : Int) - 15 = ((k - 15 : Nat) : Int) := by omega
          have i2 : (k : Int) - 2 = ((k - 2 : Nat) : Int) := by omega
          have i16 : (k : Int) - 16 = ((k - 16 : Nat) : Int) := by omega
          have i7 : (k : Int) - 7 = ((k - 7 : Nat) : Int) := by omega
          have w15 : IntKind.i64.wrap ((k - 15 : Nat) : Int) = ((k - 15 : Nat) : Int) := IntWalk.i64_in _ (by omega)
          have w2 : IntKind.i64.wrap ((k - 2 : Nat) : Int) = ((k - 2 : Nat) : Int) := IntWalk.i64_in _ (by omega)
          have w16 : IntKind.i64.wrap ((k - 16 : Nat) : Int) = ((k - 16 : Nat) : Int) := IntWalk.i64_in _ (by omega)
          have w7 : IntKind.i64.wrap ((k - 7 : Nat) : Int) = ((k - 7 : Nat) : Int) := IntWalk.i64_in _ (by omega)
          have l15 : ((k - 15 : Nat) : Int) < 64 := by omega
          have l2 : ((k - 2 : Nat) : Int) < 64 := by omega
          have l16 : ((k - 16 : Nat) : Int) < 64 := by omega
          have l7 : ((k - 7 : Nat) : Int) < 64 := by omega
          have lk : (k : Int) < 64 := by omega
          have hX := wX
          have hA := wA
          have hA' := wA'
          have hR3 := wR3
          have hR10 := wR10
          go_wp2_with fail
          go_quiet (fail)
          go_wp2_with fail
          have e16' : (wr.drewN nq).drew.cell? ⟨w.heap.size + 1, k - 16, none⟩ = some (.int .u32 p.toNat) := e16
          have e7' : (wr.drewN nq).drew.cell? ⟨w.heap.size + 1, k - 7, none⟩ = some (.int .u32 q.toNat) := e7
          have ek' : (wr.drewN nq).drew.cell? ⟨w.heap.size + 1, k, none⟩ = some (.int .u32 z.toNat) := ek
          have fk' : (wr.drewN nq).drew.frozen? ⟨w.heap.size + 1, k, none⟩ = false := fk
          have HRd : Hid (Row (wr.drewN nq).drew (w.heap.size + 1) 117 (cellsOf 64 (wUp b k))) := HR.out
          have HVd : Hid (Below w.heap.size w (wr.drewN nq).drew) := (Below.drewN HV.out nq).drew
          clear e16 e7 e15 e2 ek fk HR HV
          refine wp_region_still_tail 29 (by kernel_rfl) (by kernel_rfl) ?_
          simp only [List.take_succ_cons, List.take_zero, List.drop_succ_cons, List.drop_zero]
          change wpStill _ _ (wr.drewN nq).drew _ _ _
          obtain ⟨w3, hw3⟩ : ∃ w3, w3 = (wr.drewN nq).drew := ⟨_, rfl⟩
          rw [← hw3] at e16' e7' ek' fk' HRd HVd ⊢
          have HW3 := Lib.hid hw3; clear hw3
          repeat still_step
          still_call (rev (down7_any _ _))
          repeat still_step
          still_call (rev (down18_any _ _))
          repeat still_step
          still_call (rev (down17_any _ _))
          repeat still_step
          still_call (rev (down19_any _ _))
          repeat still_step
          refine wpStill_nil ?_
          change wpList _ _ _ _ _ (wr.drewN nq).drew
          rw [← HW3.out]
          go_wp2
          go_roundw
          case rel => exact ⟨k + 1, by omega, by omega, by go_num, by have h := HRd.out.set (uA (uA (uA p q) (sg0 x)) (sg1 y)) hlt; rw [wUp_next b k _ HP.out] at h; exact h, HVd.out.setCell (p := ⟨w.heap.size + 1, k, none⟩) (by simp) _⟩
          case measure => simp [intOf]; omega
        · obtain rfl : k = 64 := by omega
          have HR64 : Hid (Row wr (w.heap.size + 1) 117 (cellsOf 64 (wAt b))) := by unfold Hid; rw [← wUp_done]; exact HR.out
          have HLd : Hid ((Tryz.prog.info? 117).map (·.size) = some (cellsOf 64 (wAt b)).size) := by unfold Hid; rw [cellsOf_size]; kernel_rfl
          have HO : Hid ((cellsOf 64 (wAt b)).all (·.oneCell') = true) := cellsOf_one _ _
          go_wp2_with (first | (refine wpList_load_row rfl _ _ rfl (w.heap.size + 1) rfl 117 (cellsOf 64 (wAt b)) (0, 0) _ HR64.out Tryz.underlying117 rfl HLd.out ?_) | (refine wpList_store_row rfl _ _ _ rfl (w.heap.size + 1) (cellsOf 64 (wAt b)) rfl rfl 117 _ HR64.out HLd.out rfl HO.out ?_))
          refine bodyPost_ret (v := .agg (cellsOf 64 (wAt b))) ?_ rfl ⟨rfl, ?_⟩
          · exact results_cell_row rfl _ _ (w.heap.size + 1) 117 _ (0, 0) _ rfl (setRow_heap _ _ _ _ _ _ HR64.out) Tryz.underlying117 rfl HLd.out
          · exact below_setRow HV.out (by omega) _
end Go.Proofs.YtfpofcfoeajkiaaGreat
