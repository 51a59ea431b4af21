/- Numbers with a sign: their walks. -/
import Derived.Test.YtbamekfebfcleaaVarintSpec
import Derived.Test.YtbamekfebfcleaaWords
import Derived.Test.YtbamekfebfcleaaProg
import Derived.WalkKit
import Derived.WalkSpells
import Derived.WalkLawsBesides
import Derived.Laws.DeepNot64
import Derived.Lib.Hide
import Derived.IntWalk
namespace Go.Proofs.Ytbamekfebfcleaa
open Go.RowKit
set_option linter.unusedVariables false
/-- a number with a sign as one without, and back -/
def zig (n : Int) : Nat := if 0 ≤ n then (2 * n).toNat else (-2 * n - 1).toNat
def zag (m : Nat) : Int := if m % 2 = 0 then (m : Int) / 2 else -((m : Int) / 2) - 1
theorem zig_lt (n : Int) (h : -9223372036854775808 ≤ n ∧ n ≤ 9223372036854775807) : zig n < 18446744073709551616 := by
  unfold zig; split <;> omega
theorem zag_bd (m : Nat) (h : m < 18446744073709551616) : -9223372036854775808 ≤ zag m ∧ zag m ≤ 9223372036854775807 := by
  unfold zag; split <;> omega
theorem zag_zig (n : Int) : zag (zig n) = n := by
  unfold zig zag; split <;> split <;> omega
theorem zig_zag (m : Nat) : zig (zag m) = m := by
  unfold zig zag; split <;> split <;> omega
theorem xor64_zero (a : Nat) (ha : a < 18446744073709551616) : bits .xor .u64 (a : Int) (0 : Int) = (a : Int) := by
  have := u64_xor_nat a 0 ha (by decide)
  simpa using this
theorem xor64_ones (a : Nat) (ha : a < 18446744073709551616) : bits .xor .u64 (a : Int) (18446744073709551615 : Int) = 18446744073709551615 - (a : Int) := by
  have := u64_xor_nat a 18446744073709551615 ha (by decide)
  rw [show ((18446744073709551615 : Nat) : Int) = (18446744073709551615 : Int) from rfl] at this
  rw [this]
  have e : a ^^^ 18446744073709551615 = 18446744073709551615 - a := by
    have h2 := BitVec.toNat_not (x := BitVec.ofNat 64 a)
    rw [← BitVec.xor_allOnes, BitVec.toNat_xor, BitVec.toNat_ofNat, BitVec.toNat_allOnes] at h2
    rw [Nat.mod_eq_of_lt (by omega)] at h2
    exact h2
  rw [e]; omega
theorem xorI_ones (a : Nat) (ha : a < 9223372036854775808) : bits .xor .i64 (a : Int) (-1 : Int) = -1 - (a : Int) := by
  rw [← i64_not a ha]
  show IntKind.i64.wrap _ = IntKind.i64.wrap _
  rw [BitVec.xor_comm]
theorem xorI_zero (a : Nat) (ha : a < 9223372036854775808) : bits .xor .i64 (a : Int) (0 : Int) = (a : Int) := by
  show IntKind.i64.wrap ((BitVec.ofInt 64 (a : Int) ^^^ BitVec.ofInt 64 0).toNat : Int) = _
  have h1 : BitVec.ofInt 64 0 = 0#64 := by decide
  rw [h1, BitVec.xor_zero, ofInt_u64 a (by omega)]
  simp [IntKind.wrap, IntKind.bits, IntKind.signed]
  omega
theorem and64_one (n : Nat) (h : n < 18446744073709551616) : bits .and .u64 (n : Int) (1 : Int) = ((n % 2 : Nat) : Int) := by
  have := u64_and_nat n 1 h (by decide)
  rw [show ((1 : Nat) : Int) = 1 from rfl] at this
  rw [this, nat_mask1]
theorem zigPos (n : Int) (h0 : 0 ≤ n) (h1 : n ≤ 9223372036854775807) : bits .xor .u64 (n * 2) (n / 9223372036854775808) = (zig n : Int) := by
  have e1 : n * 2 = (((2 * n).toNat : Nat) : Int) := by omega
  have e2 : n / 9223372036854775808 = 0 := by omega
  rw [e1, e2, xor64_zero _ (by omega), zig, if_pos h0]
theorem zigNeg (n : Int) (h0 : -9223372036854775808 ≤ n) (h1 : n < 0) : bits .xor .u64 (IntKind.u64.wrap (IntKind.u64.wrap n * 2)) (IntKind.u64.wrap (n / 9223372036854775808)) = (zig n : Int) := by
  have e2 : n / 9223372036854775808 = -1 := by omega
  rw [e2, IntKind.wrap_u64, IntKind.wrap_u64, IntKind.wrap_u64, show (-1 : Int) % 18446744073709551616 = 18446744073709551615 by decide]
  have e1 : n % 18446744073709551616 * 2 % 18446744073709551616 = (((18446744073709551616 + 2 * n).toNat : Nat) : Int) := by omega
  rw [e1, xor64_ones _ (by omega), zig, if_neg (by omega)]
  omega
theorem zagAny (n : Nat) (h : n < 18446744073709551616) : bits .xor .i64 ((n : Int) / 2) (wrap64 (-wrap64 (bits .and .u64 (n : Int) 1))) = zag n := by
  rw [and64_one n h]
  have hd : (n : Int) / 2 = ((n / 2 : Nat) : Int) := by omega
  rcases Nat.mod_two_eq_zero_or_one n with e | e
  · rw [e, show wrap64 (-wrap64 ((0 : Nat) : Int)) = 0 by unfold wrap64; decide, hd, xorI_zero _ (by omega), zag, if_pos e]; omega
  · rw [e, show wrap64 (-wrap64 ((1 : Nat) : Int)) = -1 by unfold wrap64; decide, hd, xorI_ones _ (by omega), zag, if_neg (by omega)]; omega
set_option maxHeartbeats 400000 in
theorem zig_any (n : Int) (h : -9223372036854775808 ≤ n ∧ n ≤ 9223372036854775807) (w : World) :
    Calls Try.prog 30 #[.int .i64 n] w fun e w' => e = .returned (.int .u64 (zig n : Nat)) ∧ w = w' := by
  by_cases hn : 0 ≤ n
  · go_enter Try.func30, Try.ntmps30
    go_wp2
    go_ret
    exact ⟨ret_int (zigPos n hn h.2), rfl⟩
  · go_enter Try.func30, Try.ntmps30
    go_wp2
    go_ret
    exact ⟨ret_int (zigNeg n h.1 (by omega)), rfl⟩
set_option maxHeartbeats 400000 in
theorem zag_any (n : Nat) (h : n < 18446744073709551616) (w : World) :
    Calls Try.prog 31 #[.int .u64 n] w fun e w' => e = .returned (.int .i64 (zag n)) ∧ w = w' := by
  go_enter Try.func31, Try.ntmps31
  go_wp2
  go_ret
  exact ⟨ret_int (zagAny n h), rfl⟩
set_option maxHeartbeats 400000 in
theorem refZig_any (n : Int) (h : -9223372036854775808 ≤ n ∧ n ≤ 9223372036854775807) (w : World) :
    Calls Try.prog 32 #[.int .i64 n] w fun e w' => e = .returned (.int .u64 (zig n : Nat)) ∧ w = w' := by
  by_cases hn : 0 ≤ n
  · go_enter Try.func32, Try.ntmps32
    go_wp2
    go_ret
    exact ⟨ret_int (by unfold zig; rw [if_pos hn]; omega), rfl⟩
  · go_enter Try.func32, Try.ntmps32
    go_wp2
    go_ret
    exact ⟨ret_int (by unfold zig; rw [if_neg (by omega)]; omega), rfl⟩
set_option maxHeartbeats 400000 in
theorem refZag_any (n : Nat) (h : n < 18446744073709551616) (w : World) :
    Calls Try.prog 33 #[.int .u64 n] w fun e w' => e = .returned (.int .i64 (zag n)) ∧ w = w' := by
  rcases Nat.mod_two_eq_zero_or_one n with e | e
  · have e1 : ((n : Int) % 2 == 0) = true := by simp; omega
    go_enter Try.func33, Try.ntmps33
    go_wp2
    go_ret
    exact ⟨ret_int (by unfold zag; rw [if_pos e]), rfl⟩
  · have e1 : ((n : Int) % 2 == 0) = false := by simp; omega
    go_enter Try.func33, Try.ntmps33
    go_wp2
    go_ret
    exact ⟨ret_int (by unfold zag; rw [if_neg (by omega)]), rfl⟩
end Go.Proofs.Ytbamekfebfcleaa
