/- pack.split: a key, and the bytes behind it. -/
import Derived.Test.YtkbpkodakfknoaaPackCmp
import Derived.Test.YtkbpkodakfknoaaFrameWrap
import Derived.Test.YtkbpkodakfknoaaShaRefSumP
namespace Go.Proofs.Ytkbpkodakfknoaa
open Go.RowKit
set_option linter.unusedVariables false
set_option linter.unusedSimpArgs false
theorem belowQ {w w' : World} {n : Nat} (h : Below (w.drewN n).heap.size (w.drewN n) w') : Below w.heap.size w w' := ⟨h.os, h.tape, h.output, h.size, h.block⟩
/-- a key that is the sum of what is behind it -/
def goodT (t : ByteArray) : Bool := decide (32 ≤ t.size) && decide (shaSum (t.extract 32 t.size).data.toList = t.extract 0 32)
set_option maxRecDepth 20000 in
set_option maxHeartbeats 1000000 in
theorem split_short (t : ByteArray) (h : t.size < 32) (w : World) : Calls Try.prog 25 #[.string t] w fun e w' => e = .returned (.tuple #[.string ⟨#[]⟩, .string ⟨#[]⟩, .int .i64 2]) ∧ w = w' := by
  have hd : decide ((t.size : Int) < 32) = true := by simp; omega
  go_enter Try.func25, Try.ntmps25
  go_wp2
  go_ret3
  exact ⟨rfl, rfl⟩
set_option maxRecDepth 20000 in
set_option maxHeartbeats 1000000 in
theorem split_long (t : ByteArray) (h : 32 ≤ t.size) (hs : t.size ≤ 100000000000) (w : World) : Calls Try.prog 25 #[.string t] w fun e w' => e = .returned (if goodT t = true then .tuple #[.string (t.extract 0 32), .string (t.extract 32 t.size), .int .i64 0] else .tuple #[.string ⟨#[]⟩, .string ⟨#[]⟩, .int .i64 11]) ∧ Below w.heap.size w w' := by
  have hd : decide ((t.size : Int) < 32) = false := by simp; omega
  have h32 : (32 : Int) ≤ (t.size : Int) := by omega
  have hz : (t.extract 32 t.size).size ≤ 100000000000 := by rw [ByteArray.size_extract]; omega
  have HSm := Lib.hid (fun w => shaSum_any (t.extract 32 t.size) w hz)
  have HG : Hid (goodT t = decide (shaSum (t.extract 32 t.size).data.toList = t.extract 0 32)) := by unfold Hid goodT; simp [h]
  rw [HG.out]
  generalize shaSum (t.extract 32 t.size).data.toList = sm at *
  clear HG hz
  by_cases he : sm = t.extract 0 32
  · rw [if_pos (by simpa using he)]
    have he' : (sm.toList == (t.extract 0 32).toList) = true := by rw [he]; simp
    clear he
    go_enter Try.func25, Try.ntmps25
    go_wp2_with fail
    go_quiet (fail)
    go_wp2_with fail
    refine (HSm.out _).mono ?_
    rintro e w1 ⟨rfl, b1⟩
    have HB := Lib.hid b1
    clear b1
    go_wp2_with fail
    go_ret3
    exact ⟨rfl, belowQ HB.out⟩
  · rw [if_neg (by simpa using he)]
    have he' : (sm.toList == (t.extract 0 32).toList) = false := by
      rw [beq_eq_false_iff_ne, toList_data, toList_data]
      exact fun e => he (ByteArray.ext (Array.toList_inj.1 e))
    clear he
    go_enter Try.func25, Try.ntmps25
    go_wp2_with fail
    go_quiet (fail)
    go_wp2_with fail
    refine (HSm.out _).mono ?_
    rintro e w1 ⟨rfl, b1⟩
    have HB := Lib.hid b1
    clear b1
    go_wp2_with fail
    go_ret3
    exact ⟨rfl, belowQ HB.out⟩
theorem split_any (t : ByteArray) (hs : t.size ≤ 100000000000) (w : World) : Calls Try.prog 25 #[.string t] w fun e w' => e = .returned (if t.size < 32 then .tuple #[.string ⟨#[]⟩, .string ⟨#[]⟩, .int .i64 2] else if goodT t = true then .tuple #[.string (t.extract 0 32), .string (t.extract 32 t.size), .int .i64 0] else .tuple #[.string ⟨#[]⟩, .string ⟨#[]⟩, .int .i64 11]) ∧ Below w.heap.size w w' := by
  by_cases h : t.size < 32
  · rw [if_pos h]
    refine (split_short t h w).mono ?_
    rintro e w' ⟨rfl, rfl⟩
    exact ⟨rfl, Below.refl _ _⟩
  · rw [if_neg h]
    exact split_long t (by omega) hs w
end Go.Proofs.Ytkbpkodakfknoaa
