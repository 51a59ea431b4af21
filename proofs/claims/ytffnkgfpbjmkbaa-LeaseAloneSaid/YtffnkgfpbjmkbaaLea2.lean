/- lease: the keeper's look, who holds, whether one holds alone, cloning. -/
import Derived.Test.YtffnkgfpbjmkbaaLea1
namespace Go.Proofs.Ytffnkgfpbjmkbaa
open Go.RowKit
set_option linter.unusedVariables false
set_option linter.unusedSimpArgs false
set_option maxRecDepth 20000 in
set_option maxHeartbeats 1000000 in
theorem at_zero (p : Nat) (now : Value) (v : Value) (b : UInt64) (w : World) (h : Zero v) (hc : w.cell? ⟨p, 1, none⟩ = some v) : Calls Try.prog 25 #[.pointer (some ⟨p, 0, none⟩), .int .u64 b.toNat] w fun e w' => e = .returned (.tuple #[.int .i64 0, .bool false]) ∧ w = w' := by
  have HB := Lib.hid (fun w => bs_zero v b w h)
  obtain ⟨A, c, rfl, h2, h3⟩ := h
  go_enter Try.func25, Try.ntmps25
  go_wp2_with fail
  refine (HB.out _).mono ?_
  rintro e w' ⟨rfl, rfl⟩
  go_wp2
  go_ret2
  exact ⟨rfl, rfl⟩
set_option maxRecDepth 20000 in
set_option maxHeartbeats 1000000 in
theorem at_one (p : Nat) (v : Value) (x : Lk) (b : UInt64) (w : World) (h : One w v x) (hc : w.cell? ⟨p, 1, none⟩ = some v) : Calls Try.prog 25 #[.pointer (some ⟨p, 0, none⟩), .int .u64 b.toNat] w fun e w' => e = .returned (.tuple #[.int .i64 (if x.o < b then 1 else 0), .bool (decide (x.o = b))]) ∧ Below w.heap.size w w' := by
  have HB := Lib.hid (bs_one v x b w h)
  obtain ⟨g, c, rfl, h1, h2, h3, h4, h5, h6⟩ := h
  clear h1 h2 h3 h4 h5 h6
  generalize (if x.o < b then (1 : Int) else 0) = i at *
  generalize decide (x.o = b) = d at *
  go_enter Try.func25, Try.ntmps25
  go_wp2_with fail
  refine HB.out.mono ?_
  rintro e w' ⟨rfl, b1⟩
  go_wp2
  go_ret2
  exact ⟨rfl, b1⟩
set_option maxRecDepth 20000 in
set_option maxHeartbeats 1000000 in
theorem ask1_any (x : Lk) (w : World) : Calls Try.prog 27 #[x.v] w fun e w' => e = .returned (.bool (!x.s)) ∧ Below w.heap.size w w' := by
  unfold Lk.v
  go_enter Try.func27, Try.ntmps27
  go_wp2
  go_ret
  exact ⟨rfl, (Below.refl _ _).alloc (Nat.le_refl _) _⟩
set_option maxRecDepth 20000 in
set_option maxHeartbeats 1000000 in
theorem ix_zero (v f : Value) (w : World) (h : Zero v) : Calls Try.prog 45 #[v, f] w fun e w' => e = .returned (.int .i64 (-1)) ∧ w = w' := by
  obtain ⟨A, c, rfl, h2, h3⟩ := h
  have hc9 : c ≤ 9223372036854775807 := by unfold maxLen at h2; omega
  clear h2 h3
  go_enter Try.func45, Try.ntmps45
  go_wp2_with fail
  refine wp_loop_rounds 1 ?_
  rw [rounds_succ]
  go_wp2_with fail
  go_ret
  exact ⟨rfl, rfl⟩
set_option maxRecDepth 20000 in
set_option maxHeartbeats 1000000 in
theorem ixA_one (v : Value) (x : Lk) (w : World) (h : One w v x) : Calls Try.prog 45 #[v, .func (.func 27) #[] #[]] w fun e w' => e = .returned (.int .i64 (if x.s = true then -1 else 0)) ∧ Below w.heap.size w w' := by
  have HA := Lib.hid (ask1_any x)
  obtain ⟨g, c, rfl, h1, h2, h3, h4, h5, h6⟩ := h
  have hc9 : c ≤ 9223372036854775807 := by unfold maxLen at h2; omega
  clear h1 h2
  unfold Lk.v at HA
  cases hq : x.s with
  | true =>
    rw [hq] at HA h5
    rw [if_pos rfl]
    go_enter Try.func45, Try.ntmps45
    go_wp2_with fail
    refine wp_loop_rounds 2 ?_
    rw [rounds_succ]
    go_wp2_with fail
    refine (HA.out _).mono ?_
    rintro e w' ⟨rfl, b1⟩
    go_wp2_with fail
    rw [rounds_succ]
    go_wp2_with fail
    go_ret
    exact ⟨rfl, b1⟩
  | false =>
    rw [hq] at HA h5
    rw [if_neg (by simp)]
    go_enter Try.func45, Try.ntmps45
    go_wp2_with fail
    refine wp_loop_rounds 2 ?_
    rw [rounds_succ]
    go_wp2_with fail
    refine (HA.out _).mono ?_
    rintro e w' ⟨rfl, b1⟩
    go_wp2_with fail
    go_ret
    exact ⟨rfl, b1⟩
set_option maxRecDepth 20000 in
set_option maxHeartbeats 1000000 in
theorem con_zero (v f : Value) (w : World) (h : Zero v) : Calls Try.prog 26 #[v, f] w fun e w' => e = .returned (.bool false) ∧ w = w' := by
  have HI := Lib.hid (ix_zero v f w h)
  obtain ⟨A, c, rfl, h2, h3⟩ := h
  go_enter Try.func26, Try.ntmps26
  go_wp2_with fail
  refine HI.out.mono ?_
  rintro e w' ⟨rfl, rfl⟩
  go_wp2
  go_ret
  exact ⟨rfl, rfl⟩
set_option maxRecDepth 20000 in
set_option maxHeartbeats 1000000 in
theorem conA_one (v : Value) (x : Lk) (w : World) (h : One w v x) : Calls Try.prog 26 #[v, .func (.func 27) #[] #[]] w fun e w' => e = .returned (.bool (!x.s)) ∧ Below w.heap.size w w' := by
  have HI := Lib.hid (ixA_one v x w h)
  obtain ⟨g, c, rfl, h1, h2, h3, h4, h5, h6⟩ := h
  clear h1 h2 h3 h4 h5 h6
  cases hq : x.s with
  | true =>
    rw [hq, if_pos rfl] at HI
    go_enter Try.func26, Try.ntmps26
    go_wp2_with fail
    refine HI.out.mono ?_
    rintro e w' ⟨rfl, b1⟩
    go_wp2
    go_ret
    exact ⟨rfl, b1⟩
  | false =>
    rw [hq, if_neg (by simp)] at HI
    go_enter Try.func26, Try.ntmps26
    go_wp2_with fail
    refine HI.out.mono ?_
    rintro e w' ⟨rfl, b1⟩
    go_wp2
    go_ret
    exact ⟨rfl, b1⟩
def tickB (n : Int) : Bool := decide (0 < n ∧ n ≤ 1000)
set_option maxRecDepth 20000 in
set_option maxHeartbeats 1000000 in
theorem tick_any (n : Int) (w : World) : Calls Try.prog 28 #[.int .i64 n] w fun e w' => e = .returned (.bool (tickB n)) ∧ w = w' := by
  unfold tickB
  by_cases h1 : 0 < n
  · have d1 : decide (0 < n) = true := by simpa using h1
    by_cases h2 : n ≤ 1000
    · have d2 : decide (n ≤ 1000) = true := by simpa using h2
      rw [show decide (0 < n ∧ n ≤ 1000) = true by simp; omega]
      go_enter Try.func28, Try.ntmps28
      go_wp2
      go_ret
      exact ⟨rfl, rfl⟩
    · have d2 : decide (n ≤ 1000) = false := by simpa using h2
      rw [show decide (0 < n ∧ n ≤ 1000) = false by simp; omega]
      go_enter Try.func28, Try.ntmps28
      go_wp2
      go_ret
      exact ⟨rfl, rfl⟩
  · have d1 : decide (0 < n) = false := by simpa using h1
    rw [show decide (0 < n ∧ n ≤ 1000) = false by simp; omega]
    go_enter Try.func28, Try.ntmps28
    go_wp2
    go_ret
    exact ⟨rfl, rfl⟩
end Go.Proofs.Ytffnkgfpbjmkbaa
