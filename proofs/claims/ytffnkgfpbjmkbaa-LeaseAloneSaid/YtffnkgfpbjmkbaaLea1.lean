/- lease: comparing, looking for an owner in a list of at most one lock. -/
import Derived.Test.YtffnkgfpbjmkbaaWords
import Derived.Test.YtffnkgfpbjmkbaaProg
import Derived.WalkKit
import Derived.WalkSpells
import Derived.WalkLawsBesides
import Derived.Lib.Hide
import Derived.Maps.AppendAt
namespace Go.Proofs.Ytffnkgfpbjmkbaa
open Go.RowKit
set_option linter.unusedVariables false
set_option linter.unusedSimpArgs false
/-- a lock -/
structure Lk where
  o : UInt64
  s : Bool
  u : Int
def Lk.v (x : Lk) : Value := .agg #[.int .u64 x.o.toNat, .bool x.s, .int .i64 x.u]
def cmpU (a b : UInt64) : Int := if a < b then -1 else if b < a then 1 else 0
/-- no lock -/
def Zero (v : Value) : Prop := ∃ A c, v = .slice A 0 c ∧ c ≤ maxLen ∧ (A = none → c = 0)
/-- one lock -/
def One (w : World) (v : Value) (x : Lk) : Prop :=
  ∃ g c, v = .slice (some ⟨g, 0, none⟩) 1 c ∧ 1 ≤ c ∧ c ≤ maxLen ∧ g < w.heap.size ∧ w.cell? ⟨g, 0, none⟩ = some (.int .u64 x.o.toNat) ∧ w.cell? ⟨g, 1, none⟩ = some (.bool x.s) ∧ w.cell? ⟨g, 2, none⟩ = some (.int .i64 x.u)
theorem One.below {w w' : World} {v : Value} {x : Lk} {B : Nat} (h : One w v x) (b : Below B w w') (hB : w.heap.size ≤ B) : One w' v x := by
  obtain ⟨g, c, h1, h2, h3, h4, h5, h6, h7⟩ := h
  have hg : g < B := Nat.lt_of_lt_of_le h4 hB
  exact ⟨g, c, h1, h2, h3, Nat.lt_of_lt_of_le h4 b.size, (b.cell (p := ⟨g, 0, none⟩) hg).trans h5, (b.cell (p := ⟨g, 1, none⟩) hg).trans h6, (b.cell (p := ⟨g, 2, none⟩) hg).trans h7⟩
set_option maxRecDepth 20000 in
set_option maxHeartbeats 1000000 in
theorem isNaN_any (a : UInt64) (w : World) : Calls Try.prog 48 #[.int .u64 a.toNat] w fun e w' => e = .returned (.bool false) ∧ w = w' := by
  go_enter Try.func48, Try.ntmps48
  go_wp2
  go_ret
  exact ⟨rfl, rfl⟩
set_option maxRecDepth 20000 in
set_option maxHeartbeats 1000000 in
theorem cmp_any (a b : UInt64) (w : World) : Calls Try.prog 44 #[.int .u64 a.toNat, .int .u64 b.toNat] w fun e w' => e = .returned (.int .i64 (cmpU a b)) ∧ w = w' := by
  have HN := Lib.hid isNaN_any
  unfold cmpU
  by_cases h1 : a < b
  · have h1' : a.toNat < b.toNat := h1
    have d1 : decide ((a.toNat : Int) < (b.toNat : Int)) = true := by simp; omega
    rw [if_pos h1]
    clear h1
    go_enter Try.func44, Try.ntmps44
    go_wp2_with fail
    refine (HN.out _ _).mono ?_
    rintro e w' ⟨rfl, rfl⟩
    go_wp2_with fail
    refine (HN.out _ _).mono ?_
    rintro e w' ⟨rfl, rfl⟩
    go_wp2
    go_ret
    exact ⟨rfl, rfl⟩
  · rw [if_neg h1]
    have h1' : ¬ a.toNat < b.toNat := h1
    have d1 : decide ((a.toNat : Int) < (b.toNat : Int)) = false := by simp; omega
    by_cases h2 : b < a
    · rw [if_pos h2]
      have h2' : b.toNat < a.toNat := h2
      have d2 : decide ((b.toNat : Int) < (a.toNat : Int)) = true := by simp; omega
      clear h1 h2
      go_enter Try.func44, Try.ntmps44
      go_wp2_with fail
      refine (HN.out _ _).mono ?_
      rintro e w' ⟨rfl, rfl⟩
      go_wp2_with fail
      refine (HN.out _ _).mono ?_
      rintro e w' ⟨rfl, rfl⟩
      go_wp2
      go_ret
      exact ⟨rfl, rfl⟩
    · rw [if_neg h2]
      have h2' : ¬ b.toNat < a.toNat := h2
      have d2 : decide ((b.toNat : Int) < (a.toNat : Int)) = false := by simp; omega
      clear h1 h2
      go_enter Try.func44, Try.ntmps44
      go_wp2_with fail
      refine (HN.out _ _).mono ?_
      rintro e w' ⟨rfl, rfl⟩
      go_wp2_with fail
      refine (HN.out _ _).mono ?_
      rintro e w' ⟨rfl, rfl⟩
      go_wp2
      go_ret
      exact ⟨rfl, rfl⟩
set_option maxRecDepth 20000 in
set_option maxHeartbeats 1000000 in
theorem at1_any (x : Lk) (b : UInt64) (w : World) : Calls Try.prog 43 #[x.v, .int .u64 b.toNat] w fun e w' => e = .returned (.int .i64 (cmpU x.o b)) ∧ Below w.heap.size w w' := by
  have HC := Lib.hid cmp_any
  unfold Lk.v
  go_enter Try.func43, Try.ntmps43
  go_wp2_with fail
  refine (HC.out _ _ _).mono ?_
  rintro e w' ⟨rfl, rfl⟩
  go_wp2
  go_ret
  exact ⟨rfl, (Below.refl _ _).alloc (Nat.le_refl _) _⟩
set_option maxRecDepth 20000 in
set_option maxHeartbeats 1000000 in
theorem bs_zero (v : Value) (b : UInt64) (w : World) (h : Zero v) : Calls Try.prog 42 #[v, .int .u64 b.toNat, .func (.func 43) #[] #[]] w fun e w' => e = .returned (.tuple #[.int .i64 0, .bool false]) ∧ w = w' := by
  obtain ⟨A, c, rfl, h2, h3⟩ := h
  have hc9 : c ≤ 9223372036854775807 := by unfold maxLen at h2; omega
  clear h2 h3
  go_enter Try.func42, Try.ntmps42
  go_wp2_with fail
  refine wp_loop_rounds 1 ?_
  rw [rounds_succ]
  go_wp2_with fail
  go_ret2
  exact ⟨rfl, rfl⟩
set_option maxRecDepth 20000 in
set_option maxHeartbeats 2000000 in
theorem bs_one (v : Value) (x : Lk) (b : UInt64) (w : World) (h : One w v x) : Calls Try.prog 42 #[v, .int .u64 b.toNat, .func (.func 43) #[] #[]] w fun e w' => e = .returned (.tuple #[.int .i64 (if x.o < b then 1 else 0), .bool (decide (x.o = b))]) ∧ Below w.heap.size w w' := by
  have HA := Lib.hid (at1_any x b)
  have H := Lib.hid h
  obtain ⟨g, c, rfl, h1, h2, h3, h4, h5, h6⟩ := h
  have hc9 : c ≤ 9223372036854775807 := by unfold maxLen at h2; omega
  clear h1 h2
  unfold Lk.v at HA
  by_cases hlt : x.o < b
  · have e1 : cmpU x.o b = -1 := by unfold cmpU; rw [if_pos hlt]
    have e2 : decide (x.o = b) = false := by simp; intro e; rw [e] at hlt; exact absurd hlt (UInt64.lt_irrefl b)
    rw [if_pos hlt, e2]
    rw [e1] at HA
    clear e1 e2 hlt
    go_enter Try.func42, Try.ntmps42
    go_wp2_with fail
    refine wp_loop_rounds 2 ?_
    rw [rounds_succ]
    go_wp2_with fail
    refine (HA.out _).mono ?_
    rintro e w' ⟨rfl, b1⟩
    go_wp2_with fail
    rw [rounds_succ]
    go_wp2_with fail
    go_ret2
    exact ⟨rfl, b1⟩
  · by_cases heq : x.o = b
    · have e1 : cmpU x.o b = 0 := by unfold cmpU; rw [if_neg hlt, if_neg (by rw [heq]; exact UInt64.lt_irrefl b)]
      rw [if_neg hlt, show decide (x.o = b) = true by simpa using heq]
      rw [e1] at HA
      clear e1 hlt heq
      go_enter Try.func42, Try.ntmps42
      go_wp2_with fail
      refine wp_loop_rounds 2 ?_
      rw [rounds_succ]
      go_wp2_with fail
      refine (HA.out _).mono ?_
      rintro e w' ⟨rfl, b1⟩
      have f4 := (b1.cell (p := ⟨g, 0, none⟩) h3).trans h4
      have f5 := (b1.cell (p := ⟨g, 1, none⟩) h3).trans h5
      have f6 := (b1.cell (p := ⟨g, 2, none⟩) h3).trans h6
      clear h4 h5 h6
      go_wp2_with fail
      rw [rounds_succ]
      go_wp2_with fail
      refine (HA.out _).mono ?_
      rintro e w2 ⟨rfl, b2⟩
      go_wp2_with fail
      go_ret2
      exact ⟨rfl, b1.trans (b2.mono b1.size)⟩
    · have hgt : b < x.o := by
        have h1 : ¬ x.o.toNat < b.toNat := hlt
        have h2 : x.o.toNat ≠ b.toNat := fun e => heq (UInt64.toNat_inj.1 e)
        show b.toNat < x.o.toNat
        omega
      have e1 : cmpU x.o b = 1 := by unfold cmpU; rw [if_neg hlt, if_pos hgt]
      rw [if_neg hlt, show decide (x.o = b) = false by simpa using heq]
      rw [e1] at HA
      clear e1 hlt heq hgt
      go_enter Try.func42, Try.ntmps42
      go_wp2_with fail
      refine wp_loop_rounds 2 ?_
      rw [rounds_succ]
      go_wp2_with fail
      refine (HA.out _).mono ?_
      rintro e w' ⟨rfl, b1⟩
      have f4 := (b1.cell (p := ⟨g, 0, none⟩) h3).trans h4
      have f5 := (b1.cell (p := ⟨g, 1, none⟩) h3).trans h5
      have f6 := (b1.cell (p := ⟨g, 2, none⟩) h3).trans h6
      clear h4 h5 h6
      go_wp2_with fail
      rw [rounds_succ]
      go_wp2_with fail
      refine (HA.out _).mono ?_
      rintro e w2 ⟨rfl, b2⟩
      go_wp2_with fail
      go_ret2
      exact ⟨rfl, b1.trans (b2.mono b1.size)⟩
end Go.Proofs.Ytffnkgfpbjmkbaa
