/- retain.Civil, count, Days: walks. -/
import Derived.Test.YtlikmdmdmljiaaaDoorProg
import Derived.Test.YtlikmdmdmljiaaaDoorArgs
import Derived.Test.YtlikmdmdmljiaaaDoorWords
import Derived.Test.YtlikmdmdmljiaaaDoorRetCal
import Derived.Lib.Hide
import Derived.OwnWalk
import Derived.Deep.QuietTactic
import Derived.BigQuiet
import Derived.Deep.RegionHeld3
namespace Go.Proofs.YtlikmdmdmljiaaaDoor
open Go.RowKit
set_option linter.unusedVariables false
set_option linter.unusedSimpArgs false
def dtV (t : Cal.Dt) : Value := .agg #[.int .i64 t.y, .int .i64 t.m, .int .i64 t.d]
def civC (n : Int) : Cal.Dt := if n < 0 ∨ 8388608 < n then ⟨0, 0, 0⟩ else Cal.civ n
set_option maxRecDepth 20000 in
set_option maxHeartbeats 1000000 in
theorem civ_out (n : Int) (w : World) (h : n < 0 ∨ 8388608 < n) :
    Calls Tryd.prog 15 #[.int .i64 n] w fun e w' => e = .returned (.agg #[.int .i64 0, .int .i64 0, .int .i64 0]) ∧ Below w.heap.size w w' := by
  rcases h with h | h
  · have h1 : decide (n < 0) = true := by simpa using h
    go_enter Tryd.func15, Tryd.ntmps15
    go_wp2
    exact bodyPost_ret (v := .agg #[.int .i64 0, .int .i64 0, .int .i64 0]) (by simp [results, Tryd.results15, go_sem]) rfl ⟨rfl, (Below.refl _ _).alloc (Nat.le_refl _) _⟩
  · have h1 : decide (n < 0) = false := by simp; omega
    have h2 : decide (8388608 < n) = true := by simpa using h
    go_enter Tryd.func15, Tryd.ntmps15
    go_wp2
    exact bodyPost_ret (v := .agg #[.int .i64 0, .int .i64 0, .int .i64 0]) (by simp [results, Tryd.results15, go_sem]) rfl ⟨rfl, (Below.refl _ _).alloc (Nat.le_refl _) _⟩
set_option maxRecDepth 20000 in
set_option maxHeartbeats 1000000 in
theorem civ_in (n : Int) (w : World) (h0 : 0 ≤ n) (h1 : n ≤ 8388608) :
    Calls Tryd.prog 15 #[.int .i64 n] w fun e w' => e = .returned (dtV (Cal.civ n)) ∧ Below w.heap.size w w' := by
  obtain ⟨c, y, r, m, a1, a2, a3, a4, a5, a6, a7, a8, a9, b1, b2, b3⟩ := Cal.parts n h0
  obtain ⟨z, hz⟩ : ∃ z, n + 719468 = z := ⟨_, rfl⟩
  obtain ⟨o, ho⟩ : ∃ o, z % 146097 = o := ⟨_, rfl⟩
  have hcv : Cal.civ n = if m + 3 > 12 then ⟨c * 400 + y + 1, m + 3 - 12, r - Cal.cI m + 1⟩ else ⟨c * 400 + y, m + 3, r - Cal.cI m + 1⟩ := by
    have er : (n + 719468) % 146097 - Cal.fI y = r := by omega
    unfold Cal.civ
    simp only [b1, b2, er, ← a6]
  rw [hz] at b1 b2 b3 a9
  rw [ho] at b2 b3
  have hy : (o - o / 1460 + o / 36524 - o / 146096) / 365 = y := b2
  have hr : o - (365 * y + y / 4 - y / 100) = r := by unfold Cal.fI at b3; omega
  have hm : (5 * r + 2) / 153 = m := a6.symm
  have hr1 : r ≤ 365 := by omega
  have hcI : Cal.cI m = (153 * m + 2) / 5 := rfl
  have hc1 : c ≤ 100 := by omega
  have hz1 : 0 ≤ z := by omega
  have hz2 : z ≤ 10000000 := by omega
  have ho1 : 0 ≤ o := by omega
  have ho2 : o < 146097 := by omega
  rw [hcI] at hcv
  have HZ := Lib.hid hz; clear hz
  have HO := Lib.hid ho; clear ho
  have HC := Lib.hid b1; clear b1
  have HY := Lib.hid hy; clear hy
  have HR := Lib.hid hr; clear hr
  have HM := Lib.hid hm; clear hm
  have HV := Lib.hid hcv; clear hcv
  clear a5 a6 a9 b2 b3 hcI
  have d1 : decide (n < 0) = false := by simp; omega
  have d2 : decide (8388608 < n) = false := by simp; omega
  by_cases hm9 : m ≤ 9
  · have d3 : decide (12 < m + 3) = false := by simp; omega
    go_enter Tryd.func15, Tryd.ntmps15
    go_wp2_with (first | (rw [HZ.out]) | (rw [HO.out]) | (rw [HC.out]) | (rw [HY.out]) | (rw [HR.out]) | (rw [HM.out]))
    exact bodyPost_ret (v := .agg #[.int .i64 (c * 400 + y), .int .i64 (m + 3), .int .i64 (r - (153 * m + 2) / 5 + 1)]) (by simp [results, Tryd.results15, go_sem]) rfl ⟨by rw [HV.out, if_neg (by omega)]; rfl, ((Below.refl _ _).alloc (Nat.le_refl _) _).alloc (by simp) _⟩
  · have d3 : decide (12 < m + 3) = true := by simp; omega
    go_enter Tryd.func15, Tryd.ntmps15
    go_wp2_with (first | (rw [HZ.out]) | (rw [HO.out]) | (rw [HC.out]) | (rw [HY.out]) | (rw [HR.out]) | (rw [HM.out]))
    exact bodyPost_ret (v := .agg #[.int .i64 (c * 400 + y + 1), .int .i64 (m + 3 - 12), .int .i64 (r - (153 * m + 2) / 5 + 1)]) (by simp [results, Tryd.results15, go_sem]) rfl ⟨by rw [HV.out, if_pos (by omega)]; rfl, ((Below.refl _ _).alloc (Nat.le_refl _) _).alloc (by simp) _⟩
theorem civil_any (n : Int) (w : World) : Calls Tryd.prog 15 #[.int .i64 n] w fun e w' => e = .returned (dtV (civC n)) ∧ Below w.heap.size w w' := by
  unfold civC
  by_cases h : n < 0 ∨ 8388608 < n
  · rw [if_pos h]; exact civ_out n w h
  · rw [if_neg h]; exact civ_in n w (by omega) (by omega)
set_option maxRecDepth 20000 in
set_option maxHeartbeats 1000000 in
theorem count_any (t : Cal.Dt) (w : World) (hy : 1970 ≤ t.y) (hy2 : t.y ≤ 20000) (hm : 1 ≤ t.m) (hm2 : t.m ≤ 12) (hd : 1 ≤ t.d) (hd2 : t.d ≤ 31) :
    Calls Tryd.prog 26 #[dtV t] w fun e w' => e = .returned (.int .i64 (Cal.cnt t)) ∧ Below w.heap.size w w' := by
  obtain ⟨Y, M, D⟩ := t
  simp only at hy hy2 hm hm2 hd hd2
  have e0 : (w.alloc (.cells #[.int .i64 Y, .int .i64 M, .int .i64 D] 42)).cell? ⟨w.heap.size, 0, none⟩ = some (.int .i64 Y) := by simp
  have e1 : (w.alloc (.cells #[.int .i64 Y, .int .i64 M, .int .i64 D] 42)).cell? ⟨w.heap.size, 1, none⟩ = some (.int .i64 M) := by simp
  show Calls _ _ #[.agg #[.int .i64 Y, .int .i64 M, .int .i64 D]] _ _
  by_cases h : M - 3 < 0
  · have hc : Cal.cnt ⟨Y, M, D⟩ = (Y - 1) / 400 * 146097 + (365 * ((Y - 1) % 400) + (Y - 1) % 400 / 4 - (Y - 1) % 400 / 100 + (153 * (M - 3 + 12) + 2) / 5 + D - 1) - 719468 := by
      unfold Cal.cnt Cal.fI Cal.cI; simp only [if_pos h]
    have HC := Lib.hid hc; clear hc
    have d3 : decide (M - 3 < 0) = true := by simpa using h
    go_enter Tryd.func26, Tryd.ntmps26
    go_wp2_with fail
    go_quiet (fail)
    go_wp2
    go_ret
    exact ⟨by rw [HC.out]; rfl, Below.drewN ((Below.refl _ _).alloc (Nat.le_refl _) _) _⟩
  · have hc : Cal.cnt ⟨Y, M, D⟩ = Y / 400 * 146097 + (365 * (Y % 400) + Y % 400 / 4 - Y % 400 / 100 + (153 * (M - 3) + 2) / 5 + D - 1) - 719468 := by
      unfold Cal.cnt Cal.fI Cal.cI; simp only [if_neg h]
    have HC := Lib.hid hc; clear hc
    have d3 : decide (M - 3 < 0) = false := by simpa using h
    go_enter Tryd.func26, Tryd.ntmps26
    go_wp2_with fail
    go_quiet (fail)
    go_wp2
    go_ret
    exact ⟨by rw [HC.out]; rfl, Below.drewN ((Below.refl _ _).alloc (Nat.le_refl _) _) _⟩
end Go.Proofs.YtlikmdmdmljiaaaDoor
