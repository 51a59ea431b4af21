/- siloref42.Days: walk (written by gen-ret-rdays.py). -/
import Derived.Test.YtlikmdmdmljiaaaDoorRetRef
namespace Go.Proofs.YtlikmdmdmljiaaaDoor
open Go.RowKit
set_option linter.unusedVariables false
set_option linter.unusedSimpArgs false
def inDays (t : Cal.Dt) : Prop := 1970 ≤ t.y ∧ t.y ≤ 20000 ∧ 1 ≤ t.m ∧ t.m ≤ 12 ∧ 1 ≤ t.d ∧ t.d ≤ Cal.mlen t.y t.m
theorem daysC_out (t : Cal.Dt) (h : ¬ inDays t) : daysC t = (0, false) := by
  unfold daysC
  apply if_neg
  rintro ⟨hw, hc⟩
  have hb := cnt_bd t hw
  obtain ⟨h1, h2, h3, h4, h5, h6⟩ := hw
  have he : Cal.cnt t = Cal.sY t.y + Cal.cR t.y t.m + t.d - 1 := Cal.cnt_eq t.y t.m t.d h3 h4
  have a := Cal.sY_le h1
  rw [Cal.sY_0] at a
  have c := Cal.cR_0 t.y t.m
  have h8 : Cal.cnt t ≤ 8388608 := by
    have b := Cal.sY_le h2
    have e := Cal.cR_end t.y t.m h3 h4
    have f := Cal.ylen_bd t.y
    have g := Cal.mlen_ge t.y t.m
    have : Cal.sY 20000 ≤ 7000000 := by decide
    omega
  unfold civC at hc
  rw [if_neg (by omega)] at hc
  obtain ⟨p1, p2, p3, p4, p5, p6⟩ := Cal.civ_parts (Cal.cnt t) (by omega)
  rw [hc] at p5
  exact h ⟨h1, h2, h3, h4, h5, p5⟩
theorem daysC_in (t : Cal.Dt) (h : inDays t) : daysC t = (t.d - 1 + Cal.sY t.y + Cal.cR t.y t.m, true) := by
  obtain ⟨h1, h2, h3, h4, h5, h6⟩ := h
  have m1 := Cal.mlen_le t.y t.m
  have he : Cal.cnt t = Cal.sY t.y + Cal.cR t.y t.m + t.d - 1 := Cal.cnt_eq t.y t.m t.d h3 h4
  have a := Cal.sY_le h1
  rw [Cal.sY_0] at a
  have c := Cal.cR_0 t.y t.m
  have h8 : Cal.cnt t ≤ 8388608 := by
    have b := Cal.sY_le h2
    have e := Cal.cR_end t.y t.m h3 h4
    have f := Cal.ylen_bd t.y
    have g := Cal.mlen_ge t.y t.m
    have : Cal.sY 20000 ≤ 7000000 := by decide
    omega
  have hc : civC (Cal.cnt t) = t := by
    unfold civC
    rw [if_neg (by omega), Cal.civ_of (Cal.cnt t) t.y t.m t.d h1 h3 h4 h5 h6 he (by omega)]
  have hd : daysC t = (Cal.cnt t, true) := by unfold daysC; exact if_pos ⟨⟨h1, h2, h3, h4, h5, by omega⟩, hc⟩
  rw [hd, he]
  congr 1; omega

set_option maxRecDepth 20000 in
set_option maxHeartbeats 4000000 in
theorem rdays_early (Y M D : Int) (w : World) (h : Y < 1970 ∨ 20000 < Y ∨ M < 1 ∨ 12 < M ∨ D < 1) :
    Calls Tryd.prog 14 #[.agg #[.int .i64 Y, .int .i64 M, .int .i64 D]] w fun e w' => e = .returned (.tuple #[.int .i64 0, .bool false]) ∧ Below w.heap.size w w' := by
  have e0 : (w.alloc (.cells #[.int .i64 Y, .int .i64 M, .int .i64 D] 42)).cell? ⟨w.heap.size, 0, none⟩ = some (.int .i64 Y) := by simp
  have e1 : (w.alloc (.cells #[.int .i64 Y, .int .i64 M, .int .i64 D] 42)).cell? ⟨w.heap.size, 1, none⟩ = some (.int .i64 M) := by simp
  have e2 : (w.alloc (.cells #[.int .i64 Y, .int .i64 M, .int .i64 D] 42)).cell? ⟨w.heap.size, 2, none⟩ = some (.int .i64 D) := by simp
  by_cases h0 : Y < 1970
  · have d0 : decide (Y < 1970) = true := by simpa using h0
    clear h
    go_enter Tryd.func14, Tryd.ntmps14
    go_wp2_with fail
    go_quiet (fail)
    go_wp2
    go_ret2
    exact ⟨rfl, Below.drewN ((Below.refl _ _).alloc (Nat.le_refl _) _) _⟩
  have d0 : decide (Y < 1970) = false := by simpa using h0
  by_cases h1 : 20000 < Y
  · have d1 : decide (20000 < Y) = true := by simpa using h1
    clear h
    go_enter Tryd.func14, Tryd.ntmps14
    go_wp2_with fail
    go_quiet (fail)
    go_wp2
    go_ret2
    exact ⟨rfl, Below.drewN ((Below.refl _ _).alloc (Nat.le_refl _) _) _⟩
  have d1 : decide (20000 < Y) = false := by simpa using h1
  by_cases h2 : M < 1
  · have d2 : decide (M < 1) = true := by simpa using h2
    clear h
    go_enter Tryd.func14, Tryd.ntmps14
    go_wp2_with fail
    go_quiet (fail)
    go_wp2
    go_ret2
    exact ⟨rfl, Below.drewN ((Below.refl _ _).alloc (Nat.le_refl _) _) _⟩
  have d2 : decide (M < 1) = false := by simpa using h2
  by_cases h3 : 12 < M
  · have d3 : decide (12 < M) = true := by simpa using h3
    clear h
    go_enter Tryd.func14, Tryd.ntmps14
    go_wp2_with fail
    go_quiet (fail)
    go_wp2
    go_ret2
    exact ⟨rfl, Below.drewN ((Below.refl _ _).alloc (Nat.le_refl _) _) _⟩
  have d3 : decide (12 < M) = false := by simpa using h3
  by_cases h4 : D < 1
  · have d4 : decide (D < 1) = true := by simpa using h4
    clear h
    go_enter Tryd.func14, Tryd.ntmps14
    go_wp2_with fail
    go_quiet (fail)
    go_wp2
    go_ret2
    exact ⟨rfl, Below.drewN ((Below.refl _ _).alloc (Nat.le_refl _) _) _⟩
  have d4 : decide (D < 1) = false := by simpa using h4
  exact absurd h (by omega)
set_option maxRecDepth 20000 in
set_option maxHeartbeats 4000000 in
theorem rdays_late (Y M D : Int) (w : World) (g0 : 1970 ≤ Y) (g1 : Y ≤ 20000) (g2 : 1 ≤ M) (g3 : M ≤ 12) (g4 : 1 ≤ D) (g5 : Cal.mlen Y M < D) :
    Calls Tryd.prog 14 #[.agg #[.int .i64 Y, .int .i64 M, .int .i64 D]] w fun e w' => e = .returned (.tuple #[.int .i64 0, .bool false]) ∧ Below w.heap.size w w' := by
  have HM : Hid (∀ w, Calls Tryd.prog 27 #[.int .i64 Y, .int .i64 M] w fun e w' => e = .returned (.int .i64 (Cal.mlen Y M)) ∧ Below w.heap.size w w') := fun w => (length_any Y M w (by omega) (by omega) g2 g3).mono fun e w' ⟨a, b⟩ => ⟨a, by rw [b]; exact Below.refl _ _⟩
  have hle := Cal.mlen_le Y M
  have hge := Cal.mlen_ge Y M
  obtain ⟨L, hL⟩ : ∃ L, Cal.mlen Y M = L := ⟨_, rfl⟩
  rw [hL] at HM g5 hle hge
  clear hL
  have d0 : decide (Y < 1970) = false := by simp; omega
  have d1 : decide (20000 < Y) = false := by simp; omega
  have d2 : decide (M < 1) = false := by simp; omega
  have d3 : decide (12 < M) = false := by simp; omega
  have d4 : decide (D < 1) = false := by simp; omega
  have d5 : decide (L < D) = true := by simp; omega
  have hS : DtR w.heap.size Y M D (w.alloc (.cells #[.int .i64 Y, .int .i64 M, .int .i64 D] 42)) ∧ w.heap.size < (w.alloc (.cells #[.int .i64 Y, .int .i64 M, .int .i64 D] 42)).heap.size := ⟨⟨row_new _ _ _⟩, by simp⟩
  have hW : Below w.heap.size w (w.alloc (.cells #[.int .i64 Y, .int .i64 M, .int .i64 D] 42)) := (Below.refl _ _).alloc (Nat.le_refl _) _
  have HS := Lib.hid hS; clear hS
  have HW := Lib.hid hW; clear hW
  go_enter Tryd.func14, Tryd.ntmps14
  go_wp2_with fail
  generalize (w.alloc (.cells #[.int .i64 Y, .int .i64 M, .int .i64 D] 42)) = wz at *
  refine wp_region_noPanic ?_
  refine wp_region_held_drew (S := fun w' => DtR w.heap.size Y M D w' ∧ w.heap.size < w'.heap.size) (by kernel_rfl) (And.intro (DtR.mk HS.out.1.row) HS.out.2) (fun hHeld => ?_)
  replace HW : Hid (Below w.heap.size w wz.drew) := Lib.hid HW.out.drew
  replace HS : Hid (DtR w.heap.size Y M D wz.drew ∧ w.heap.size < wz.drew.heap.size) := Lib.hid (And.intro (DtR.mk HS.out.1.row) HS.out.2)
  generalize wz.drew = wy at *
  refine' wpAnyH_take (i := 0) (v := ?v1) rfl (by kernel_rfl) (by kernel_rfl) (by kernel_rfl) (fun _ _ _ h => h) (Or.inl ⟨by kernel_rfl, ?hy1⟩) (by assumption) ?rest1
  case hy1 => (intro w hSw; (try dsimp only at hSw); go_simp; try with_reducible rfl)
  try simp only [Act.put, List.setIfInBounds_toArray, List.set_cons_zero, List.set_cons_succ]
  refine wpAnyH_take (i := 1) (v := .int .i64 Y) rfl (by kernel_rfl) (by kernel_rfl) (by kernel_rfl) (fun _ _ _ h => h) (Or.inl ⟨by kernel_rfl, ?_⟩) hHeld ?_
  · intro w hSw
    have hh := hSw.1.cells.1
    go_simp
  try simp only [Act.put, List.setIfInBounds_toArray, List.set_cons_zero, List.set_cons_succ]
  refine wpAnyH_take (i := 2) (v := .bool false) rfl (by kernel_rfl) (by kernel_rfl) (by kernel_rfl) (fun _ _ _ h => h) (Or.inl ⟨by kernel_rfl, ?_⟩) hHeld ?_
  · intro w hSw
    go_simp
    first | done | ((try rw [Int.tdiv_eq_ediv_of_nonneg (by omega)]); (try rw [Int.tmod_eq_emod_of_nonneg (by omega)]); (try rw [IntKind.wrap_i64]); (try omega))
  try simp only [Act.put, List.setIfInBounds_toArray, List.set_cons_zero, List.set_cons_succ]
  refine wpAnyH_take (i := 3) (v := .bool false) rfl (by kernel_rfl) (by kernel_rfl) (by kernel_rfl) (fun _ _ _ h => h) (Or.inl ⟨by kernel_rfl, ?_⟩) hHeld ?_
  · intro w hSw
    go_simp
    first | done | ((try rw [Int.tdiv_eq_ediv_of_nonneg (by omega)]); (try rw [Int.tmod_eq_emod_of_nonneg (by omega)]); (try rw [IntKind.wrap_i64]); (try omega))
  try simp only [Act.put, List.setIfInBounds_toArray, List.set_cons_zero, List.set_cons_succ]
  refine' wpAnyH_take (i := 4) (v := ?v2) rfl (by kernel_rfl) (by kernel_rfl) (by kernel_rfl) (fun _ _ _ h => h) (Or.inl ⟨by kernel_rfl, ?hy2⟩) (by assumption) ?rest2
  case hy2 => (intro w hSw; (try dsimp only at hSw); go_simp; try with_reducible rfl)
  try simp only [Act.put, List.setIfInBounds_toArray, List.set_cons_zero, List.set_cons_succ]
  refine wpAnyH_take (i := 5) (v := .int .i64 Y) rfl (by kernel_rfl) (by kernel_rfl) (by kernel_rfl) (fun _ _ _ h => h) (Or.inl ⟨by kernel_rfl, ?_⟩) hHeld ?_
  · intro w hSw
    have hh := hSw.1.cells.1
    go_simp
  try simp only [Act.put, List.setIfInBounds_toArray, List.set_cons_zero, List.set_cons_succ]
  refine wpAnyH_take (i := 6) (v := .bool false) rfl (by kernel_rfl) (by kernel_rfl) (by kernel_rfl) (fun _ _ _ h => h) (Or.inl ⟨by kernel_rfl, ?_⟩) hHeld ?_
  · intro w hSw
    go_simp
    first | done | ((try rw [Int.tdiv_eq_ediv_of_nonneg (by omega)]); (try rw [Int.tmod_eq_emod_of_nonneg (by omega)]); (try rw [IntKind.wrap_i64]); (try omega))
  try simp only [Act.put, List.setIfInBounds_toArray, List.set_cons_zero, List.set_cons_succ]
  refine wpAnyH_take (i := 7) (v := .bool false) rfl (by kernel_rfl) (by kernel_rfl) (by kernel_rfl) (fun _ _ _ h => h) (Or.inl ⟨by kernel_rfl, ?_⟩) hHeld ?_
  · intro w hSw
    go_simp
    first | done | ((try rw [Int.tdiv_eq_ediv_of_nonneg (by omega)]); (try rw [Int.tmod_eq_emod_of_nonneg (by omega)]); (try rw [IntKind.wrap_i64]); (try omega))
  try simp only [Act.put, List.setIfInBounds_toArray, List.set_cons_zero, List.set_cons_succ]
  refine wpAnyH_take (i := 8) (v := .bool false) rfl (by kernel_rfl) (by kernel_rfl) (by kernel_rfl) (fun _ _ _ h => h) (Or.inl ⟨by kernel_rfl, ?_⟩) hHeld ?_
  · intro w hSw
    go_simp
    first | done | ((try rw [Int.tdiv_eq_ediv_of_nonneg (by omega)]); (try rw [Int.tmod_eq_emod_of_nonneg (by omega)]); (try rw [IntKind.wrap_i64]); (try omega))
  try simp only [Act.put, List.setIfInBounds_toArray, List.set_cons_zero, List.set_cons_succ]
  refine' wpAnyH_take (i := 9) (v := ?v3) rfl (by kernel_rfl) (by kernel_rfl) (by kernel_rfl) (fun _ _ _ h => h) (Or.inl ⟨by kernel_rfl, ?hy3⟩) (by assumption) ?rest3
  case hy3 => (intro w hSw; (try dsimp only at hSw); go_simp; try with_reducible rfl)
  try simp only [Act.put, List.setIfInBounds_toArray, List.set_cons_zero, List.set_cons_succ]
  refine wpAnyH_take (i := 10) (v := .int .i64 M) rfl (by kernel_rfl) (by kernel_rfl) (by kernel_rfl) (fun _ _ _ h => h) (Or.inl ⟨by kernel_rfl, ?_⟩) hHeld ?_
  · intro w hSw
    have hh := hSw.1.cells.2.1
    go_simp
  try simp only [Act.put, List.setIfInBounds_toArray, List.set_cons_zero, List.set_cons_succ]
  refine wpAnyH_take (i := 11) (v := .bool false) rfl (by kernel_rfl) (by kernel_rfl) (by kernel_rfl) (fun _ _ _ h => h) (Or.inl ⟨by kernel_rfl, ?_⟩) hHeld ?_
  · intro w hSw
    go_simp
    first | done | ((try rw [Int.tdiv_eq_ediv_of_nonneg (by omega)]); (try rw [Int.tmod_eq_emod_of_nonneg (by omega)]); (try rw [IntKind.wrap_i64]); (try omega))
  try simp only [Act.put, List.setIfInBounds_toArray, List.set_cons_zero, List.set_cons_succ]
  refine wpAnyH_take (i := 12) (v := .bool false) rfl (by kernel_rfl) (by kernel_rfl) (by kernel_rfl) (fun _ _ _ h => h) (Or.inl ⟨by kernel_rfl, ?_⟩) hHeld ?_
  · intro w hSw
    go_simp
    first | done | ((try rw [Int.tdiv_eq_ediv_of_nonneg (by omega)]); (try rw [Int.tmod_eq_emod_of_nonneg (by omega)]); (try rw [IntKind.wrap_i64]); (try omega))
  try simp only [Act.put, List.setIfInBounds_toArray, List.set_cons_zero, List.set_cons_succ]
  refine wpAnyH_take (i := 13) (v := .bool false) rfl (by kernel_rfl) (by kernel_rfl) (by kernel_rfl) (fun _ _ _ h => h) (Or.inl ⟨by kernel_rfl, ?_⟩) hHeld ?_
  · intro w hSw
    go_simp
    first | done | ((try rw [Int.tdiv_eq_ediv_of_nonneg (by omega)]); (try rw [Int.tmod_eq_emod_of_nonneg (by omega)]); (try rw [IntKind.wrap_i64]); (try omega))
  try simp only [Act.put, List.setIfInBounds_toArray, List.set_cons_zero, List.set_cons_succ]
  refine' wpAnyH_take (i := 14) (v := ?v4) rfl (by kernel_rfl) (by kernel_rfl) (by kernel_rfl) (fun _ _ _ h => h) (Or.inl ⟨by kernel_rfl, ?hy4⟩) (by assumption) ?rest4
  case hy4 => (intro w hSw; (try dsimp only at hSw); go_simp; try with_reducible rfl)
  try simp only [Act.put, List.setIfInBounds_toArray, List.set_cons_zero, List.set_cons_succ]
  refine wpAnyH_take (i := 15) (v := .int .i64 M) rfl (by kernel_rfl) (by kernel_rfl) (by kernel_rfl) (fun _ _ _ h => h) (Or.inl ⟨by kernel_rfl, ?_⟩) hHeld ?_
  · intro w hSw
    have hh := hSw.1.cells.2.1
    go_simp
  try simp only [Act.put, List.setIfInBounds_toArray, List.set_cons_zero, List.set_cons_succ]
  refine wpAnyH_take (i := 16) (v := .bool false) rfl (by kernel_rfl) (by kernel_rfl) (by kernel_rfl) (fun _ _ _ h => h) (Or.inl ⟨by kernel_rfl, ?_⟩) hHeld ?_
  · intro w hSw
    go_simp
    first | done | ((try rw [Int.tdiv_eq_ediv_of_nonneg (by omega)]); (try rw [Int.tmod_eq_emod_of_nonneg (by omega)]); (try rw [IntKind.wrap_i64]); (try omega))
  try simp only [Act.put, List.setIfInBounds_toArray, List.set_cons_zero, List.set_cons_succ]
  refine wpAnyH_take (i := 17) (v := .bool false) rfl (by kernel_rfl) (by kernel_rfl) (by kernel_rfl) (fun _ _ _ h => h) (Or.inl ⟨by kernel_rfl, ?_⟩) hHeld ?_
  · intro w hSw
    go_simp
    first | done | ((try rw [Int.tdiv_eq_ediv_of_nonneg (by omega)]); (try rw [Int.tmod_eq_emod_of_nonneg (by omega)]); (try rw [IntKind.wrap_i64]); (try omega))
  try simp only [Act.put, List.setIfInBounds_toArray, List.set_cons_zero, List.set_cons_succ]
  refine wpAnyH_take (i := 18) (v := .bool false) rfl (by kernel_rfl) (by kernel_rfl) (by kernel_rfl) (fun _ _ _ h => h) (Or.inl ⟨by kernel_rfl, ?_⟩) hHeld ?_
  · intro w hSw
    go_simp
    first | done | ((try rw [Int.tdiv_eq_ediv_of_nonneg (by omega)]); (try rw [Int.tmod_eq_emod_of_nonneg (by omega)]); (try rw [IntKind.wrap_i64]); (try omega))
  try simp only [Act.put, List.setIfInBounds_toArray, List.set_cons_zero, List.set_cons_succ]
  refine' wpAnyH_take (i := 19) (v := ?v5) rfl (by kernel_rfl) (by kernel_rfl) (by kernel_rfl) (fun _ _ _ h => h) (Or.inl ⟨by kernel_rfl, ?hy5⟩) (by assumption) ?rest5
  case hy5 => (intro w hSw; (try dsimp only at hSw); go_simp; try with_reducible rfl)
  try simp only [Act.put, List.setIfInBounds_toArray, List.set_cons_zero, List.set_cons_succ]
  refine wpAnyH_take (i := 20) (v := .int .i64 D) rfl (by kernel_rfl) (by kernel_rfl) (by kernel_rfl) (fun _ _ _ h => h) (Or.inl ⟨by kernel_rfl, ?_⟩) hHeld ?_
  · intro w hSw
    have hh := hSw.1.cells.2.2.1
    go_simp
  try simp only [Act.put, List.setIfInBounds_toArray, List.set_cons_zero, List.set_cons_succ]
  refine wpAnyH_take (i := 21) (v := .bool false) rfl (by kernel_rfl) (by kernel_rfl) (by kernel_rfl) (fun _ _ _ h => h) (Or.inl ⟨by kernel_rfl, ?_⟩) hHeld ?_
  · intro w hSw
    go_simp
    first | done | ((try rw [Int.tdiv_eq_ediv_of_nonneg (by omega)]); (try rw [Int.tmod_eq_emod_of_nonneg (by omega)]); (try rw [IntKind.wrap_i64]); (try omega))
  try simp only [Act.put, List.setIfInBounds_toArray, List.set_cons_zero, List.set_cons_succ]
  refine wpAnyH_take (i := 22) (v := .bool false) rfl (by kernel_rfl) (by kernel_rfl) (by kernel_rfl) (fun _ _ _ h => h) (Or.inl ⟨by kernel_rfl, ?_⟩) hHeld ?_
  · intro w hSw
    go_simp
    first | done | ((try rw [Int.tdiv_eq_ediv_of_nonneg (by omega)]); (try rw [Int.tmod_eq_emod_of_nonneg (by omega)]); (try rw [IntKind.wrap_i64]); (try omega))
  try simp only [Act.put, List.setIfInBounds_toArray, List.set_cons_zero, List.set_cons_succ]
  refine wpAnyH_take (i := 23) (v := .bool false) rfl (by kernel_rfl) (by kernel_rfl) (by kernel_rfl) (fun _ _ _ h => h) (Or.inl ⟨by kernel_rfl, ?_⟩) hHeld ?_
  · intro w hSw
    go_simp
    first | done | ((try rw [Int.tdiv_eq_ediv_of_nonneg (by omega)]); (try rw [Int.tmod_eq_emod_of_nonneg (by omega)]); (try rw [IntKind.wrap_i64]); (try omega))
  try simp only [Act.put, List.setIfInBounds_toArray, List.set_cons_zero, List.set_cons_succ]
  refine' wpAnyH_take (i := 24) (v := ?v6) rfl (by kernel_rfl) (by kernel_rfl) (by kernel_rfl) (fun _ _ _ h => h) (Or.inl ⟨by kernel_rfl, ?hy6⟩) (by assumption) ?rest6
  case hy6 => (intro w hSw; (try dsimp only at hSw); go_simp; try with_reducible rfl)
  try simp only [Act.put, List.setIfInBounds_toArray, List.set_cons_zero, List.set_cons_succ]
  refine' wpAnyH_take (i := 26) (v := ?v7) rfl (by kernel_rfl) (by kernel_rfl) (by kernel_rfl) (fun _ _ _ h => h) (Or.inl ⟨by kernel_rfl, ?hy7⟩) (by assumption) ?rest7
  case hy7 => (intro w hSw; (try dsimp only at hSw); go_simp; try with_reducible rfl)
  try simp only [Act.put, List.setIfInBounds_toArray, List.set_cons_zero, List.set_cons_succ]
  refine' wpAnyH_take (i := 28) (v := ?v8) rfl (by kernel_rfl) (by kernel_rfl) (by kernel_rfl) (fun _ _ _ h => h) (Or.inl ⟨by kernel_rfl, ?hy8⟩) (by assumption) ?rest8
  case hy8 => (intro w hSw; (try dsimp only at hSw); go_simp; try with_reducible rfl)
  try simp only [Act.put, List.setIfInBounds_toArray, List.set_cons_zero, List.set_cons_succ]
  refine wpAnyH_take (i := 25) (v := .int .i64 D) rfl (by kernel_rfl) (by kernel_rfl) (by kernel_rfl) (fun _ _ _ h => h) (Or.inl ⟨by kernel_rfl, ?_⟩) hHeld ?_
  · intro w hSw
    have hh := hSw.1.cells.2.2.1
    go_simp
  try simp only [Act.put, List.setIfInBounds_toArray, List.set_cons_zero, List.set_cons_succ]
  refine wpAnyH_take (i := 27) (v := .int .i64 Y) rfl (by kernel_rfl) (by kernel_rfl) (by kernel_rfl) (fun _ _ _ h => h) (Or.inl ⟨by kernel_rfl, ?_⟩) hHeld ?_
  · intro w hSw
    have hh := hSw.1.cells.1
    go_simp
  try simp only [Act.put, List.setIfInBounds_toArray, List.set_cons_zero, List.set_cons_succ]
  refine wpAnyH_take (i := 29) (v := .int .i64 M) rfl (by kernel_rfl) (by kernel_rfl) (by kernel_rfl) (fun _ _ _ h => h) (Or.inl ⟨by kernel_rfl, ?_⟩) hHeld ?_
  · intro w hSw
    have hh := hSw.1.cells.2.1
    go_simp
  try simp only [Act.put, List.setIfInBounds_toArray, List.set_cons_zero, List.set_cons_succ]
  refine wpAnyH_ready (rs := [30]) (by kernel_rfl) (by simp) ?_
  refine AllReadyH.cons rfl (fun K hK => ?_) AllReadyH.nil
  go_simp
  go_at_call 27
  refine (HM.out _).mono ?_
  rintro er w' ⟨rfl, b'⟩
  have HW := Lib.hid (HW.out.trans (b'.mono HW.out.size))
  have HS := Lib.hid (And.intro (DtR.mk (HS.out.1.row.below b' HS.out.2)) (Nat.lt_of_lt_of_le HS.out.2 b'.size))
  clear b' hHeld
  go_wp2_with fail
  refine hK.out _ _ HS.out (fun hHeld => ?_)
  clear hK K
  try simp only [Act.put, List.setIfInBounds_toArray, List.set_cons_zero, List.set_cons_succ]
  refine wpAnyH_take (i := 31) (v := .bool true) rfl (by kernel_rfl) (by kernel_rfl) (by kernel_rfl) (fun _ _ _ h => h) (Or.inl ⟨by kernel_rfl, ?_⟩) hHeld ?_
  · intro w hSw
    go_simp
  refine wpAnyH_take (i := 32) (v := .bool true) rfl (by kernel_rfl) (by kernel_rfl) (by kernel_rfl) (fun _ _ _ h => h) (Or.inl ⟨by kernel_rfl, ?_⟩) hHeld ?_
  · intro w hSw
    go_simp
  refine wpAnyH_done (by kernel_rfl) ?_ _
  refine NoPanic.normal ?_
  go_wp2
  go_ret2
  exact ⟨rfl, HW.out⟩
set_option maxRecDepth 20000 in
set_option maxHeartbeats 4000000 in
theorem rdays_in (Y M D : Int) (w : World) (g0 : 1970 ≤ Y) (g1 : Y ≤ 20000) (g2 : 1 ≤ M) (g3 : M ≤ 12) (g4 : 1 ≤ D) (g5 : D ≤ Cal.mlen Y M) :
    Calls Tryd.prog 14 #[.agg #[.int .i64 Y, .int .i64 M, .int .i64 D]] w fun e w' => e = .returned (.tuple #[.int .i64 (D - 1 + Cal.sY Y + Cal.cR Y M), .bool true]) ∧ Below w.heap.size w w' := by
  have HM : Hid (∀ w, Calls Tryd.prog 27 #[.int .i64 Y, .int .i64 M] w fun e w' => e = .returned (.int .i64 (Cal.mlen Y M)) ∧ Below w.heap.size w w') := fun w => (length_any Y M w (by omega) (by omega) g2 g3).mono fun e w' ⟨a, b⟩ => ⟨a, by rw [b]; exact Below.refl _ _⟩
  have HY := Lib.hid year_any
  have HL := Lib.hid length_any
  have hle := Cal.mlen_le Y M
  have hge := Cal.mlen_ge Y M
  obtain ⟨L, hL⟩ : ∃ L, Cal.mlen Y M = L := ⟨_, rfl⟩
  rw [hL] at HM g5 hle hge
  clear hL
  have d0 : decide (Y < 1970) = false := by simp; omega
  have d1 : decide (20000 < Y) = false := by simp; omega
  have d2 : decide (M < 1) = false := by simp; omega
  have d3 : decide (12 < M) = false := by simp; omega
  have d4 : decide (D < 1) = false := by simp; omega
  have d5 : decide (L < D) = false := by simp; omega
  have hS : DtR w.heap.size Y M D (w.alloc (.cells #[.int .i64 Y, .int .i64 M, .int .i64 D] 42)) ∧ w.heap.size < (w.alloc (.cells #[.int .i64 Y, .int .i64 M, .int .i64 D] 42)).heap.size := ⟨⟨row_new _ _ _⟩, by simp⟩
  have hW : Below w.heap.size w (w.alloc (.cells #[.int .i64 Y, .int .i64 M, .int .i64 D] 42)) := (Below.refl _ _).alloc (Nat.le_refl _) _
  have HS := Lib.hid hS; clear hS
  have HW := Lib.hid hW; clear hW
  go_enter Tryd.func14, Tryd.ntmps14
  go_wp2_with fail
  generalize (w.alloc (.cells #[.int .i64 Y, .int .i64 M, .int .i64 D] 42)) = wz at *
  refine wp_region_noPanic ?_
  refine wp_region_held_drew (S := fun w' => DtR w.heap.size Y M D w' ∧ w.heap.size < w'.heap.size) (by kernel_rfl) (And.intro (DtR.mk HS.out.1.row) HS.out.2) (fun hHeld => ?_)
  replace HW : Hid (Below w.heap.size w wz.drew) := Lib.hid HW.out.drew
  replace HS : Hid (DtR w.heap.size Y M D wz.drew ∧ w.heap.size < wz.drew.heap.size) := Lib.hid (And.intro (DtR.mk HS.out.1.row) HS.out.2)
  generalize wz.drew = wy at *
  refine' wpAnyH_take (i := 0) (v := ?v9) rfl (by kernel_rfl) (by kernel_rfl) (by kernel_rfl) (fun _ _ _ h => h) (Or.inl ⟨by kernel_rfl, ?hy9⟩) (by assumption) ?rest9
  case hy9 => (intro w hSw; (try dsimp only at hSw); go_simp; try with_reducible rfl)
  try simp only [Act.put, List.setIfInBounds_toArray, List.set_cons_zero, List.set_cons_succ]
  refine wpAnyH_take (i := 1) (v := .int .i64 Y) rfl (by kernel_rfl) (by kernel_rfl) (by kernel_rfl) (fun _ _ _ h => h) (Or.inl ⟨by kernel_rfl, ?_⟩) hHeld ?_
  · intro w hSw
    have hh := hSw.1.cells.1
    go_simp
  try simp only [Act.put, List.setIfInBounds_toArray, List.set_cons_zero, List.set_cons_succ]
  refine wpAnyH_take (i := 2) (v := .bool false) rfl (by kernel_rfl) (by kernel_rfl) (by kernel_rfl) (fun _ _ _ h => h) (Or.inl ⟨by kernel_rfl, ?_⟩) hHeld ?_
  · intro w hSw
    go_simp
    first | done | ((try rw [Int.tdiv_eq_ediv_of_nonneg (by omega)]); (try rw [Int.tmod_eq_emod_of_nonneg (by omega)]); (try rw [IntKind.wrap_i64]); (try omega))
  try simp only [Act.put, List.setIfInBounds_toArray, List.set_cons_zero, List.set_cons_succ]
  refine wpAnyH_take (i := 3) (v := .bool false) rfl (by kernel_rfl) (by kernel_rfl) (by kernel_rfl) (fun _ _ _ h => h) (Or.inl ⟨by kernel_rfl, ?_⟩) hHeld ?_
  · intro w hSw
    go_simp
    first | done | ((try rw [Int.tdiv_eq_ediv_of_nonneg (by omega)]); (try rw [Int.tmod_eq_emod_of_nonneg (by omega)]); (try rw [IntKind.wrap_i64]); (try omega))
  try simp only [Act.put, List.setIfInBounds_toArray, List.set_cons_zero, List.set_cons_succ]
  refine' wpAnyH_take (i := 4) (v := ?v10) rfl (by kernel_rfl) (by kernel_rfl) (by kernel_rfl) (fun _ _ _ h => h) (Or.inl ⟨by kernel_rfl, ?hy10⟩) (by assumption) ?rest10
  case hy10 => (intro w hSw; (try dsimp only at hSw); go_simp; try with_reducible rfl)
  try simp only [Act.put, List.setIfInBounds_toArray, List.set_cons_zero, List.set_cons_succ]
  refine wpAnyH_take (i := 5) (v := .int .i64 Y) rfl (by kernel_rfl) (by kernel_rfl) (by kernel_rfl) (fun _ _ _ h => h) (Or.inl ⟨by kernel_rfl, ?_⟩) hHeld ?_
  · intro w hSw
    have hh := hSw.1.cells.1
    go_simp
  try simp only [Act.put, List.setIfInBounds_toArray, List.set_cons_zero, List.set_cons_succ]
  refine wpAnyH_take (i := 6) (v := .bool false) rfl (by kernel_rfl) (by kernel_rfl) (by kernel_rfl) (fun _ _ _ h => h) (Or.inl ⟨by kernel_rfl, ?_⟩) hHeld ?_
  · intro w hSw
    go_simp
    first | done | ((try rw [Int.tdiv_eq_ediv_of_nonneg (by omega)]); (try rw [Int.tmod_eq_emod_of_nonneg (by omega)]); (try rw [IntKind.wrap_i64]); (try omega))
  try simp only [Act.put, List.setIfInBounds_toArray, List.set_cons_zero, List.set_cons_succ]
  refine wpAnyH_take (i := 7) (v := .bool false) rfl (by kernel_rfl) (by kernel_rfl) (by kernel_rfl) (fun _ _ _ h => h) (Or.inl ⟨by kernel_rfl, ?_⟩) hHeld ?_
  · intro w hSw
    go_simp
    first | done | ((try rw [Int.tdiv_eq_ediv_of_nonneg (by omega)]); (try rw [Int.tmod_eq_emod_of_nonneg (by omega)]); (try rw [IntKind.wrap_i64]); (try omega))
  try simp only [Act.put, List.setIfInBounds_toArray, List.set_cons_zero, List.set_cons_succ]
  refine wpAnyH_take (i := 8) (v := .bool false) rfl (by kernel_rfl) (by kernel_rfl) (by kernel_rfl) (fun _ _ _ h => h) (Or.inl ⟨by kernel_rfl, ?_⟩) hHeld ?_
  · intro w hSw
    go_simp
    first | done | ((try rw [Int.tdiv_eq_ediv_of_nonneg (by omega)]); (try rw [Int.tmod_eq_emod_of_nonneg (by omega)]); (try rw [IntKind.wrap_i64]); (try omega))
  try simp only [Act.put, List.setIfInBounds_toArray, List.set_cons_zero, List.set_cons_succ]
  refine' wpAnyH_take (i := 9) (v := ?v11) rfl (by kernel_rfl) (by kernel_rfl) (by kernel_rfl) (fun _ _ _ h => h) (Or.inl ⟨by kernel_rfl, ?hy11⟩) (by assumption) ?rest11
  case hy11 => (intro w hSw; (try dsimp only at hSw); go_simp; try with_reducible rfl)
  try simp only [Act.put, List.setIfInBounds_toArray, List.set_cons_zero, List.set_cons_succ]
  refine wpAnyH_take (i := 10) (v := .int .i64 M) rfl (by kernel_rfl) (by kernel_rfl) (by kernel_rfl) (fun _ _ _ h => h) (Or.inl ⟨by kernel_rfl, ?_⟩) hHeld ?_
  · intro w hSw
    have hh := hSw.1.cells.2.1
    go_simp
  try simp only [Act.put, List.setIfInBounds_toArray, List.set_cons_zero, List.set_cons_succ]
  refine wpAnyH_take (i := 11) (v := .bool false) rfl (by kernel_rfl) (by kernel_rfl) (by kernel_rfl) (fun _ _ _ h => h) (Or.inl ⟨by kernel_rfl, ?_⟩) hHeld ?_
  · intro w hSw
    go_simp
    first | done | ((try rw [Int.tdiv_eq_ediv_of_nonneg (by omega)]); (try rw [Int.tmod_eq_emod_of_nonneg (by omega)]); (try rw [IntKind.wrap_i64]); (try omega))
  try simp only [Act.put, List.setIfInBounds_toArray, List.set_cons_zero, List.set_cons_succ]
  refine wpAnyH_take (i := 12) (v := .bool false) rfl (by kernel_rfl) (by kernel_rfl) (by kernel_rfl) (fun _ _ _ h => h) (Or.inl ⟨by kernel_rfl, ?_⟩) hHeld ?_
  · intro w hSw
    go_simp
    first | done | ((try rw [Int.tdiv_eq_ediv_of_nonneg (by omega)]); (try rw [Int.tmod_eq_emod_of_nonneg (by omega)]); (try rw [IntKind.wrap_i64]); (try omega))
  try simp only [Act.put, List.setIfInBounds_toArray, List.set_cons_zero, List.set_cons_succ]
  refine wpAnyH_take (i := 13) (v := .bool false) rfl (by kernel_rfl) (by kernel_rfl) (by kernel_rfl) (fun _ _ _ h => h) (Or.inl ⟨by kernel_rfl, ?_⟩) hHeld ?_
  · intro w hSw
    go_simp
    first | done | ((try rw [Int.tdiv_eq_ediv_of_nonneg (by omega)]); (try rw [Int.tmod_eq_emod_of_nonneg (by omega)]); (try rw [IntKind.wrap_i64]); (try omega))
  try simp only [Act.put, List.setIfInBounds_toArray, List.set_cons_zero, List.set_cons_succ]
  refine' wpAnyH_take (i := 14) (v := ?v12) rfl (by kernel_rfl) (by kernel_rfl) (by kernel_rfl) (fun _ _ _ h => h) (Or.inl ⟨by kernel_rfl, ?hy12⟩) (by assumption) ?rest12
  case hy12 => (intro w hSw; (try dsimp only at hSw); go_simp; try with_reducible rfl)
  try simp only [Act.put, List.setIfInBounds_toArray, List.set_cons_zero, List.set_cons_succ]
  refine wpAnyH_take (i := 15) (v := .int .i64 M) rfl (by kernel_rfl) (by kernel_rfl) (by kernel_rfl) (fun _ _ _ h => h) (Or.inl ⟨by kernel_rfl, ?_⟩) hHeld ?_
  · intro w hSw
    have hh := hSw.1.cells.2.1
    go_simp
  try simp only [Act.put, List.setIfInBounds_toArray, List.set_cons_zero, List.set_cons_succ]
  refine wpAnyH_take (i := 16) (v := .bool false) rfl (by kernel_rfl) (by kernel_rfl) (by kernel_rfl) (fun _ _ _ h => h) (Or.inl ⟨by kernel_rfl, ?_⟩) hHeld ?_
  · intro w hSw
    go_simp
    first | done | ((try rw [Int.tdiv_eq_ediv_of_nonneg (by omega)]); (try rw [Int.tmod_eq_emod_of_nonneg (by omega)]); (try rw [IntKind.wrap_i64]); (try omega))
  try simp only [Act.put, List.setIfInBounds_toArray, List.set_cons_zero, List.set_cons_succ]
  refine wpAnyH_take (i := 17) (v := .bool false) rfl (by kernel_rfl) (by kernel_rfl) (by kernel_rfl) (fun _ _ _ h => h) (Or.inl ⟨by kernel_rfl, ?_⟩) hHeld ?_
  · intro w hSw
    go_simp
    first | done | ((try rw [Int.tdiv_eq_ediv_of_nonneg (by omega)]); (try rw [Int.tmod_eq_emod_of_nonneg (by omega)]); (try rw [IntKind.wrap_i64]); (try omega))
  try simp only [Act.put, List.setIfInBounds_toArray, List.set_cons_zero, List.set_cons_succ]
  refine wpAnyH_take (i := 18) (v := .bool false) rfl (by kernel_rfl) (by kernel_rfl) (by kernel_rfl) (fun _ _ _ h => h) (Or.inl ⟨by kernel_rfl, ?_⟩) hHeld ?_
  · intro w hSw
    go_simp
    first | done | ((try rw [Int.tdiv_eq_ediv_of_nonneg (by omega)]); (try rw [Int.tmod_eq_emod_of_nonneg (by omega)]); (try rw [IntKind.wrap_i64]); (try omega))
  try simp only [Act.put, List.setIfInBounds_toArray, List.set_cons_zero, List.set_cons_succ]
  refine' wpAnyH_take (i := 19) (v := ?v13) rfl (by kernel_rfl) (by kernel_rfl) (by kernel_rfl) (fun _ _ _ h => h) (Or.inl ⟨by kernel_rfl, ?hy13⟩) (by assumption) ?rest13
  case hy13 => (intro w hSw; (try dsimp only at hSw); go_simp; try with_reducible rfl)
  try simp only [Act.put, List.setIfInBounds_toArray, List.set_cons_zero, List.set_cons_succ]
  refine wpAnyH_take (i := 20) (v := .int .i64 D) rfl (by kernel_rfl) (by kernel_rfl) (by kernel_rfl) (fun _ _ _ h => h) (Or.inl ⟨by kernel_rfl, ?_⟩) hHeld ?_
  · intro w hSw
    have hh := hSw.1.cells.2.2.1
    go_simp
  try simp only [Act.put, List.setIfInBounds_toArray, List.set_cons_zero, List.set_cons_succ]
  refine wpAnyH_take (i := 21) (v := .bool false) rfl (by kernel_rfl) (by kernel_rfl) (by kernel_rfl) (fun _ _ _ h => h) (Or.inl ⟨by kernel_rfl, ?_⟩) hHeld ?_
  · intro w hSw
    go_simp
    first | done | ((try rw [Int.tdiv_eq_ediv_of_nonneg (by omega)]); (try rw [Int.tmod_eq_emod_of_nonneg (by omega)]); (try rw [IntKind.wrap_i64]); (try omega))
  try simp only [Act.put, List.setIfInBounds_toArray, List.set_cons_zero, List.set_cons_succ]
  refine wpAnyH_take (i := 22) (v := .bool false) rfl (by kernel_rfl) (by kernel_rfl) (by kernel_rfl) (fun _ _ _ h => h) (Or.inl ⟨by kernel_rfl, ?_⟩) hHeld ?_
  · intro w hSw
    go_simp
    first | done | ((try rw [Int.tdiv_eq_ediv_of_nonneg (by omega)]); (try rw [Int.tmod_eq_emod_of_nonneg (by omega)]); (try rw [IntKind.wrap_i64]); (try omega))
  try simp only [Act.put, List.setIfInBounds_toArray, List.set_cons_zero, List.set_cons_succ]
  refine wpAnyH_take (i := 23) (v := .bool false) rfl (by kernel_rfl) (by kernel_rfl) (by kernel_rfl) (fun _ _ _ h => h) (Or.inl ⟨by kernel_rfl, ?_⟩) hHeld ?_
  · intro w hSw
    go_simp
    first | done | ((try rw [Int.tdiv_eq_ediv_of_nonneg (by omega)]); (try rw [Int.tmod_eq_emod_of_nonneg (by omega)]); (try rw [IntKind.wrap_i64]); (try omega))
  try simp only [Act.put, List.setIfInBounds_toArray, List.set_cons_zero, List.set_cons_succ]
  refine' wpAnyH_take (i := 24) (v := ?v14) rfl (by kernel_rfl) (by kernel_rfl) (by kernel_rfl) (fun _ _ _ h => h) (Or.inl ⟨by kernel_rfl, ?hy14⟩) (by assumption) ?rest14
  case hy14 => (intro w hSw; (try dsimp only at hSw); go_simp; try with_reducible rfl)
  try simp only [Act.put, List.setIfInBounds_toArray, List.set_cons_zero, List.set_cons_succ]
  refine' wpAnyH_take (i := 26) (v := ?v15) rfl (by kernel_rfl) (by kernel_rfl) (by kernel_rfl) (fun _ _ _ h => h) (Or.inl ⟨by kernel_rfl, ?hy15⟩) (by assumption) ?rest15
  case hy15 => (intro w hSw; (try dsimp only at hSw); go_simp; try with_reducible rfl)
  try simp only [Act.put, List.setIfInBounds_toArray, List.set_cons_zero, List.set_cons_succ]
  refine' wpAnyH_take (i := 28) (v := ?v16) rfl (by kernel_rfl) (by kernel_rfl) (by kernel_rfl) (fun _ _ _ h => h) (Or.inl ⟨by kernel_rfl, ?hy16⟩) (by assumption) ?rest16
  case hy16 => (intro w hSw; (try dsimp only at hSw); go_simp; try with_reducible rfl)
  try simp only [Act.put, List.setIfInBounds_toArray, List.set_cons_zero, List.set_cons_succ]
  refine wpAnyH_take (i := 25) (v := .int .i64 D) rfl (by kernel_rfl) (by kernel_rfl) (by kernel_rfl) (fun _ _ _ h => h) (Or.inl ⟨by kernel_rfl, ?_⟩) hHeld ?_
  · intro w hSw
    have hh := hSw.1.cells.2.2.1
    go_simp
  try simp only [Act.put, List.setIfInBounds_toArray, List.set_cons_zero, List.set_cons_succ]
  refine wpAnyH_take (i := 27) (v := .int .i64 Y) rfl (by kernel_rfl) (by kernel_rfl) (by kernel_rfl) (fun _ _ _ h => h) (Or.inl ⟨by kernel_rfl, ?_⟩) hHeld ?_
  · intro w hSw
    have hh := hSw.1.cells.1
    go_simp
  try simp only [Act.put, List.setIfInBounds_toArray, List.set_cons_zero, List.set_cons_succ]
  refine wpAnyH_take (i := 29) (v := .int .i64 M) rfl (by kernel_rfl) (by kernel_rfl) (by kernel_rfl) (fun _ _ _ h => h) (Or.inl ⟨by kernel_rfl, ?_⟩) hHeld ?_
  · intro w hSw
    have hh := hSw.1.cells.2.1
    go_simp
  try simp only [Act.put, List.setIfInBounds_toArray, List.set_cons_zero, List.set_cons_succ]
  refine wpAnyH_ready (rs := [30]) (by kernel_rfl) (by simp) ?_
  refine AllReadyH.cons rfl (fun K hK => ?_) AllReadyH.nil
  go_simp
  go_at_call 27
  refine (HM.out _).mono ?_
  rintro er w' ⟨rfl, b'⟩
  have HW := Lib.hid (HW.out.trans (b'.mono HW.out.size))
  have HS := Lib.hid (And.intro (DtR.mk (HS.out.1.row.below b' HS.out.2)) (Nat.lt_of_lt_of_le HS.out.2 b'.size))
  clear b' hHeld
  go_wp2_with fail
  refine hK.out _ _ HS.out (fun hHeld => ?_)
  clear hK K
  try simp only [Act.put, List.setIfInBounds_toArray, List.set_cons_zero, List.set_cons_succ]
  refine wpAnyH_take (i := 31) (v := .bool false) rfl (by kernel_rfl) (by kernel_rfl) (by kernel_rfl) (fun _ _ _ h => h) (Or.inl ⟨by kernel_rfl, ?_⟩) hHeld ?_
  · intro w hSw
    go_simp
  refine wpAnyH_take (i := 32) (v := .bool false) rfl (by kernel_rfl) (by kernel_rfl) (by kernel_rfl) (fun _ _ _ h => h) (Or.inl ⟨by kernel_rfl, ?_⟩) hHeld ?_
  · intro w hSw
    go_simp
  refine wpAnyH_done (by kernel_rfl) ?_ _
  refine NoPanic.normal ?_
  have hD31 : D ≤ 31 := by omega
  clear HM d0 d1 d2 d3 d4 d5 hle hge hHeld
  replace HS := Lib.hid HS.out.1
  obtain ⟨c0, c1, c2, f0, f1, f2⟩ := HS.out.cells
  go_wp2_with fail
  clear c0 c1 c2 f0 f1 f2
  go_loopw [4, 5] (fun v k wr => ∃ (y v0 : Int), v = .int .i64 v0 ∧ k = .int .i64 y ∧ 1970 ≤ y ∧ y ≤ Y ∧ 0 ≤ v0 ∧ v0 ≤ 8000000 ∧ Hid (v0 = D - 1 + Cal.sY y) ∧ Hid (DtR w.heap.size Y M D wr) ∧ Hid (Below w.heap.size w wr)) (fun _ k _ => (Y - intOf k).toNat)
  case atStart => exact ⟨1970, D - 1, rfl, rfl, by omega, g0, by omega, by omega, by unfold Hid; rw [Cal.sY_0]; omega, HS, HW⟩
  case round =>
    obtain ⟨y, v0, rfl, rfl, y0, y1, b0, b1, HV, HC, HB⟩ := hrel
    obtain ⟨c0, c1, c2, f0, f1, f2⟩ := HC.out.cells
    by_cases hc : y < Y
    · have dd : decide (y < Y) = true := by simpa using hc
      have hyl := Cal.ylen_bd y
      have HYY := fun w => Lib.hid (HY.out y w (by omega) (by omega))
      have hst := Cal.sY_step y
      have h20 : Cal.sY (y + 1) ≤ 7000000 := by
        have a := Cal.sY_le (y := y + 1) (z := 20000) (by omega)
        have : Cal.sY 20000 ≤ 7000000 := by decide
        omega
      obtain ⟨L, hL⟩ : ∃ L, Cal.ylen y = L := ⟨_, rfl⟩
      rw [hL] at hyl HYY hst
      have HV2 : Hid (v0 + L = D - 1 + Cal.sY (y + 1)) := by unfold Hid; rw [HV.out, hst]; omega
      have hv2 : v0 + L ≤ 8000000 := by have := HV2.out; omega
      obtain ⟨hyl0, hyl1⟩ := hyl
      clear hst hL h20
      go_wp2_with fail
      refine (HYY _).out.mono ?_
      rintro e w' ⟨rfl, rfl⟩
      go_wp2_with fail
      go_roundw
      case rel => exact ⟨y + 1, v0 + L, by go_num, by go_num, by omega, by omega, by omega, hv2, HV2, HC, HB⟩
      case measure => simp [intOf]; omega
    · have dd : decide (y < Y) = false := by simp; omega
      obtain rfl : y = Y := by omega
      go_wp2_with fail
      clear dd hc c0 c1 c2 f0 f1 f2
      go_loopw [4, 6] (fun v k wr => ∃ (j v1 : Int), v = .int .i64 v1 ∧ k = .int .i64 j ∧ 1 ≤ j ∧ j ≤ M ∧ 0 ≤ v1 ∧ v1 ≤ 8000000 + 31 * j ∧ Hid (v1 = D - 1 + Cal.sY y + Cal.cR y j) ∧ Hid (DtR w.heap.size y M D wr) ∧ Hid (Below w.heap.size w wr)) (fun _ k _ => (M - intOf k).toNat)
      case atStart => exact ⟨1, v0, rfl, rfl, by omega, g2, b0, by omega, by unfold Hid; rw [Cal.cR_1, HV.out]; omega, HC, HB⟩
      case round =>
        obtain ⟨j, v1, rfl, rfl, j0, j1, b0, b1, HV, HC, HB⟩ := hrel
        obtain ⟨c0, c1, c2, f0, f1, f2⟩ := HC.out.cells
        by_cases hc : j < M
        · have dd : decide (j < M) = true := by simpa using hc
          have hge := Cal.mlen_ge y j
          have hle := Cal.mlen_le y j
          have HMM := fun w => Lib.hid (HL.out y j w (by omega) (by omega) j0 (by omega))
          have hst := Cal.cR_step y j j0 (by omega)
          obtain ⟨L, hL⟩ : ∃ L, Cal.mlen y j = L := ⟨_, rfl⟩
          rw [hL] at hge hle HMM hst
          have HV2 : Hid (v1 + L = D - 1 + Cal.sY y + Cal.cR y (j + 1)) := by unfold Hid; rw [HV.out, hst]; omega
          clear hst hL
          go_wp2_with fail
          refine (HMM _).out.mono ?_
          rintro e w' ⟨rfl, rfl⟩
          go_wp2_with fail
          go_roundw
          case rel => exact ⟨j + 1, v1 + L, by go_num, by go_num, by omega, by omega, by omega, by omega, HV2, HC, HB⟩
          case measure => simp [intOf]; omega
        · have dd : decide (j < M) = false := by simp; omega
          obtain rfl : j = M := by omega
          go_wp2_with fail
          go_ret2
          exact ⟨by rw [← HV.out]; rfl, HB.out⟩
theorem rdays_any (t : Cal.Dt) (w : World) : Calls Tryd.prog 14 #[dtV t] w fun e w' => e = .returned (.tuple #[.int .i64 (daysC t).1, .bool (daysC t).2]) ∧ Below w.heap.size w w' := by
  by_cases h : inDays t
  · rw [daysC_in t h]
    exact rdays_in t.y t.m t.d w h.1 h.2.1 h.2.2.1 h.2.2.2.1 h.2.2.2.2.1 h.2.2.2.2.2
  · rw [daysC_out t h]
    by_cases h2 : t.y < 1970 ∨ 20000 < t.y ∨ t.m < 1 ∨ 12 < t.m ∨ t.d < 1
    · exact rdays_early t.y t.m t.d w h2
    · unfold inDays at h
      exact rdays_late t.y t.m t.d w (by omega) (by omega) (by omega) (by omega) (by omega) (by omega)
end Go.Proofs.YtlikmdmdmljiaaaDoor
