/- retain.Days; the reference's calendar: walks (written by gen-ret-days.py). -/
import Derived.Test.YtlikmdmdmljiaaaDoorWords
import Derived.Test.YtlikmdmdmljiaaaDoorRetCivil
import Derived.Laws.StructEq
namespace Go.Proofs.YtlikmdmdmljiaaaDoor
open Go.RowKit
set_option linter.unusedVariables false
set_option linter.unusedSimpArgs false
theorem date_eql (a b : Cal.Dt) (w : World) : (binOp .eql 42 (dtV a) (dtV b)).run Tryd.prog w = .ok (.bool (decide (a = b))) w := by
  obtain ⟨y, m, d⟩ := a
  obtain ⟨y', m', d'⟩ := b
  have u3 := Tryd.underlying3
  have hS : Tryd.prog.underlying 42 = some (.struct (Tryd.prog.fieldsOf 42)) := by kernel_rfl
  have hp : Tryd.prog.stoodInHeld 42 = false := by kernel_rfl
  have a3 := Tryd.isAgg3
  have z3 := Tryd.sizeOf3
  unfold dtV
  rw [run_eql_struct, show (10000 : Nat) = 9999 + 1 from rfl, run_equalIn_agg w 9999 42 _ _ hS hp]
  simp only [Program.fieldsOf, Tryd.underlying42]
  go_simp
  by_cases h1 : y = y' <;> by_cases h2 : m = m' <;> by_cases h3 : d = d' <;> simp [h1, h2, h3]
theorem date_neq (a b : Cal.Dt) (w : World) : (binOp .neq 42 (dtV a) (dtV b)).run Tryd.prog w = .ok (.bool (!decide (a = b))) w := by
  obtain ⟨y, m, d⟩ := a
  obtain ⟨y', m', d'⟩ := b
  have u3 := Tryd.underlying3
  have hS : Tryd.prog.underlying 42 = some (.struct (Tryd.prog.fieldsOf 42)) := by kernel_rfl
  have hp : Tryd.prog.stoodInHeld 42 = false := by kernel_rfl
  have a3 := Tryd.isAgg3
  have z3 := Tryd.sizeOf3
  unfold dtV
  rw [run_neq_struct, show (10000 : Nat) = 9999 + 1 from rfl, run_equalIn_agg w 9999 42 _ _ hS hp]
  simp only [Program.fieldsOf, Tryd.underlying42]
  go_simp
  by_cases h1 : y = y' <;> by_cases h2 : m = m' <;> by_cases h3 : d = d' <;> simp [h1, h2, h3]
theorem date_guard (op : BinOp) (x y : Operand) (a b : Cal.Dt) (w : World) : (eqGuard op 42 x y (dtV a) (dtV b)).run Tryd.prog w = .ok () w := run_eqGuard_agg _ _ _ _ _ _ _ (by kernel_rfl)
/-- is a day within what is looked at? -/
def within (t : Cal.Dt) : Prop := 1970 ≤ t.y ∧ t.y ≤ 20000 ∧ 1 ≤ t.m ∧ t.m ≤ 12 ∧ 1 ≤ t.d ∧ t.d ≤ 31
instance (t : Cal.Dt) : Decidable (within t) := by unfold within; infer_instance
theorem range_below' {w w' : World} {b o B : Nat} {cs : List Value} (h : w.rangeAt b o cs) (hb : Below B w w') (hB : b < B) : w'.rangeAt b o cs := fun j v hj => (hb.cell (p := ⟨b, o + j, none⟩) hB).trans (h j v hj)
def daysC (t : Cal.Dt) : Int × Bool := if within t ∧ civC (Cal.cnt t) = t then (Cal.cnt t, true) else (0, false)
theorem cnt_bd (t : Cal.Dt) (h : within t) : -719468 ≤ Cal.cnt t ∧ Cal.cnt t ≤ 10000000 := by
  obtain ⟨h1, h2, h3, h4, h5, h6⟩ := h
  obtain ⟨y, m, d⟩ := t
  simp only at h1 h2 h3 h4 h5 h6
  rw [Cal.cnt_eq y m d h3 h4]
  have a := Cal.sY_le h1
  have b := Cal.sY_le h2
  have c := Cal.cR_0 y m
  have e := Cal.cR_end y m h3 h4
  have f := Cal.ylen_bd y
  have g := Cal.mlen_ge y m
  rw [Cal.sY_0] at a
  have : Cal.sY 20000 ≤ 7000000 := by decide
  omega

set_option maxRecDepth 20000 in
set_option maxHeartbeats 1000000 in
theorem days_out (Y M D : Int) (w : World) (h : ¬ within ⟨Y, M, D⟩) :
    Calls Tryd.prog 13 #[.agg #[.int .i64 Y, .int .i64 M, .int .i64 D]] w fun e w' => e = .returned (.tuple #[.int .i64 0, .bool false]) ∧ Below w.heap.size w w' := by
  unfold within at h
  simp only at h
  have e0 : (w.alloc (.cells #[.int .i64 Y, .int .i64 M, .int .i64 D] 42)).cell? ⟨w.heap.size, 0, none⟩ = some (.int .i64 Y) := by simp
  have e1 : (w.alloc (.cells #[.int .i64 Y, .int .i64 M, .int .i64 D] 42)).cell? ⟨w.heap.size, 1, none⟩ = some (.int .i64 M) := by simp
  have e2 : (w.alloc (.cells #[.int .i64 Y, .int .i64 M, .int .i64 D] 42)).cell? ⟨w.heap.size, 2, none⟩ = some (.int .i64 D) := by simp
  by_cases h0 : Y < 1970
  · have d0 : decide (Y < 1970) = true := by simpa using h0
    go_enter Tryd.func13, Tryd.ntmps13
    go_wp2
    go_ret2
    exact ⟨rfl, (Below.refl _ _).alloc (Nat.le_refl _) _⟩
  have d0 : decide (Y < 1970) = false := by simpa using h0
  by_cases h1 : 20000 < Y
  · have d1 : decide (20000 < Y) = true := by simpa using h1
    go_enter Tryd.func13, Tryd.ntmps13
    go_wp2
    go_ret2
    exact ⟨rfl, (Below.refl _ _).alloc (Nat.le_refl _) _⟩
  have d1 : decide (20000 < Y) = false := by simpa using h1
  by_cases h2 : M < 1
  · have d2 : decide (M < 1) = true := by simpa using h2
    go_enter Tryd.func13, Tryd.ntmps13
    go_wp2
    go_ret2
    exact ⟨rfl, (Below.refl _ _).alloc (Nat.le_refl _) _⟩
  have d2 : decide (M < 1) = false := by simpa using h2
  by_cases h3 : 12 < M
  · have d3 : decide (12 < M) = true := by simpa using h3
    go_enter Tryd.func13, Tryd.ntmps13
    go_wp2
    go_ret2
    exact ⟨rfl, (Below.refl _ _).alloc (Nat.le_refl _) _⟩
  have d3 : decide (12 < M) = false := by simpa using h3
  by_cases h4 : D < 1
  · have d4 : decide (D < 1) = true := by simpa using h4
    go_enter Tryd.func13, Tryd.ntmps13
    go_wp2
    go_ret2
    exact ⟨rfl, (Below.refl _ _).alloc (Nat.le_refl _) _⟩
  have d4 : decide (D < 1) = false := by simpa using h4
  by_cases h5 : 31 < D
  · have d5 : decide (31 < D) = true := by simpa using h5
    go_enter Tryd.func13, Tryd.ntmps13
    go_wp2
    go_ret2
    exact ⟨rfl, (Below.refl _ _).alloc (Nat.le_refl _) _⟩
  have d5 : decide (31 < D) = false := by simpa using h5
  exact absurd h (by omega)
set_option maxRecDepth 20000 in
set_option maxHeartbeats 1000000 in
theorem days_in (t : Cal.Dt) (w : World) (h : within t) :
    Calls Tryd.prog 13 #[dtV t] w fun e w' => e = .returned (.tuple #[.int .i64 (daysC t).1, .bool (daysC t).2]) ∧ Below w.heap.size w w' := by
  have hb := cnt_bd t h
  have hD : daysC t = if civC (Cal.cnt t) = t then (Cal.cnt t, true) else (0, false) := by unfold daysC; simp [h]
  have HD := Lib.hid hD; clear hD
  have hc := fun w => count_any t w h.1 h.2.1 h.2.2.1 h.2.2.2.1 h.2.2.2.2.1 h.2.2.2.2.2
  obtain ⟨h1, h2, h3, h4, h5, h6⟩ := h
  have hne := fun w => date_neq (civC (Cal.cnt t)) t w
  have hcv := fun w => civil_any (Cal.cnt t) w
  obtain ⟨Y, M, D⟩ := t
  have d0 : decide (Y < 1970) = false := by simpa using h1
  have d1 : decide (20000 < Y) = false := by simpa using h2
  have d2 : decide (M < 1) = false := by simpa using h3
  have d3 : decide (12 < M) = false := by simpa using h4
  have d4 : decide (D < 1) = false := by simpa using h5
  have d5 : decide (31 < D) = false := by simpa using h6
  generalize hN : Cal.cnt ⟨Y, M, D⟩ = N at *
  generalize hV : civC N = V at *
  have HN := Lib.hid hN; clear hN
  have HV := Lib.hid hV; clear hV
  have HC := Lib.hid hc; clear hc
  have HNE := Lib.hid hne; clear hne
  have HCV := Lib.hid hcv; clear hcv
  simp only at h1 h2 h3 h4 h5 h6
  show Calls _ _ #[.agg #[.int .i64 Y, .int .i64 M, .int .i64 D]] _ _
  have HC : Hid (∀ w, Calls Tryd.prog 26 #[.agg #[.int .i64 Y, .int .i64 M, .int .i64 D]] w fun e w' => e = .returned (.int .i64 N) ∧ Below w.heap.size w w') := HC.out
  go_enter Tryd.func13, Tryd.ntmps13
  go_wp2_with fail
  refine (HC.out _).mono ?_
  rintro e w1 ⟨rfl, b1⟩
  have hbx : Below w.heap.size w w1 := ((Below.refl _ _).alloc (Nat.le_refl _) _).trans (b1.mono (by simp))
  have e0 : w1.cell? ⟨w.heap.size, 0, none⟩ = some (.int .i64 Y) := (b1.cell (p := ⟨w.heap.size, 0, none⟩) (by simp)).trans (by simp)
  have e1 : w1.cell? ⟨w.heap.size, 1, none⟩ = some (.int .i64 M) := (b1.cell (p := ⟨w.heap.size, 1, none⟩) (by simp)).trans (by simp)
  have e2 : w1.cell? ⟨w.heap.size, 2, none⟩ = some (.int .i64 D) := (b1.cell (p := ⟨w.heap.size, 2, none⟩) (by simp)).trans (by simp)
  have hz1 : w.heap.size < w1.heap.size := by have := b1.size; simp at this; omega
  clear b1
  have HW := Lib.hid hbx; clear hbx
  go_wp2_with fail
  have HS : Hid (w1.drew.rangeAt w.heap.size 0 (#[Value.int .i64 Y, .int .i64 M, .int .i64 D] : Array Value).toList ∧ w.heap.size < w1.drew.heap.size) := ⟨fun j v hj => by
    match j, hj with
    | 0, hj => cases hj; exact e0
    | 1, hj => cases hj; exact e1
    | 2, hj => cases hj; exact e2, hz1⟩
  have HW : Hid (Below w.heap.size w w1.drew) := HW.out.drew
  clear e0 e1 e2
  have HL : Hid ((Tryd.prog.info? 42).map (·.size) = some (#[Value.int .i64 Y, .int .i64 M, .int .i64 D] : Array Value).toList.length) := by unfold Hid; kernel_rfl
  refine wp_region_noPanic ?_
  refine wp_region_held_drew (S := fun w' => w'.rangeAt w.heap.size 0 (#[Value.int .i64 Y, .int .i64 M, .int .i64 D] : Array Value).toList ∧ w.heap.size < w'.heap.size) (by kernel_rfl) HS.out (fun hHeld => ?_)
  generalize w1.drew = wz at *
  refine' wpAnyH_take (i := 0) (v := ?v1) rfl (by kernel_rfl) (by kernel_rfl) (by kernel_rfl) (fun _ _ _ h => h) (Or.inl ⟨by kernel_rfl, ?hy1⟩) (by assumption) ?rest1
  case hy1 => (intro w hSw; (try dsimp only at hSw); go_simp; try with_reducible rfl)
  try simp only [Act.put, List.setIfInBounds_toArray, List.set_cons_zero, List.set_cons_succ]
  refine wpAnyH_take (i := 2) (v := .agg (#[Value.int .i64 Y, .int .i64 M, .int .i64 D] : Array Value).toList.toArray) rfl (by kernel_rfl) (by kernel_rfl) (by kernel_rfl) (fun _ _ _ h => h) (yieldsIf_load_mid (by rfl) 42 _ rfl w.heap.size 0 rfl (#[Value.int .i64 Y, .int .i64 M, .int .i64 D] : Array Value).toList _ (fun w h => h.1) Tryd.underlying42 rfl HL.out) hHeld ?_
  try simp only [Act.put, List.setIfInBounds_toArray, List.set_cons_zero, List.set_cons_succ]
  refine wpAnyH_ready (rs := [1]) (by kernel_rfl) (by simp) ?_
  refine AllReadyH.cons rfl (fun K hK => ?_) AllReadyH.nil
  go_simp
  go_at_call 15
  refine (HCV.out _).mono ?_
  rintro er w' ⟨rfl, b'⟩
  have HW := Lib.hid (HW.out.trans (b'.mono HW.out.size))
  have HS := Lib.hid (And.intro (range_below' HS.out.1 b' HS.out.2) (Nat.lt_of_lt_of_le HS.out.2 b'.size))
  clear b' hHeld
  go_wp2_with fail
  refine hK.out _ _ HS.out (fun hHeld => ?_)
  clear hK K
  by_cases hv : V = ⟨Y, M, D⟩
  · have HNE : Hid (∀ w, (binOp .neq 42 (dtV V) (.agg #[.int .i64 Y, .int .i64 M, .int .i64 D])).run Tryd.prog w = .ok (.bool false) w) := fun w => by have := HNE.out w; rwa [decide_eq_true hv] at this
    rw [if_pos hv] at HD
    clear hv
    refine wpAnyH_take (i := 3) (v := .bool false) rfl (by kernel_rfl) (by kernel_rfl) (by kernel_rfl) (fun _ _ _ h => h) (Or.inl ⟨by rfl, ?_⟩) hHeld ?_
    · intro w hSw
      have := HNE.out w
      have hg : (eqGuard .neq 42 (.tmp 36) (.tmp 37) (dtV V) (.agg #[.int .i64 Y, .int .i64 M, .int .i64 D])).run Tryd.prog w = .ok () w := date_guard _ _ _ V ⟨Y, M, D⟩ w
      go_simp
    refine wpAnyH_done (by kernel_rfl) ?_ _
    refine NoPanic.normal ?_
    go_wp2
    go_ret2
    exact ⟨by rw [HD.out]; rfl, HW.out⟩
  · have HNE : Hid (∀ w, (binOp .neq 42 (dtV V) (.agg #[.int .i64 Y, .int .i64 M, .int .i64 D])).run Tryd.prog w = .ok (.bool true) w) := fun w => by have := HNE.out w; rwa [decide_eq_false hv] at this
    rw [if_neg hv] at HD
    clear hv
    refine wpAnyH_take (i := 3) (v := .bool true) rfl (by kernel_rfl) (by kernel_rfl) (by kernel_rfl) (fun _ _ _ h => h) (Or.inl ⟨by rfl, ?_⟩) hHeld ?_
    · intro w hSw
      have := HNE.out w
      have hg : (eqGuard .neq 42 (.tmp 36) (.tmp 37) (dtV V) (.agg #[.int .i64 Y, .int .i64 M, .int .i64 D])).run Tryd.prog w = .ok () w := date_guard _ _ _ V ⟨Y, M, D⟩ w
      go_simp
    refine wpAnyH_done (by kernel_rfl) ?_ _
    refine NoPanic.normal ?_
    go_wp2
    go_ret2
    exact ⟨by rw [HD.out]; rfl, HW.out⟩
theorem days_any (t : Cal.Dt) (w : World) : Calls Tryd.prog 13 #[dtV t] w fun e w' => e = .returned (.tuple #[.int .i64 (daysC t).1, .bool (daysC t).2]) ∧ Below w.heap.size w w' := by
  by_cases h : within t
  · exact days_in t w h
  · have hD : daysC t = (0, false) := by unfold daysC; simp [h]
    rw [hD]
    exact days_out t.y t.m t.d w h
set_option maxRecDepth 20000 in
set_option maxHeartbeats 1000000 in
theorem leap_any (y : Int) (w : World) (h0 : 0 ≤ y) (h1 : y ≤ 1000000) : Calls Tryd.prog 41 #[.int .i64 y] w fun e w' => e = .returned (.bool (Cal.lp y)) ∧ w = w' := by
  have hl := Cal.lp_iff y
  cases hb : Cal.lp y
  · rw [hb] at hl
    have HB := Lib.hid hb; clear hb
    by_cases h4 : y % 4 = 0
    · have c1 : ((y % 4) == 0) = true := by simpa using h4
      have h100 : y % 100 = 0 ∧ y % 400 ≠ 0 := by
        refine Decidable.byContradiction fun hh => ?_
        have := hl.2 ⟨h4, by omega⟩
        cases this
      have c2 : ((y % 100) != 0) = false := by simpa using h100.1
      have c3 : ((y % 400) == 0) = false := by simpa using h100.2
      clear hl h4 h100
      go_enter Tryd.func41, Tryd.ntmps41
      go_wp2
      go_ret
      exact ⟨rfl, rfl⟩
    · have c1 : ((y % 4) == 0) = false := by simpa using h4
      clear hl h4
      go_enter Tryd.func41, Tryd.ntmps41
      go_wp2
      go_ret
      exact ⟨rfl, rfl⟩
  · rw [hb] at hl
    have HB := Lib.hid hb; clear hb
    obtain ⟨h4, h5⟩ := hl.1 rfl
    have c1 : ((y % 4) == 0) = true := by simpa using h4
    clear hl h4
    by_cases h100 : y % 100 = 0
    · have c2 : ((y % 100) != 0) = false := by simpa using h100
      have c3 : ((y % 400) == 0) = true := by simpa using h5.resolve_left (fun h => h h100)
      clear h5 h100
      go_enter Tryd.func41, Tryd.ntmps41
      go_wp2
      go_ret
      exact ⟨rfl, rfl⟩
    · have c2 : ((y % 100) != 0) = true := by simpa using h100
      clear h5 h100
      go_enter Tryd.func41, Tryd.ntmps41
      go_wp2
      go_ret
      exact ⟨rfl, rfl⟩
set_option maxRecDepth 20000 in
set_option maxHeartbeats 1000000 in
theorem year_any (y : Int) (w : World) (h0 : 0 ≤ y) (h1 : y ≤ 1000000) : Calls Tryd.prog 28 #[.int .i64 y] w fun e w' => e = .returned (.int .i64 (Cal.ylen y)) ∧ w = w' := by
  have HL := Lib.hid (leap_any y w h0 h1)
  unfold Cal.ylen
  cases hb : Cal.lp y
  all_goals
    rw [hb] at HL
    go_enter Tryd.func28, Tryd.ntmps28
    go_wp2_with fail
    refine HL.out.mono ?_
    rintro e w1 ⟨rfl, rfl⟩
    go_wp2
    go_ret
    exact ⟨rfl, rfl⟩
set_option maxRecDepth 20000 in
set_option maxHeartbeats 1000000 in
theorem length_any (y m : Int) (w : World) (h0 : 0 ≤ y) (h1 : y ≤ 1000000) (hm : 1 ≤ m) (hm2 : m ≤ 12) : Calls Tryd.prog 27 #[.int .i64 y, .int .i64 m] w fun e w' => e = .returned (.int .i64 (Cal.mlen y m)) ∧ w = w' := by
  have HL := Lib.hid (leap_any y w h0 h1)
  have : m = 1 ∨ m = 2 ∨ m = 3 ∨ m = 4 ∨ m = 5 ∨ m = 6 ∨ m = 7 ∨ m = 8 ∨ m = 9 ∨ m = 10 ∨ m = 11 ∨ m = 12 := by omega
  rcases this with rfl | rfl | rfl | rfl | rfl | rfl | rfl | rfl | rfl | rfl | rfl | rfl
  case inr.inl =>
    cases hb : Cal.lp y
    all_goals
      rw [hb] at HL
      have hv : Cal.mlen y 2 = if Cal.lp y then 29 else 28 := by simp [Cal.mlen]
      rw [hb] at hv
      have HV := Lib.hid hv
      clear hb hv
      go_enter Tryd.func27, Tryd.ntmps27
      go_wp2_with fail
      refine HL.out.mono ?_
      rintro e w1 ⟨rfl, rfl⟩
      go_wp2
      go_ret
      exact ⟨by rw [HV.out]; rfl, rfl⟩
  all_goals
    go_enter Tryd.func27, Tryd.ntmps27
    go_wp2
    go_ret
    exact ⟨by simp [Cal.mlen], rfl⟩
end Go.Proofs.YtlikmdmdmljiaaaDoor
