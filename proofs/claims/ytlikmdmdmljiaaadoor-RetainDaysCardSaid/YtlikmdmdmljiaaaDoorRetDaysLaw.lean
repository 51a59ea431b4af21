/- RetainDays: for all numbers and every day the call returns true. Condition: the table of powers of ten lies as laid. -/
import Derived.Test.YtlikmdmdmljiaaaDoorRetRDays
import Derived.Test.YtlikmdmdmljiaaaDoorRetRSay
import Derived.Test.YtlikmdmdmljiaaaDoorRetAwake
import Derived.Test.YtlikmdmdmljiaaaDoorRetOpen
import Derived.Test.YtlikmdmdmljiaaaDoorArgs
namespace Go.Proofs.YtlikmdmdmljiaaaDoor
open Go.RowKit
set_option linter.unusedVariables false
set_option linter.unusedSimpArgs false
set_option maxRecDepth 20000 in
set_option maxHeartbeats 4000000 in
theorem retDays_any (n : Int) (d : Cal.Dt) (a : Int) (W : World) (ht : Tab W) :
    Calls Tryd.prog 4 #[.int .i64 n, .agg #[.int .i64 d.y, .int .i64 d.m, .int .i64 d.d], .int .i64 a] W fun e w' => e = .returned (.bool true) ∧ Below W.heap.size W w' := by
  have HT := Lib.hid ht; clear ht
  have HD : Hid (∀ w, Calls Tryd.prog 13 #[.agg #[.int .i64 d.y, .int .i64 d.m, .int .i64 d.d]] w fun e w' => e = .returned (.tuple #[.int .i64 (daysC d).1, .bool (daysC d).2]) ∧ Below w.heap.size w w') := fun w => days_any d w
  have HE : Hid (∀ w, Calls Tryd.prog 14 #[.agg #[.int .i64 d.y, .int .i64 d.m, .int .i64 d.d]] w fun e w' => e = .returned (.tuple #[.int .i64 (daysC d).1, .bool (daysC d).2]) ∧ Below w.heap.size w w') := fun w => rdays_any d w
  generalize (daysC d).1 = k at *
  generalize (daysC d).2 = is at *
  have HC := Lib.hid (fun w => civil_any n w)
  have HR := Lib.hid (fun w => rcivil_any n w)
  have hq := fun w => date_eql (civC n) (civC n) w
  have hg := fun w x y => date_guard .eql x y (civC n) (civC n) w
  generalize civC n = t at *
  obtain ⟨Y, M, D⟩ := t
  have HQ : Hid (∀ w, (binOp .eql 42 (.agg #[.int .i64 Y, .int .i64 M, .int .i64 D]) (.agg #[.int .i64 Y, .int .i64 M, .int .i64 D])).run Tryd.prog w = .ok (.bool true) w) := fun w => (hq w).trans (by simp)
  have HG : Hid (∀ w x y, (eqGuard .eql 42 x y (.agg #[.int .i64 Y, .int .i64 M, .int .i64 D]) (.agg #[.int .i64 Y, .int .i64 M, .int .i64 D])).run Tryd.prog w = .ok () w) := hg
  clear hq hg
  replace HC : Hid (∀ w, Calls Tryd.prog 15 #[.int .i64 n] w fun e w' => e = .returned (.agg #[.int .i64 Y, .int .i64 M, .int .i64 D]) ∧ Below w.heap.size w w') := HC
  replace HR : Hid (∀ w, Calls Tryd.prog 16 #[.int .i64 n] w fun e w' => e = .returned (.agg #[.int .i64 Y, .int .i64 M, .int .i64 D]) ∧ Below w.heap.size w w') := HR
  have HX := Lib.hid (fun w h => text_any a w h)
  have HY := Lib.hid (fun w h => rtext_any a w h)
  have hs : ((textB a).toList == (textB a).toList) = true := by simp
  generalize textB a = s at *
  go_enter Tryd.func4, Tryd.ntmps4
  go_wp2_with fail
  refine (HD.out _).mono ?_
  rintro e w1 ⟨rfl, b1⟩
  have HW : Hid (Below W.heap.size W w1) := ((Below.refl _ _).alloc (Nat.le_refl _) _).trans (b1.mono (by simp))
  have hl0 : W.heap.size < w1.heap.size := by have := b1.size; simp at this; omega
  have e0 : w1.cell? ⟨W.heap.size, 0, none⟩ = some (.int .i64 d.y) := (b1.cell (p := ⟨W.heap.size, 0, none⟩) (by simp)).trans (by simp)
  have e1 : w1.cell? ⟨W.heap.size, 1, none⟩ = some (.int .i64 d.m) := (b1.cell (p := ⟨W.heap.size, 1, none⟩) (by simp)).trans (by simp)
  have e2 : w1.cell? ⟨W.heap.size, 2, none⟩ = some (.int .i64 d.d) := (b1.cell (p := ⟨W.heap.size, 2, none⟩) (by simp)).trans (by simp)
  clear b1
  go_wp2_with fail
  refine (HE.out _).mono ?_
  rintro e w2 ⟨rfl, b2⟩
  replace HW := Lib.hid (HW.out.trans (b2.mono HW.out.size))
  clear b2 e0 e1 e2 hl0
  go_wp2_with fail
  refine (HC.out _).mono ?_
  rintro e w3 ⟨rfl, b3⟩
  replace HW := Lib.hid (HW.out.trans (b3.mono HW.out.size))
  clear b3
  go_wp2_with fail
  refine (HR.out _).mono ?_
  rintro e w4 ⟨rfl, b4⟩
  replace HW := Lib.hid (HW.out.trans (b4.mono HW.out.size))
  clear b4
  go_wp2_with (first | (rw [(HG.out _ _ _)]) | (rw [(HQ.out _)]))
  refine (HX.out _ (HT.out.below HW.out (Nat.le_refl _))).mono ?_
  rintro e w5 ⟨rfl, b5⟩
  replace HW := Lib.hid (HW.out.trans (b5.mono HW.out.size))
  clear b5
  go_wp2_with fail
  refine (HY.out _ (HT.out.below HW.out (Nat.le_refl _))).mono ?_
  rintro e w6 ⟨rfl, b6⟩
  replace HW := Lib.hid (HW.out.trans (b6.mono HW.out.size))
  clear b6
  go_wp2_with fail
  refine (retAwake_any _ (HT.out.below HW.out (Nat.le_refl _))).mono ?_
  rintro e w7 ⟨rfl, b7⟩
  replace HW := Lib.hid (HW.out.trans (b7.mono HW.out.size))
  clear b7
  go_wp2
  go_ret
  exact ⟨rfl, HW.out⟩
theorem retainDays_ok (W : World) (ht : Tab W) (x0 : Int) {p0 : Prop} (w0 : p0) (x1 : Int × Int × Int) {p1 : Prop} (w1 : p1) (x2 : Int) {p2 : Prop} (w2 : p2) :
    Calls Tryd.prog 4 #[.int .i64 x0, .agg ((ES3 (EInt .i64) (EInt .i64) (EInt .i64)) x1).toArray, .int .i64 x2] W fun e w' => e = .returned (.bool true) ∧ Below W.heap.size W w' :=
  retDays_any x0 ⟨x1.1, x1.2.1, x1.2.2⟩ x2 W ht
end Go.Proofs.YtlikmdmdmljiaaaDoor
