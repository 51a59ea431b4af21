/- the law package's awake: walk. -/
import Derived.Test.YtlikmdmdmljiaaaDoorRetSay
namespace Go.Proofs.YtlikmdmdmljiaaaDoor
open Go.RowKit
set_option linter.unusedVariables false
set_option linter.unusedSimpArgs false
theorem dec1970 : twoB 1970 = ⟨#[49, 57, 55, 48]⟩ := by
  unfold twoB twoL
  rw [show (1970 : Int) = ((1970 : Nat) : Int) from rfl, itoa_nat, decD_big _ (by omega), decD_big _ (by omega), decD_big _ (by omega), decD_small _ (by omega)]; rfl
theorem dec_1 : twoB 1 = ⟨#[48, 49]⟩ := by
  unfold twoB twoL
  rw [show (1 : Int) = ((1 : Nat) : Int) from rfl, itoa_nat, decD_small _ (by omega)]; rfl
theorem dec_23 : twoB 23 = ⟨#[50, 51]⟩ := by
  unfold twoB twoL
  rw [show (23 : Int) = ((23 : Nat) : Int) from rfl, itoa_nat, decD_big _ (by omega), decD_small _ (by omega)]; rfl
theorem dec_59 : twoB 59 = ⟨#[53, 57]⟩ := by
  unfold twoB twoL
  rw [show (59 : Int) = ((59 : Nat) : Int) from rfl, itoa_nat, decD_big _ (by omega), decD_small _ (by omega)]; rfl
theorem text_86399 : textB 86399 = ⟨#[49, 57, 55, 48, 45, 48, 49, 45, 48, 49, 32, 50, 51, 58, 53, 57, 58, 53, 57]⟩ := by
  unfold textB
  rw [if_pos (by omega)]
  have hc : civC (86399 / 86400) = ⟨1970, 1, 1⟩ := by decide +kernel
  rw [hc]
  show twoB 1970 ++ s1 45 ++ twoB 1 ++ s1 45 ++ twoB 1 ++ s1 32 ++ twoB 23 ++ s1 58 ++ twoB 59 ++ s1 58 ++ twoB 59 = _
  rw [dec1970, dec_1, dec_23, dec_59]
  decide +kernel
theorem civ_0 : civC 0 = ⟨1970, 1, 1⟩ := by decide +kernel
theorem civ_19782 : civC 19782 = ⟨2024, 2, 29⟩ := by decide +kernel
set_option maxRecDepth 20000 in
set_option maxHeartbeats 1000000 in
theorem retAwake_any (w : World) (ht : Tab w) : Calls Tryd.prog 7 #[] w fun e w' => e = .returned (.bool true) ∧ Below w.heap.size w w' := by
  have HA := Lib.hid (civil_any 0 w); rw [civ_0] at HA
  have HB := fun w => Lib.hid (civil_any 19782 w); rw [civ_19782] at HB
  have HC := fun w h => Lib.hid (text_any 86399 w h); rw [text_86399] at HC
  have q1 := fun w => Lib.hid (date_eql ⟨1970, 1, 1⟩ ⟨1970, 1, 1⟩ w)
  have q2 := fun w => Lib.hid (date_eql ⟨2024, 2, 29⟩ ⟨2024, 2, 29⟩ w)
  have g1 := fun w x y => Lib.hid (date_guard .eql x y ⟨1970, 1, 1⟩ ⟨1970, 1, 1⟩ w)
  have g2 := fun w x y => Lib.hid (date_guard .eql x y ⟨2024, 2, 29⟩ ⟨2024, 2, 29⟩ w)
  simp only [decide_true] at q1 q2
  unfold dtV at q1 q2 g1 g2 HA HB
  simp only at q1 q2 g1 g2 HA HB
  have HT := Lib.hid ht; clear ht
  go_enter Tryd.func7, Tryd.ntmps7
  go_wp2_with fail
  refine HA.out.mono ?_
  rintro e w1 ⟨rfl, b1⟩
  have HW := Lib.hid b1; clear b1
  go_wp2_with (first | (rw [(g1 _ _ _).out]) | (rw [(q1 _).out]))
  refine (HB _).out.mono ?_
  rintro e w2 ⟨rfl, b2⟩
  replace HW := Lib.hid (HW.out.trans (b2.mono HW.out.size)); clear b2
  go_wp2_with (first | (rw [(g2 _ _ _).out]) | (rw [(q2 _).out]))
  refine (HC _ (HT.out.below HW.out (Nat.le_refl _))).out.mono ?_
  rintro e w3 ⟨rfl, b3⟩
  replace HW := Lib.hid (HW.out.trans (b3.mono HW.out.size)); clear b3
  go_wp2
  go_ret
  exact ⟨rfl, HW.out⟩
end Go.Proofs.YtlikmdmdmljiaaaDoor
