/- chapter 46's examples: they are true. -/
import Derived.Test.YtffnkgfpbjmkbaaLea9
namespace Go.Proofs.Ytffnkgfpbjmkbaa
open Go.RowKit
set_option linter.unusedVariables false
set_option linter.unusedSimpArgs false
theorem zero_nil : Zero (.slice none 0 0) := ⟨none, 0, rfl, Nat.zero_le _, fun _ => rfl⟩
set_option maxRecDepth 20000 in
set_option maxHeartbeats 3000000 in
theorem leaAwake_any (w : World) : Calls Try.prog 6 #[] w fun e w' => e = .returned (.bool true) ∧ Below w.heap.size w w' := by
  have H1 := Lib.hid (fun w => ask_zero 0 (.slice none 0 0) 1 false 5 w zero_nil (by decide) (by decide) (by decide))
  have H2 := Lib.hid (fun (v : Value) w (h : One w v ⟨1, false, 0 + 5⟩) => ask_busy 0 v ⟨1, false, 0 + 5⟩ 2 false 5 w h rfl (by decide) (by decide))
  have H3 := Lib.hid (fun (v : Value) w (h : One w v ⟨1, false, 0 + 5⟩) => pass_drop 0 v ⟨1, false, 0 + 5⟩ 5 w h (by decide) (by decide) (by decide) (by decide))
  have H4 := Lib.hid (fun (v : Value) w (h : Zero v) => ask_zero 5 v 2 false 5 w h (by decide) (by decide) (by decide))
  have H5 := Lib.hid (fun (v : Value) w (h : One w v ⟨2, false, 5 + 5⟩) => holds_one 5 v ⟨2, false, 5 + 5⟩ 2 w h rfl)
  unfold Lc at H1 H2 H3 H4 H5
  go_enter Try.func6, Try.ntmps6
  go_wp2_with fail
  refine (H1.out _).mono ?_
  rintro e w1 ⟨v1, rfl, o1, b1⟩
  have HO1 := Lib.hid o1
  have HB1 := Lib.hid b1
  obtain ⟨g1, c1, hv, _, _, _, _, _, _⟩ := o1
  subst hv
  clear b1 H1
  go_wp2_with fail
  obtain ⟨w2, hw2⟩ : ∃ w2, w2 = w1.alloc (.cells #[.int .i64 0, .slice (some ⟨g1, 0, none⟩) 1 c1] 27) := ⟨_, rfl⟩
  obtain ⟨B, hB⟩ : ∃ B, B = w1.heap.size := ⟨_, rfl⟩
  obtain ⟨L0, L1, LF⟩ := cells2 (w := w2) (b := B) (x := .int .i64 0) (y := .slice (some ⟨g1, 0, none⟩) 1 c1) (t := 27) (by rw [hw2, hB]; exact heap_alloc_new _ _)
  have HB2 : Hid (Below w.heap.size w w2) := by unfold Hid; rw [hw2]; exact HB1.out.alloc HB1.out.size _
  have HO2 : Hid (One w2 (.slice (some ⟨g1, 0, none⟩) 1 c1) ⟨1, false, 0 + 5⟩) := by unfold Hid; rw [hw2]; exact HO1.out.below ((Below.refl _ _).alloc (Nat.le_refl _) _) (Nat.le_refl _)
  have HBW : Hid (w.heap.size ≤ B) := by unfold Hid; rw [hB]; exact HB1.out.size
  have hBs : B < w2.heap.size := by rw [hw2, hB]; simp
  rw [← hw2, ← hB]
  clear hw2 hB HB1 HO1
  refine (H2.out _ _ HO2.out).mono ?_
  rintro e w3 ⟨rfl, b3⟩
  have L0' := (b3.cell (p := ⟨B, 0, none⟩) hBs).trans L0
  have L1' := (b3.cell (p := ⟨B, 1, none⟩) hBs).trans L1
  have LF0 := (b3.frozen (p := ⟨B, 0, none⟩) hBs).trans (LF 0)
  have LF1 := (b3.frozen (p := ⟨B, 1, none⟩) hBs).trans (LF 1)
  have HO3 := Lib.hid (HO2.out.below b3 (Nat.le_refl _))
  have HB3 := Lib.hid (HB2.out.trans (b3.mono HB2.out.size))
  have hBs3 : B < w3.heap.size := Nat.lt_of_lt_of_le hBs b3.size
  clear b3 L0 L1 LF HO2 HB2 hBs H2
  go_wp2_with fail
  have hba : Below w3.heap.size w3 (w3.alloc (.cells #[.int .i64 0, .slice (some ⟨g1, 0, none⟩) 1 c1] 27)) := (Below.refl _ _).alloc (Nat.le_refl _) _
  refine (H3.out _ _ (HO3.out.below hba (Nat.le_refl _))).mono ?_
  rintro e w4 ⟨v4, u4, rfl, z4, n4, b4⟩
  have hb34 : Below w3.heap.size w3 w4 := hba.trans (b4.mono (by simp))
  have M0 := (hb34.cell (p := ⟨B, 0, none⟩) hBs3).trans L0'
  have M1 := (hb34.cell (p := ⟨B, 1, none⟩) hBs3).trans L1'
  have MF0 := (hb34.frozen (p := ⟨B, 0, none⟩) hBs3).trans LF0
  have MF1 := (hb34.frozen (p := ⟨B, 1, none⟩) hBs3).trans LF1
  have HZ4 := Lib.hid z4
  obtain ⟨A4, c4, hv4, _, _⟩ := z4
  subst hv4
  obtain ⟨gu, cu, hu4, _, _, _, _⟩ := n4
  subst hu4
  have HB4 := Lib.hid (HB3.out.trans (hb34.mono HB3.out.size))
  have hBs4 : B < w4.heap.size := Nat.lt_of_lt_of_le hBs3 hb34.size
  clear b4 hb34 hba L0' L1' LF0 LF1 HO3 HB3 hBs3 H3
  go_wp2_with fail
  obtain ⟨w5, hw5⟩ : ∃ w5, w5 = (w4.setCell ⟨B, 0, none⟩ (.int .i64 5)).setCell ⟨B, 1, none⟩ (.slice A4 0 c4) := ⟨_, rfl⟩
  have N0 : w5.cell? ⟨B, 0, none⟩ = some (.int .i64 5) := by
    rw [hw5, World.cell?_setCell_other _ _ _ _ (by intro e; injection e with _ e; cases e)]; exact World.cell?_setCell_same _ _ _ M0
  have N1 : w5.cell? ⟨B, 1, none⟩ = some (.slice A4 0 c4) := by
    rw [hw5]; exact World.cell?_setCell_same _ _ _ ((World.cell?_setCell_other _ _ _ _ (by intro e; injection e with _ e; cases e)).trans M1)
  have NF0 : w5.frozen? ⟨B, 0, none⟩ = false := by rw [hw5, World.frozen?_setCell, World.frozen?_setCell]; exact MF0
  have NF1 : w5.frozen? ⟨B, 1, none⟩ = false := by rw [hw5, World.frozen?_setCell, World.frozen?_setCell]; exact MF1
  have HB5 : Hid (Below w.heap.size w w5) := by unfold Hid; rw [hw5]; exact (HB4.out.setCell (p := ⟨B, 0, none⟩) HBW.out _).setCell (p := ⟨B, 1, none⟩) HBW.out _
  have hBs5 : B < w5.heap.size := by rw [hw5, World.size_setCell, World.size_setCell]; exact hBs4
  rw [← hw5]
  clear hw5 M0 M1 MF0 MF1 HB4 hBs4
  refine (H4.out _ _ HZ4.out).mono ?_
  rintro e w6 ⟨v6, rfl, o6, b6⟩
  have N0' := (b6.cell (p := ⟨B, 0, none⟩) hBs5).trans N0
  have N1' := (b6.cell (p := ⟨B, 1, none⟩) hBs5).trans N1
  have NF0' := (b6.frozen (p := ⟨B, 0, none⟩) hBs5).trans NF0
  have NF1' := (b6.frozen (p := ⟨B, 1, none⟩) hBs5).trans NF1
  have HB6 := Lib.hid (HB5.out.trans (b6.mono HB5.out.size))
  have HO6 := Lib.hid o6
  obtain ⟨g6, c6, hv6, m1, m2, m3, m4, m5, m6⟩ := o6
  subst hv6
  have hg6 : B ≠ g6 := fun e => by rw [← e, N0'] at m4; cases m4
  clear b6 N0 N1 NF0 NF1 HB5 hBs5 H4 m1 m2 m3 m4 m5 m6
  go_wp2_with fail
  refine (H5.out _ _ ((HO6.out.set_other _ _ hg6).set_other _ _ hg6)).mono ?_
  rintro e w7 ⟨rfl, b7⟩
  have HB7 : Hid (Below w.heap.size w w7) := ((HB6.out.setCell (p := ⟨B, 0, none⟩) HBW.out _).setCell (p := ⟨B, 1, none⟩) HBW.out _).trans (b7.mono (by rw [World.size_setCell, World.size_setCell]; exact HB6.out.size))
  clear b7
  go_wp2_with fail
  go_ret
  exact ⟨rfl, HB7.out⟩
end Go.Proofs.Ytffnkgfpbjmkbaa
