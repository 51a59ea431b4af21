/- LeaseEnds: for all owners, all numbers, renewed or not, the call returns true. Conditions: none. -/
import Derived.Test.YtffnkgfpbjmkbaaLea10
namespace Go.Proofs.Ytffnkgfpbjmkbaa
open Go.RowKit
set_option linter.unusedVariables false
set_option linter.unusedSimpArgs false
set_option maxRecDepth 20000 in
set_option maxHeartbeats 4000000 in
theorem ends_false (w : World) (a b : UInt64) (n early : Nat) (hea : early < 65536) (hab : a ≠ b) :
    Calls Try.prog 3 #[.int .u64 a.toNat, .int .u64 b.toNat, .int .u16 n, .int .u16 early, .bool false] w fun e w' => e = .returned (.bool true) ∧ Below w.heap.size w w' := by
  obtain ⟨t, hte, ht1, ht2⟩ : ∃ t : Int, (n : Int) % 1000 + 1 = t ∧ 0 < t ∧ t ≤ 1000 := ⟨_, rfl, by omega, by omega⟩
  obtain ⟨d, hd, hd0, hd1⟩ : ∃ d : Int, (early : Int) % t = d ∧ 0 ≤ d ∧ d < t := ⟨_, rfl, Int.emod_nonneg _ (by omega), Int.emod_lt_of_pos _ ht1⟩
  have ht0 : ¬ t = 0 := by omega
  have hne : ((a.toNat : Int) == (b.toNat : Int)) = false := by
    rw [beq_eq_false_iff_ne]; intro e; exact hab (UInt64.toNat_inj.1 (by omega))
  have H1 := Lib.hid (fun w => ask_zero 0 (.slice none 0 0) a false t w zero_nil (by omega) (by omega) ⟨ht1, ht2⟩)
  rw [Int.zero_add] at H1
  have H2 := Lib.hid (fun (v : Value) w (h : One w v ⟨a, false, t⟩) => ask_busy 0 v ⟨a, false, t⟩ b true 5 w h rfl hab (by decide))
  have H3 := Lib.hid (fun (v : Value) w (h : One w v ⟨a, false, t⟩) => pass_keep 0 v ⟨a, false, t⟩ d w h (by omega) (by omega) (by omega) (by dsimp only; omega))
  rw [Int.zero_add] at H3
  unfold Lc at H1 H2 H3
  go_enter Try.func3, Try.ntmps3
  go_wp2_with fail
  refine (H1.out _).mono ?_
  rintro e w1 ⟨v1, rfl, o1, b1⟩
  have HO1 := Lib.hid o1
  have HB1 := Lib.hid b1
  obtain ⟨g1, c1, hv, _, _, _, _, _, _⟩ := o1
  subst hv
  clear b1 H1 hte
  go_wp2_with fail
  obtain ⟨w2, hw2⟩ : ∃ w2, w2 = w1.alloc (.cells #[.int .i64 0, .slice (some ⟨g1, 0, none⟩) 1 c1] 27) := ⟨_, rfl⟩
  obtain ⟨B, hB⟩ : ∃ B, B = w1.heap.size := ⟨_, rfl⟩
  obtain ⟨L0, L1, LF⟩ := cells2 (w := w2) (b := B) (x := .int .i64 0) (y := .slice (some ⟨g1, 0, none⟩) 1 c1) (t := 27) (by rw [hw2, hB]; exact heap_alloc_new _ _)
  have HB2 : Hid (Below w.heap.size w w2) := by unfold Hid; rw [hw2]; exact HB1.out.alloc HB1.out.size _
  have HO2 : Hid (One w2 (.slice (some ⟨g1, 0, none⟩) 1 c1) ⟨a, false, t⟩) := by unfold Hid; rw [hw2]; exact HO1.out.below ((Below.refl _ _).alloc (Nat.le_refl _) _) (Nat.le_refl _)
  have hBs : B < w2.heap.size := by rw [hw2, hB]; simp
  rw [← hw2, ← hB]
  clear hw2 hB HB1 HO1
  refine (H2.out _ _ HO2.out).mono ?_
  rintro e w3 ⟨rfl, b3⟩
  have L0' := (b3.cell (p := ⟨B, 0, none⟩) hBs).trans L0
  have L1' := (b3.cell (p := ⟨B, 1, none⟩) hBs).trans L1
  have HO3 := Lib.hid (HO2.out.below b3 (Nat.le_refl _))
  have HB3 := Lib.hid (HB2.out.trans (b3.mono HB2.out.size))
  have hBs3 : B < w3.heap.size := Nat.lt_of_lt_of_le hBs b3.size
  clear b3 L0 L1 LF HO2 HB2 hBs H2
  go_wp2_with fail
  obtain ⟨wx, hwx⟩ : ∃ wx, wx = (w3.alloc (.cells #[.int .i64 0, .slice (some ⟨g1, 0, none⟩) 1 c1] 27)).drew := ⟨_, rfl⟩
  have hbx : Below w3.heap.size w3 wx := by rw [hwx]; exact ((Below.refl _ _).alloc (Nat.le_refl _) _).drew
  have X0 := (hbx.cell (p := ⟨B, 0, none⟩) hBs3).trans L0'
  have X1 := (hbx.cell (p := ⟨B, 1, none⟩) hBs3).trans L1'
  have HOx := Lib.hid (HO3.out.below hbx (Nat.le_refl _))
  have HBx := Lib.hid (HB3.out.trans (hbx.mono HB3.out.size))
  have hBx : B < wx.heap.size := Nat.lt_of_lt_of_le hBs3 hbx.size
  refine wp_region_noPanic ?_
  refine wp_region_held_drew (S := fun w' => w'.cell? ⟨B, 0, none⟩ = some (.int .i64 0) ∧ w'.cell? ⟨B, 1, none⟩ = some (.slice (some ⟨g1, 0, none⟩) 1 c1)) (by kernel_rfl) (by rw [← hwx]; exact ⟨X0, X1⟩) (fun hHeld => ?_)
  rw [← hwx] at hHeld ⊢
  clear hwx hbx L0' L1' HO3 HB3 hBs3
  refine wpAnyH_take (i := 0) (v := .agg #[.int .i64 0, .slice (some ⟨g1, 0, none⟩) 1 c1]) rfl (by kernel_rfl) (by kernel_rfl) (by kernel_rfl) (fun _ _ _ h => h) (Or.inl ⟨by kernel_rfl, ?_⟩) hHeld ?_
  · intro w hSw
    have hh := hSw.1
    have hg := hSw.2
    go_simp
  try simp only [Act.put, List.setIfInBounds_toArray, List.set_cons_zero, List.set_cons_succ]
  refine' wpAnyH_take (i := 1) (v := ?v1) rfl (by kernel_rfl) (by kernel_rfl) (by kernel_rfl) (fun _ _ _ h => h) (Or.inl ⟨by kernel_rfl, ?hy1⟩) (by assumption) ?rest1
  case hy1 => (intro w hSw; (try dsimp only at hSw); go_simp; try with_reducible rfl)
  try simp only [Act.put, List.setIfInBounds_toArray, List.set_cons_zero, List.set_cons_succ]
  refine wpAnyH_take (i := 2) (v := .int .i64 early) rfl (by kernel_rfl) (by kernel_rfl) (by kernel_rfl) (fun _ _ _ h => h) (Or.inl ⟨by kernel_rfl, ?_⟩) hHeld ?_
  · intro w hSw
    go_simp
    first | done | ((try rw [Int.tdiv_eq_ediv_of_nonneg (by omega)]); (try rw [Int.tmod_eq_emod_of_nonneg (by omega)]); (try rw [IntKind.wrap_i64]); (try omega))
  try simp only [Act.put, List.setIfInBounds_toArray, List.set_cons_zero, List.set_cons_succ]
  refine' wpAnyH_take (i := 3) (v := ?v2) rfl (by kernel_rfl) (by kernel_rfl) (by kernel_rfl) (fun _ _ _ h => h) (Or.inl ⟨by kernel_rfl, ?hy2⟩) (by assumption) ?rest2
  case hy2 => (intro w hSw; (try dsimp only at hSw); go_simp; try with_reducible rfl)
  try simp only [Act.put, List.setIfInBounds_toArray, List.set_cons_zero, List.set_cons_succ]
  refine wpAnyH_take (i := 4) (v := .int .i64 d) rfl (by kernel_rfl) (by kernel_rfl) (by kernel_rfl) (fun _ _ _ h => h) (Or.inl ⟨by kernel_rfl, ?_⟩) hHeld ?_
  · intro w hSw
    go_simp
    first | done | ((try rw [Int.tdiv_eq_ediv_of_nonneg (by omega)]); (try rw [Int.tmod_eq_emod_of_nonneg (by omega)]); (try rw [IntKind.wrap_i64]); (try omega))
  try simp only [Act.put, List.setIfInBounds_toArray, List.set_cons_zero, List.set_cons_succ]
  refine wpAnyH_ready (rs := [5, 9]) (by kernel_rfl) (by simp) (AllReadyH.cons rfl (fun K hK => ?_) (AllReadyH.cons rfl (fun K hK => ?_) AllReadyH.nil))
  · go_simp
    go_at_call 8
    refine (H3.out _ _ HOx.out).mono ?_
    rintro er w4 ⟨v4, rfl, o4, b4⟩
    have Y0 := (b4.cell (p := ⟨B, 0, none⟩) hBx).trans X0
    have Y1 := (b4.cell (p := ⟨B, 1, none⟩) hBx).trans X1
    have HB4 := Lib.hid (HBx.out.trans (b4.mono HBx.out.size))
    have HO4 := Lib.hid o4
    obtain ⟨g3, c3, hv4, _, _, hg3, _, _, _⟩ := o4
    have hBx4 : B < w4.heap.size := Nat.lt_of_lt_of_le hBx b4.size
    subst hv4
    clear b4 X0 X1 HOx HBx hBx
    go_wp2_with fail
    refine hK.out _ _ ⟨Y0, Y1⟩ (fun hHeld => ?_)
    clear hK K
    try simp only [Act.put, List.setIfInBounds_toArray, List.set_cons_zero, List.set_cons_succ]
    refine' wpAnyH_take (i := 6) (v := ?v3) rfl (by kernel_rfl) (by kernel_rfl) (by kernel_rfl) (fun _ _ _ h => h) (Or.inl ⟨by kernel_rfl, ?hy3⟩) (by assumption) ?rest3
    case hy3 => (intro w hSw; (try dsimp only at hSw); go_simp; try with_reducible rfl)
    try simp only [Act.put, List.setIfInBounds_toArray, List.set_cons_zero, List.set_cons_succ]
    refine' wpAnyH_take (i := 7) (v := ?v4) rfl (by kernel_rfl) (by kernel_rfl) (by kernel_rfl) (fun _ _ _ h => h) (Or.inl ⟨by kernel_rfl, ?hy4⟩) (by assumption) ?rest4
    case hy4 => (intro w hSw; (try dsimp only at hSw); go_simp; try with_reducible rfl)
    try simp only [Act.put, List.setIfInBounds_toArray, List.set_cons_zero, List.set_cons_succ]
    refine' wpAnyH_take (i := 8) (v := ?v5) rfl (by kernel_rfl) (by kernel_rfl) (by kernel_rfl) (fun _ _ _ h => h) (Or.inl ⟨by kernel_rfl, ?hy5⟩) (by assumption) ?rest5
    case hy5 => (intro w hSw; (try dsimp only at hSw); go_simp; try with_reducible rfl)
    try simp only [Act.put, List.setIfInBounds_toArray, List.set_cons_zero, List.set_cons_succ]
    refine wpAnyH_ready (rs := [9]) (by kernel_rfl) (by simp) ?_
    refine AllReadyH.cons rfl (fun K hK => ?_) AllReadyH.nil
    go_simp
    have hb5 : Below w4.heap.size w4 (w4.alloc (.cells #[.int .i64 0, .slice none 0 0] 27)) := (Below.refl _ _).alloc (Nat.le_refl _) _
    obtain ⟨w5, hw5⟩ : ∃ w5, w5 = w4.alloc (.cells #[.int .i64 0, .slice none 0 0] 27) := ⟨_, rfl⟩
    obtain ⟨Bm, hBmE⟩ : ∃ Bm, Bm = w4.heap.size := ⟨_, rfl⟩
    have q5 : w5.heap[Bm]? = some (.cells #[.int .i64 0, .slice none 0 0] 27) := by rw [hw5, hBmE]; exact heap_alloc_new _ _
    have hBm4 : w4.heap.size ≤ Bm := by omega
    have hBm5 : Bm < w5.heap.size := by rw [hw5, hBmE]; simp
    rw [← hw5] at hb5
    rw [← hw5, ← hBmE]
    clear hw5 hBmE
    have hOB : B ≠ Bm := by omega
    have HO5 := Lib.hid (HO4.out.below hb5 (Nat.le_refl _))
    have HB5 := Lib.hid (HB4.out.trans (hb5.mono HB4.out.size))
    have hgm : Bm ≠ g3 := by omega
    have Z0 := (hb5.cell (p := ⟨B, 0, none⟩) hBx4).trans Y0
    have Z1 := (hb5.cell (p := ⟨B, 1, none⟩) hBx4).trans Y1
    have HWm : Hid (w.heap.size ≤ Bm) := Nat.le_trans HB4.out.size hBm4
    clear hb5 Y0 Y1 HB4 HO4 hBx4 hBm4
    refine hK.out _ _ ⟨Z0, Z1⟩ (fun hHeld => ?_)
    clear hK K
    try simp only [Act.put, List.setIfInBounds_toArray, List.set_cons_zero, List.set_cons_succ]
    obtain ⟨q50, q51, q5F⟩ := cells2 q5
    refine wpAnyH_ready (rs := [10]) (by kernel_rfl) (by simp) ?_
    refine AllReadyH.cons rfl (fun K hK => ?_) AllReadyH.nil
    have q5F0 := q5F 0
    have q5F1 := q5F 1
    go_simp
    obtain ⟨wf, hwf⟩ : ∃ wf, wf = (w5.setCell ⟨Bm, 0, none⟩ (.int .i64 d)).setCell ⟨Bm, 1, none⟩ (.slice (some ⟨g3, 0, none⟩) 1 c3) := ⟨_, rfl⟩
    have M0 : wf.cell? ⟨Bm, 0, none⟩ = some (.int .i64 d) := by
      rw [hwf, World.cell?_setCell_other _ _ _ _ (by intro e; injection e with _ e; cases e)]; exact World.cell?_setCell_same _ _ _ q50
    have M1 : wf.cell? ⟨Bm, 1, none⟩ = some (.slice (some ⟨g3, 0, none⟩) 1 c3) := by
      rw [hwf]; exact World.cell?_setCell_same _ _ _ ((World.cell?_setCell_other _ _ _ _ (by intro e; injection e with _ e; cases e)).trans q51)
    have MF0 : wf.frozen? ⟨Bm, 0, none⟩ = false := by rw [hwf, World.frozen?_setCell, World.frozen?_setCell]; exact q5F0
    have MF1 : wf.frozen? ⟨Bm, 1, none⟩ = false := by rw [hwf, World.frozen?_setCell, World.frozen?_setCell]; exact q5F1
    have HBf : Hid (Below w.heap.size w wf) := by unfold Hid; rw [hwf]; exact (HB5.out.setCell (p := ⟨Bm, 0, none⟩) HWm.out _).setCell (p := ⟨Bm, 1, none⟩) HWm.out _
    have hBm : Bm < wf.heap.size := by rw [hwf, World.size_setCell, World.size_setCell]; exact hBm5
    have HOf : Hid (One wf (.slice (some ⟨g3, 0, none⟩) 1 c3) ⟨a, false, t⟩) := by unfold Hid; rw [hwf]; exact (HO5.out.set_other _ _ hgm).set_other _ _ hgm
    have Zf0 : wf.cell? ⟨B, 0, none⟩ = some (.int .i64 0) := by rw [hwf]; exact (World.cell?_setCell_other _ _ _ _ (by intro e; injection e with e _; exact hOB e.symm)).trans ((World.cell?_setCell_other _ _ _ _ (by intro e; injection e with e _; exact hOB e.symm)).trans Z0)
    have Zf1 : wf.cell? ⟨B, 1, none⟩ = some (.slice (some ⟨g1, 0, none⟩) 1 c1) := by rw [hwf]; exact (World.cell?_setCell_other _ _ _ _ (by intro e; injection e with e _; exact hOB e.symm)).trans ((World.cell?_setCell_other _ _ _ _ (by intro e; injection e with e _; exact hOB e.symm)).trans Z1)
    rw [← hwf]
    clear hwf q5 q50 q51 q5F q5F0 q5F1 Z0 Z1 HB5 HO5 hBm5 hgm
    refine hK.out _ _ ⟨Zf0, Zf1⟩ (fun hHeld => ?_)
    clear hK K
    try simp only [Act.put, List.setIfInBounds_toArray, List.set_cons_zero, List.set_cons_succ]
    refine' wpAnyH_take (i := 11) (v := ?v6) rfl (by kernel_rfl) (by kernel_rfl) (by kernel_rfl) (fun _ _ _ h => h) (Or.inl ⟨by kernel_rfl, ?hy6⟩) (by assumption) ?rest6
    case hy6 => (intro w hSw; (try dsimp only at hSw); go_simp; try with_reducible rfl)
    try simp only [Act.put, List.setIfInBounds_toArray, List.set_cons_zero, List.set_cons_succ]
    refine wpAnyH_done (by kernel_rfl) ?_ _
    refine NoPanic.normal ?_
    clear Zf0 Zf1 hHeld hOB H3
    have HHO := Lib.hid (holds_one d (.slice (some ⟨g3, 0, none⟩) 1 c3) ⟨a, false, t⟩ a wf HOf.out rfl)
    unfold Lc at HHO
    go_wp2_with fail
    refine HHO.out.mono ?_
    rintro e wm ⟨rfl, bm⟩
    replace M0 := (bm.cell (p := ⟨Bm, 0, none⟩) hBm).trans M0
    replace M1 := (bm.cell (p := ⟨Bm, 1, none⟩) hBm).trans M1
    replace MF0 := (bm.frozen (p := ⟨Bm, 0, none⟩) hBm).trans MF0
    replace MF1 := (bm.frozen (p := ⟨Bm, 1, none⟩) hBm).trans MF1
    have HOm := Lib.hid (HOf.out.below bm (Nat.le_refl _))
    replace HBf := Lib.hid (HBf.out.trans (bm.mono HBf.out.size))
    replace hBm := Nat.lt_of_lt_of_le hBm bm.size
    clear bm HHO HOf
    go_wp2_with fail
    have HPD := Lib.hid (pass_drop d (.slice (some ⟨g3, 0, none⟩) 1 c3) ⟨a, false, t⟩ (t - d) wm.drew HOm.out (by omega) (by omega) (by omega) (by dsimp only; omega))
    rw [show d + (t - d) = t by omega] at HPD
    unfold Lc at HPD
    refine wp_region_noPanic ?_
    refine wp_region_held_drew (S := fun _ => True) (by kernel_rfl) trivial (fun hHeld => ?_)
    obtain ⟨wd, hwd⟩ : ∃ wd, wd = wm.drew := ⟨_, rfl⟩
    have MD0 : wd.cell? ⟨Bm, 0, none⟩ = some (.int .i64 d) := by rw [hwd]; exact M0
    have MD1 : wd.cell? ⟨Bm, 1, none⟩ = some (.slice (some ⟨g3, 0, none⟩) 1 c3) := by rw [hwd]; exact M1
    rw [← hwd] at HPD ⊢
    have HWD := Lib.hid hwd
    clear hwd
    refine' wpAnyH_take (i := 1) (v := ?v7) rfl (by kernel_rfl) (by kernel_rfl) (by kernel_rfl) (fun _ _ _ h => h) (Or.inl ⟨by kernel_rfl, ?hy7⟩) (by assumption) ?rest7
    case hy7 => (intro w hSw; (try dsimp only at hSw); go_simp; try with_reducible rfl)
    try simp only [Act.put, List.setIfInBounds_toArray, List.set_cons_zero, List.set_cons_succ]
    refine' wpAnyH_take (i := 2) (v := ?v8) rfl (by kernel_rfl) (by kernel_rfl) (by kernel_rfl) (fun _ _ _ h => h) (Or.inl ⟨by kernel_rfl, ?hy8⟩) (by assumption) ?rest8
    case hy8 => (intro w hSw; (try dsimp only at hSw); go_simp; try with_reducible rfl)
    try simp only [Act.put, List.setIfInBounds_toArray, List.set_cons_zero, List.set_cons_succ]
    refine wpAnyH_take (i := 3) (v := .int .i64 early) rfl (by kernel_rfl) (by kernel_rfl) (by kernel_rfl) (fun _ _ _ h => h) (Or.inl ⟨by kernel_rfl, ?_⟩) hHeld ?_
    · intro w hSw
      go_simp
      first | done | ((try rw [Int.tdiv_eq_ediv_of_nonneg (by omega)]); (try rw [Int.tmod_eq_emod_of_nonneg (by omega)]); (try rw [IntKind.wrap_i64]); (try omega))
    try simp only [Act.put, List.setIfInBounds_toArray, List.set_cons_zero, List.set_cons_succ]
    refine' wpAnyH_take (i := 4) (v := ?v9) rfl (by kernel_rfl) (by kernel_rfl) (by kernel_rfl) (fun _ _ _ h => h) (Or.inl ⟨by kernel_rfl, ?hy9⟩) (by assumption) ?rest9
    case hy9 => (intro w hSw; (try dsimp only at hSw); go_simp; try with_reducible rfl)
    try simp only [Act.put, List.setIfInBounds_toArray, List.set_cons_zero, List.set_cons_succ]
    refine wpAnyH_take (i := 5) (v := .int .i64 d) rfl (by kernel_rfl) (by kernel_rfl) (by kernel_rfl) (fun _ _ _ h => h) (Or.inl ⟨by kernel_rfl, ?_⟩) hHeld ?_
    · intro w hSw
      go_simp
      first | done | ((try rw [Int.tdiv_eq_ediv_of_nonneg (by omega)]); (try rw [Int.tmod_eq_emod_of_nonneg (by omega)]); (try rw [IntKind.wrap_i64]); (try omega))
    try simp only [Act.put, List.setIfInBounds_toArray, List.set_cons_zero, List.set_cons_succ]
    refine wpAnyH_take (i := 6) (v := .int .i64 (t - d)) rfl (by kernel_rfl) (by kernel_rfl) (by kernel_rfl) (fun _ _ _ h => h) (Or.inl ⟨by kernel_rfl, ?_⟩) hHeld ?_
    · intro w hSw
      go_simp
      first | done | ((try rw [Int.tdiv_eq_ediv_of_nonneg (by omega)]); (try rw [Int.tmod_eq_emod_of_nonneg (by omega)]); (try rw [IntKind.wrap_i64]); (try omega))
    try simp only [Act.put, List.setIfInBounds_toArray, List.set_cons_zero, List.set_cons_succ]
    refine wpAnyH_ready (rs := [0]) (by kernel_rfl) (by simp) ?_
    refine AllReadyH.cons rfl (fun K hK => ?_) AllReadyH.nil
    go_simp
    refine hK.out _ _ trivial (fun hHeld => ?_)
    clear hK K
    try simp only [Act.put, List.setIfInBounds_toArray, List.set_cons_zero, List.set_cons_succ]
    refine wpAnyH_ready (rs := [7]) (by kernel_rfl) (by simp) ?_
    refine AllReadyH.cons rfl (fun K hK => ?_) AllReadyH.nil
    go_simp
    go_at_call 8
    refine HPD.out.mono ?_
    rintro er wn ⟨vn, un, rfl, zn, nn, bn⟩
    rw [HWD.out] at bn
    have hBmd : Bm < wm.drew.heap.size := hBm
    have N0 := (bn.cell (p := ⟨Bm, 0, none⟩) hBmd).trans M0
    have N1 := (bn.cell (p := ⟨Bm, 1, none⟩) hBmd).trans M1
    have NF0 := (bn.frozen (p := ⟨Bm, 0, none⟩) hBmd).trans MF0
    have NF1 := (bn.frozen (p := ⟨Bm, 1, none⟩) hBmd).trans MF1
    have HBn : Hid (Below w.heap.size w wn) := HBf.out.drew.trans (bn.mono HBf.out.drew.size)
    have hBn : Bm < wn.heap.size := Nat.lt_of_lt_of_le hBmd bn.size
    have HZn := Lib.hid zn
    obtain ⟨An, cn, hvn, _, _⟩ := zn
    subst hvn
    have HNn := Lib.hid nn
    obtain ⟨gu, cu, hun, _, hcu, _, hn0⟩ := nn
    subst hun
    have hgu : Bm ≠ gu := fun e => by rw [← e, N0] at hn0; cases hn0
    have hcu9 : cu ≤ 9223372036854775807 := by unfold maxLen at hcu; omega
    clear HWD MD0 MD1 bn M0 M1 MF0 MF1 HBf hBm hBmd HPD HOm hn0 hcu
    go_wp2_with fail
    refine hK.out _ _ trivial (fun hHeld => ?_)
    clear hK K
    try simp only [Act.put, List.setIfInBounds_toArray, List.set_cons_zero, List.set_cons_succ]
    refine' wpAnyH_take (i := 8) (v := ?v10) rfl (by kernel_rfl) (by kernel_rfl) (by kernel_rfl) (fun _ _ _ h => h) (Or.inl ⟨by kernel_rfl, ?hy10⟩) (by assumption) ?rest10
    case hy10 => (intro w hSw; (try dsimp only at hSw); go_simp; try with_reducible rfl)
    try simp only [Act.put, List.setIfInBounds_toArray, List.set_cons_zero, List.set_cons_succ]
    refine' wpAnyH_take (i := 9) (v := ?v11) rfl (by kernel_rfl) (by kernel_rfl) (by kernel_rfl) (fun _ _ _ h => h) (Or.inl ⟨by kernel_rfl, ?hy11⟩) (by assumption) ?rest11
    case hy11 => (intro w hSw; (try dsimp only at hSw); go_simp; try with_reducible rfl)
    try simp only [Act.put, List.setIfInBounds_toArray, List.set_cons_zero, List.set_cons_succ]
    refine' wpAnyH_take (i := 10) (v := ?v12) rfl (by kernel_rfl) (by kernel_rfl) (by kernel_rfl) (fun _ _ _ h => h) (Or.inl ⟨by kernel_rfl, ?hy12⟩) (by assumption) ?rest12
    case hy12 => (intro w hSw; (try dsimp only at hSw); go_simp; try with_reducible rfl)
    try simp only [Act.put, List.setIfInBounds_toArray, List.set_cons_zero, List.set_cons_succ]
    refine wpAnyH_ready (rs := [11]) (by kernel_rfl) (by simp) ?_
    refine AllReadyH.cons rfl (fun K hK => ?_) AllReadyH.nil
    go_simp
    obtain ⟨wo, hwo⟩ : ∃ wo, wo = (wn.setCell ⟨Bm, 0, none⟩ (.int .i64 t)).setCell ⟨Bm, 1, none⟩ (.slice An 0 cn) := ⟨_, rfl⟩
    have O0 : wo.cell? ⟨Bm, 0, none⟩ = some (.int .i64 t) := by
      rw [hwo, World.cell?_setCell_other _ _ _ _ (by intro e; injection e with _ e; cases e)]; exact World.cell?_setCell_same _ _ _ N0
    have O1 : wo.cell? ⟨Bm, 1, none⟩ = some (.slice An 0 cn) := by
      rw [hwo]; exact World.cell?_setCell_same _ _ _ ((World.cell?_setCell_other _ _ _ _ (by intro e; injection e with _ e; cases e)).trans N1)
    have HBo : Hid (Below w.heap.size w wo) := by unfold Hid; rw [hwo]; exact (HBn.out.setCell (p := ⟨Bm, 0, none⟩) HWm.out _).setCell (p := ⟨Bm, 1, none⟩) HWm.out _
    have hBo : Bm < wo.heap.size := by rw [hwo, World.size_setCell, World.size_setCell]; exact hBn
    have HNo : Hid (Num1 wo (.slice (some ⟨gu, 0, none⟩) 1 cu) a) := by
      obtain ⟨g9, c9, e9, m1, m2, m3, m4⟩ := HNn.out
      cases e9
      refine ⟨gu, cu, rfl, m1, m2, by rw [hwo, World.size_setCell, World.size_setCell]; exact m3, ?_⟩
      rw [hwo]
      exact (World.cell?_setCell_other _ _ _ _ (by intro e; injection e with e _; exact hgu e)).trans ((World.cell?_setCell_other _ _ _ _ (by intro e; injection e with e _; exact hgu e)).trans m4)
    rw [← hwo]
    clear hwo N0 N1 NF0 NF1 HBn hBn HNn hgu HWm
    refine hK.out _ _ trivial (fun hHeld => ?_)
    clear hK K
    try simp only [Act.put, List.setIfInBounds_toArray, List.set_cons_zero, List.set_cons_succ]
    refine' wpAnyH_take (i := 12) (v := ?v13) rfl (by kernel_rfl) (by kernel_rfl) (by kernel_rfl) (fun _ _ _ h => h) (Or.inl ⟨by kernel_rfl, ?hy13⟩) (by assumption) ?rest13
    case hy13 => (intro w hSw; (try dsimp only at hSw); go_simp; try with_reducible rfl)
    try simp only [Act.put, List.setIfInBounds_toArray, List.set_cons_zero, List.set_cons_succ]
    refine wpAnyH_done (by kernel_rfl) ?_ _
    refine NoPanic.normal ?_
    have HHZ := Lib.hid (holds_zero t (.slice An 0 cn) a wo HZn.out)
    unfold Lc at HHZ
    go_wp2_with fail
    refine HHZ.out.mono ?_
    rintro e wp ⟨rfl, bp⟩
    have P0 := (bp.cell (p := ⟨Bm, 0, none⟩) hBo).trans O0
    have P1 := (bp.cell (p := ⟨Bm, 1, none⟩) hBo).trans O1
    have HNp := Lib.hid (HNo.out.below bp (Nat.le_refl _))
    have HBp := Lib.hid (HBo.out.trans (bp.mono HBo.out.size))
    have HAZ := Lib.hid (ask_zero t (.slice An 0 cn) b false 1 wp HZn.out (by omega) (by omega) (by decide))
    unfold Lc at HAZ
    clear bp O0 O1 HBo hBo HNo HHZ
    go_wp2_with fail
    refine HAZ.out.mono ?_
    rintro e wr ⟨vr, rfl, or1, br⟩
    have HNr := Lib.hid (HNp.out.below br (Nat.le_refl _))
    have HBr := Lib.hid (HBp.out.trans (br.mono HBp.out.size))
    have hbs : Below wr.heap.size wr (wr.alloc (.cells #[.int .i64 t, vr] 27)) := (Below.refl _ _).alloc (Nat.le_refl _) _
    have HHO2 := Lib.hid (holds_one t vr ⟨b, false, t + 1⟩ b _ (or1.below hbs (Nat.le_refl _)) rfl)
    unfold Lc at HHO2
    have HNs := Lib.hid (HNr.out.below hbs (Nat.le_refl _))
    have HBs := Lib.hid (HBr.out.trans (hbs.mono HBr.out.size))
    obtain ⟨gr, cr, hvr, _, _, _, _, _, _⟩ := or1
    subst hvr
    clear br P0 P1 HNp HBp HAZ hbs HNr HBr HZn
    go_wp2_with fail
    refine HHO2.out.mono ?_
    rintro e wt ⟨rfl, bt⟩
    have HBt := Lib.hid (HBs.out.trans (bt.mono HBs.out.size))
    obtain ⟨g9, c9, e9, _, _, _, u0⟩ := HNs.out.below bt (Nat.le_refl _)
    cases e9
    have haa : ((a.toNat : Int) == (a.toNat : Int)) = true := by simp
    clear bt HBs HNs HHO2
    go_wp2_with fail
    refine (leaAwake_any _).mono ?_
    rintro e wA ⟨rfl, bA⟩
    go_wp2
    go_ret
    exact ⟨rfl, HBt.out.trans (bA.mono HBt.out.size)⟩
  · go_simp
    have hb5 : Below wx.heap.size wx (wx.alloc (.cells #[.int .i64 0, .slice none 0 0] 27)) := (Below.refl _ _).alloc (Nat.le_refl _) _
    obtain ⟨w4, hw4⟩ : ∃ w4, w4 = wx.alloc (.cells #[.int .i64 0, .slice none 0 0] 27) := ⟨_, rfl⟩
    obtain ⟨Bm, hBmE⟩ : ∃ Bm, Bm = wx.heap.size := ⟨_, rfl⟩
    have q4 : w4.heap[Bm]? = some (.cells #[.int .i64 0, .slice none 0 0] 27) := by rw [hw4, hBmE]; exact heap_alloc_new _ _
    have hBm4 : Bm < w4.heap.size := by rw [hw4, hBmE]; simp
    rw [← hw4] at hb5
    rw [← hw4, ← hBmE]
    have hOB : B ≠ Bm := by omega
    have HWm : Hid (w.heap.size ≤ Bm) := by unfold Hid; rw [hBmE]; exact HBx.out.size
    clear hw4 hBmE
    have HOy := Lib.hid (HOx.out.below hb5 (Nat.le_refl _))
    have HBy := Lib.hid (HBx.out.trans (hb5.mono HBx.out.size))
    have Y0 := (hb5.cell (p := ⟨B, 0, none⟩) hBx).trans X0
    have Y1 := (hb5.cell (p := ⟨B, 1, none⟩) hBx).trans X1
    have hBx4 : B < w4.heap.size := Nat.lt_of_lt_of_le hBx hb5.size
    clear hb5 X0 X1 HOx HBx hBx
    refine hK.out _ _ ⟨Y0, Y1⟩ (fun hHeld => ?_)
    clear hK K
    try simp only [Act.put, List.setIfInBounds_toArray, List.set_cons_zero, List.set_cons_succ]
    refine wpAnyH_ready (rs := [5]) (by kernel_rfl) (by simp) ?_
    refine AllReadyH.cons rfl (fun K hK => ?_) AllReadyH.nil
    go_simp
    go_at_call 8
    refine (H3.out _ _ HOy.out).mono ?_
    rintro er w5 ⟨v4, rfl, o4, b4⟩
    have Z0 := (b4.cell (p := ⟨B, 0, none⟩) hBx4).trans Y0
    have Z1 := (b4.cell (p := ⟨B, 1, none⟩) hBx4).trans Y1
    have HB5 := Lib.hid (HBy.out.trans (b4.mono HBy.out.size))
    have HO5 := Lib.hid o4
    have q5 := (b4.block Bm hBm4).trans q4
    have hBm5 := Nat.lt_of_lt_of_le hBm4 b4.size
    obtain ⟨g3, c3, hv4, _, _, _, hcc, _, _⟩ := o4
    subst hv4
    have hgm : Bm ≠ g3 := fun e => by
      rw [← e, (cells2 q5).1] at hcc; cases hcc
    clear b4 Y0 Y1 HOy HBy hBx4 hBm4 q4 hcc
    go_wp2_with fail
    refine hK.out _ _ ⟨Z0, Z1⟩ (fun hHeld => ?_)
    clear hK K
    try simp only [Act.put, List.setIfInBounds_toArray, List.set_cons_zero, List.set_cons_succ]
    refine' wpAnyH_take (i := 6) (v := ?v14) rfl (by kernel_rfl) (by kernel_rfl) (by kernel_rfl) (fun _ _ _ h => h) (Or.inl ⟨by kernel_rfl, ?hy14⟩) (by assumption) ?rest14
    case hy14 => (intro w hSw; (try dsimp only at hSw); go_simp; try with_reducible rfl)
    try simp only [Act.put, List.setIfInBounds_toArray, List.set_cons_zero, List.set_cons_succ]
    refine' wpAnyH_take (i := 7) (v := ?v15) rfl (by kernel_rfl) (by kernel_rfl) (by kernel_rfl) (fun _ _ _ h => h) (Or.inl ⟨by kernel_rfl, ?hy15⟩) (by assumption) ?rest15
    case hy15 => (intro w hSw; (try dsimp only at hSw); go_simp; try with_reducible rfl)
    try simp only [Act.put, List.setIfInBounds_toArray, List.set_cons_zero, List.set_cons_succ]
    refine' wpAnyH_take (i := 8) (v := ?v16) rfl (by kernel_rfl) (by kernel_rfl) (by kernel_rfl) (fun _ _ _ h => h) (Or.inl ⟨by kernel_rfl, ?hy16⟩) (by assumption) ?rest16
    case hy16 => (intro w hSw; (try dsimp only at hSw); go_simp; try with_reducible rfl)
    try simp only [Act.put, List.setIfInBounds_toArray, List.set_cons_zero, List.set_cons_succ]
    obtain ⟨q50, q51, q5F⟩ := cells2 q5
    refine wpAnyH_ready (rs := [10]) (by kernel_rfl) (by simp) ?_
    refine AllReadyH.cons rfl (fun K hK => ?_) AllReadyH.nil
    have q5F0 := q5F 0
    have q5F1 := q5F 1
    go_simp
    obtain ⟨wf, hwf⟩ : ∃ wf, wf = (w5.setCell ⟨Bm, 0, none⟩ (.int .i64 d)).setCell ⟨Bm, 1, none⟩ (.slice (some ⟨g3, 0, none⟩) 1 c3) := ⟨_, rfl⟩
    have M0 : wf.cell? ⟨Bm, 0, none⟩ = some (.int .i64 d) := by
      rw [hwf, World.cell?_setCell_other _ _ _ _ (by intro e; injection e with _ e; cases e)]; exact World.cell?_setCell_same _ _ _ q50
    have M1 : wf.cell? ⟨Bm, 1, none⟩ = some (.slice (some ⟨g3, 0, none⟩) 1 c3) := by
      rw [hwf]; exact World.cell?_setCell_same _ _ _ ((World.cell?_setCell_other _ _ _ _ (by intro e; injection e with _ e; cases e)).trans q51)
    have MF0 : wf.frozen? ⟨Bm, 0, none⟩ = false := by rw [hwf, World.frozen?_setCell, World.frozen?_setCell]; exact q5F0
    have MF1 : wf.frozen? ⟨Bm, 1, none⟩ = false := by rw [hwf, World.frozen?_setCell, World.frozen?_setCell]; exact q5F1
    have HBf : Hid (Below w.heap.size w wf) := by unfold Hid; rw [hwf]; exact (HB5.out.setCell (p := ⟨Bm, 0, none⟩) HWm.out _).setCell (p := ⟨Bm, 1, none⟩) HWm.out _
    have hBm : Bm < wf.heap.size := by rw [hwf, World.size_setCell, World.size_setCell]; exact hBm5
    have HOf : Hid (One wf (.slice (some ⟨g3, 0, none⟩) 1 c3) ⟨a, false, t⟩) := by unfold Hid; rw [hwf]; exact (HO5.out.set_other _ _ hgm).set_other _ _ hgm
    have Zf0 : wf.cell? ⟨B, 0, none⟩ = some (.int .i64 0) := by rw [hwf]; exact (World.cell?_setCell_other _ _ _ _ (by intro e; injection e with e _; exact hOB e.symm)).trans ((World.cell?_setCell_other _ _ _ _ (by intro e; injection e with e _; exact hOB e.symm)).trans Z0)
    have Zf1 : wf.cell? ⟨B, 1, none⟩ = some (.slice (some ⟨g1, 0, none⟩) 1 c1) := by rw [hwf]; exact (World.cell?_setCell_other _ _ _ _ (by intro e; injection e with e _; exact hOB e.symm)).trans ((World.cell?_setCell_other _ _ _ _ (by intro e; injection e with e _; exact hOB e.symm)).trans Z1)
    rw [← hwf]
    clear hwf q5 q50 q51 q5F q5F0 q5F1 Z0 Z1 HB5 HO5 hBm5 hgm
    refine hK.out _ _ ⟨Zf0, Zf1⟩ (fun hHeld => ?_)
    clear hK K
    try simp only [Act.put, List.setIfInBounds_toArray, List.set_cons_zero, List.set_cons_succ]
    refine' wpAnyH_take (i := 11) (v := ?v17) rfl (by kernel_rfl) (by kernel_rfl) (by kernel_rfl) (fun _ _ _ h => h) (Or.inl ⟨by kernel_rfl, ?hy17⟩) (by assumption) ?rest17
    case hy17 => (intro w hSw; (try dsimp only at hSw); go_simp; try with_reducible rfl)
    try simp only [Act.put, List.setIfInBounds_toArray, List.set_cons_zero, List.set_cons_succ]
    refine wpAnyH_done (by kernel_rfl) ?_ _
    refine NoPanic.normal ?_
    clear Zf0 Zf1 hHeld hOB H3
    have HHO := Lib.hid (holds_one d (.slice (some ⟨g3, 0, none⟩) 1 c3) ⟨a, false, t⟩ a wf HOf.out rfl)
    unfold Lc at HHO
    go_wp2_with fail
    refine HHO.out.mono ?_
    rintro e wm ⟨rfl, bm⟩
    replace M0 := (bm.cell (p := ⟨Bm, 0, none⟩) hBm).trans M0
    replace M1 := (bm.cell (p := ⟨Bm, 1, none⟩) hBm).trans M1
    replace MF0 := (bm.frozen (p := ⟨Bm, 0, none⟩) hBm).trans MF0
    replace MF1 := (bm.frozen (p := ⟨Bm, 1, none⟩) hBm).trans MF1
    have HOm := Lib.hid (HOf.out.below bm (Nat.le_refl _))
    replace HBf := Lib.hid (HBf.out.trans (bm.mono HBf.out.size))
    replace hBm := Nat.lt_of_lt_of_le hBm bm.size
    clear bm HHO HOf
    go_wp2_with fail
    have HPD := Lib.hid (pass_drop d (.slice (some ⟨g3, 0, none⟩) 1 c3) ⟨a, false, t⟩ (t - d) wm.drew HOm.out (by omega) (by omega) (by omega) (by dsimp only; omega))
    rw [show d + (t - d) = t by omega] at HPD
    unfold Lc at HPD
    refine wp_region_noPanic ?_
    refine wp_region_held_drew (S := fun _ => True) (by kernel_rfl) trivial (fun hHeld => ?_)
    obtain ⟨wd, hwd⟩ : ∃ wd, wd = wm.drew := ⟨_, rfl⟩
    have MD0 : wd.cell? ⟨Bm, 0, none⟩ = some (.int .i64 d) := by rw [hwd]; exact M0
    have MD1 : wd.cell? ⟨Bm, 1, none⟩ = some (.slice (some ⟨g3, 0, none⟩) 1 c3) := by rw [hwd]; exact M1
    rw [← hwd] at HPD ⊢
    have HWD := Lib.hid hwd
    clear hwd
    refine' wpAnyH_take (i := 1) (v := ?v18) rfl (by kernel_rfl) (by kernel_rfl) (by kernel_rfl) (fun _ _ _ h => h) (Or.inl ⟨by kernel_rfl, ?hy18⟩) (by assumption) ?rest18
    case hy18 => (intro w hSw; (try dsimp only at hSw); go_simp; try with_reducible rfl)
    try simp only [Act.put, List.setIfInBounds_toArray, List.set_cons_zero, List.set_cons_succ]
    refine' wpAnyH_take (i := 2) (v := ?v19) rfl (by kernel_rfl) (by kernel_rfl) (by kernel_rfl) (fun _ _ _ h => h) (Or.inl ⟨by kernel_rfl, ?hy19⟩) (by assumption) ?rest19
    case hy19 => (intro w hSw; (try dsimp only at hSw); go_simp; try with_reducible rfl)
    try simp only [Act.put, List.setIfInBounds_toArray, List.set_cons_zero, List.set_cons_succ]
    refine wpAnyH_take (i := 3) (v := .int .i64 early) rfl (by kernel_rfl) (by kernel_rfl) (by kernel_rfl) (fun _ _ _ h => h) (Or.inl ⟨by kernel_rfl, ?_⟩) hHeld ?_
    · intro w hSw
      go_simp
      first | done | ((try rw [Int.tdiv_eq_ediv_of_nonneg (by omega)]); (try rw [Int.tmod_eq_emod_of_nonneg (by omega)]); (try rw [IntKind.wrap_i64]); (try omega))
    try simp only [Act.put, List.setIfInBounds_toArray, List.set_cons_zero, List.set_cons_succ]
    refine' wpAnyH_take (i := 4) (v := ?v20) rfl (by kernel_rfl) (by kernel_rfl) (by kernel_rfl) (fun _ _ _ h => h) (Or.inl ⟨by kernel_rfl, ?hy20⟩) (by assumption) ?rest20
    case hy20 => (intro w hSw; (try dsimp only at hSw); go_simp; try with_reducible rfl)
    try simp only [Act.put, List.setIfInBounds_toArray, List.set_cons_zero, List.set_cons_succ]
    refine wpAnyH_take (i := 5) (v := .int .i64 d) rfl (by kernel_rfl) (by kernel_rfl) (by kernel_rfl) (fun _ _ _ h => h) (Or.inl ⟨by kernel_rfl, ?_⟩) hHeld ?_
    · intro w hSw
      go_simp
      first | done | ((try rw [Int.tdiv_eq_ediv_of_nonneg (by omega)]); (try rw [Int.tmod_eq_emod_of_nonneg (by omega)]); (try rw [IntKind.wrap_i64]); (try omega))
    try simp only [Act.put, List.setIfInBounds_toArray, List.set_cons_zero, List.set_cons_succ]
    refine wpAnyH_take (i := 6) (v := .int .i64 (t - d)) rfl (by kernel_rfl) (by kernel_rfl) (by kernel_rfl) (fun _ _ _ h => h) (Or.inl ⟨by kernel_rfl, ?_⟩) hHeld ?_
    · intro w hSw
      go_simp
      first | done | ((try rw [Int.tdiv_eq_ediv_of_nonneg (by omega)]); (try rw [Int.tmod_eq_emod_of_nonneg (by omega)]); (try rw [IntKind.wrap_i64]); (try omega))
    try simp only [Act.put, List.setIfInBounds_toArray, List.set_cons_zero, List.set_cons_succ]
    refine wpAnyH_ready (rs := [0]) (by kernel_rfl) (by simp) ?_
    refine AllReadyH.cons rfl (fun K hK => ?_) AllReadyH.nil
    go_simp
    refine hK.out _ _ trivial (fun hHeld => ?_)
    clear hK K
    try simp only [Act.put, List.setIfInBounds_toArray, List.set_cons_zero, List.set_cons_succ]
    refine wpAnyH_ready (rs := [7]) (by kernel_rfl) (by simp) ?_
    refine AllReadyH.cons rfl (fun K hK => ?_) AllReadyH.nil
    go_simp
    go_at_call 8
    refine HPD.out.mono ?_
    rintro er wn ⟨vn, un, rfl, zn, nn, bn⟩
    rw [HWD.out] at bn
    have hBmd : Bm < wm.drew.heap.size := hBm
    have N0 := (bn.cell (p := ⟨Bm, 0, none⟩) hBmd).trans M0
    have N1 := (bn.cell (p := ⟨Bm, 1, none⟩) hBmd).trans M1
    have NF0 := (bn.frozen (p := ⟨Bm, 0, none⟩) hBmd).trans MF0
    have NF1 := (bn.frozen (p := ⟨Bm, 1, none⟩) hBmd).trans MF1
    have HBn : Hid (Below w.heap.size w wn) := HBf.out.drew.trans (bn.mono HBf.out.drew.size)
    have hBn : Bm < wn.heap.size := Nat.lt_of_lt_of_le hBmd bn.size
    have HZn := Lib.hid zn
    obtain ⟨An, cn, hvn, _, _⟩ := zn
    subst hvn
    have HNn := Lib.hid nn
    obtain ⟨gu, cu, hun, _, hcu, _, hn0⟩ := nn
    subst hun
    have hgu : Bm ≠ gu := fun e => by rw [← e, N0] at hn0; cases hn0
    have hcu9 : cu ≤ 9223372036854775807 := by unfold maxLen at hcu; omega
    clear HWD MD0 MD1 bn M0 M1 MF0 MF1 HBf hBm hBmd HPD HOm hn0 hcu
    go_wp2_with fail
    refine hK.out _ _ trivial (fun hHeld => ?_)
    clear hK K
    try simp only [Act.put, List.setIfInBounds_toArray, List.set_cons_zero, List.set_cons_succ]
    refine' wpAnyH_take (i := 8) (v := ?v21) rfl (by kernel_rfl) (by kernel_rfl) (by kernel_rfl) (fun _ _ _ h => h) (Or.inl ⟨by kernel_rfl, ?hy21⟩) (by assumption) ?rest21
    case hy21 => (intro w hSw; (try dsimp only at hSw); go_simp; try with_reducible rfl)
    try simp only [Act.put, List.setIfInBounds_toArray, List.set_cons_zero, List.set_cons_succ]
    refine' wpAnyH_take (i := 9) (v := ?v22) rfl (by kernel_rfl) (by kernel_rfl) (by kernel_rfl) (fun _ _ _ h => h) (Or.inl ⟨by kernel_rfl, ?hy22⟩) (by assumption) ?rest22
    case hy22 => (intro w hSw; (try dsimp only at hSw); go_simp; try with_reducible rfl)
    try simp only [Act.put, List.setIfInBounds_toArray, List.set_cons_zero, List.set_cons_succ]
    refine' wpAnyH_take (i := 10) (v := ?v23) rfl (by kernel_rfl) (by kernel_rfl) (by kernel_rfl) (fun _ _ _ h => h) (Or.inl ⟨by kernel_rfl, ?hy23⟩) (by assumption) ?rest23
    case hy23 => (intro w hSw; (try dsimp only at hSw); go_simp; try with_reducible rfl)
    try simp only [Act.put, List.setIfInBounds_toArray, List.set_cons_zero, List.set_cons_succ]
    refine wpAnyH_ready (rs := [11]) (by kernel_rfl) (by simp) ?_
    refine AllReadyH.cons rfl (fun K hK => ?_) AllReadyH.nil
    go_simp
    obtain ⟨wo, hwo⟩ : ∃ wo, wo = (wn.setCell ⟨Bm, 0, none⟩ (.int .i64 t)).setCell ⟨Bm, 1, none⟩ (.slice An 0 cn) := ⟨_, rfl⟩
    have O0 : wo.cell? ⟨Bm, 0, none⟩ = some (.int .i64 t) := by
      rw [hwo, World.cell?_setCell_other _ _ _ _ (by intro e; injection e with _ e; cases e)]; exact World.cell?_setCell_same _ _ _ N0
    have O1 : wo.cell? ⟨Bm, 1, none⟩ = some (.slice An 0 cn) := by
      rw [hwo]; exact World.cell?_setCell_same _ _ _ ((World.cell?_setCell_other _ _ _ _ (by intro e; injection e with _ e; cases e)).trans N1)
    have HBo : Hid (Below w.heap.size w wo) := by unfold Hid; rw [hwo]; exact (HBn.out.setCell (p := ⟨Bm, 0, none⟩) HWm.out _).setCell (p := ⟨Bm, 1, none⟩) HWm.out _
    have hBo : Bm < wo.heap.size := by rw [hwo, World.size_setCell, World.size_setCell]; exact hBn
    have HNo : Hid (Num1 wo (.slice (some ⟨gu, 0, none⟩) 1 cu) a) := by
      obtain ⟨g9, c9, e9, m1, m2, m3, m4⟩ := HNn.out
      cases e9
      refine ⟨gu, cu, rfl, m1, m2, by rw [hwo, World.size_setCell, World.size_setCell]; exact m3, ?_⟩
      rw [hwo]
      exact (World.cell?_setCell_other _ _ _ _ (by intro e; injection e with e _; exact hgu e)).trans ((World.cell?_setCell_other _ _ _ _ (by intro e; injection e with e _; exact hgu e)).trans m4)
    rw [← hwo]
    clear hwo N0 N1 NF0 NF1 HBn hBn HNn hgu HWm
    refine hK.out _ _ trivial (fun hHeld => ?_)
    clear hK K
    try simp only [Act.put, List.setIfInBounds_toArray, List.set_cons_zero, List.set_cons_succ]
    refine' wpAnyH_take (i := 12) (v := ?v24) rfl (by kernel_rfl) (by kernel_rfl) (by kernel_rfl) (fun _ _ _ h => h) (Or.inl ⟨by kernel_rfl, ?hy24⟩) (by assumption) ?rest24
    case hy24 => (intro w hSw; (try dsimp only at hSw); go_simp; try with_reducible rfl)
    try simp only [Act.put, List.setIfInBounds_toArray, List.set_cons_zero, List.set_cons_succ]
    refine wpAnyH_done (by kernel_rfl) ?_ _
    refine NoPanic.normal ?_
    have HHZ := Lib.hid (holds_zero t (.slice An 0 cn) a wo HZn.out)
    unfold Lc at HHZ
    go_wp2_with fail
    refine HHZ.out.mono ?_
    rintro e wp ⟨rfl, bp⟩
    have P0 := (bp.cell (p := ⟨Bm, 0, none⟩) hBo).trans O0
    have P1 := (bp.cell (p := ⟨Bm, 1, none⟩) hBo).trans O1
    have HNp := Lib.hid (HNo.out.below bp (Nat.le_refl _))
    have HBp := Lib.hid (HBo.out.trans (bp.mono HBo.out.size))
    have HAZ := Lib.hid (ask_zero t (.slice An 0 cn) b false 1 wp HZn.out (by omega) (by omega) (by decide))
    unfold Lc at HAZ
    clear bp O0 O1 HBo hBo HNo HHZ
    go_wp2_with fail
    refine HAZ.out.mono ?_
    rintro e wr ⟨vr, rfl, or1, br⟩
    have HNr := Lib.hid (HNp.out.below br (Nat.le_refl _))
    have HBr := Lib.hid (HBp.out.trans (br.mono HBp.out.size))
    have hbs : Below wr.heap.size wr (wr.alloc (.cells #[.int .i64 t, vr] 27)) := (Below.refl _ _).alloc (Nat.le_refl _) _
    have HHO2 := Lib.hid (holds_one t vr ⟨b, false, t + 1⟩ b _ (or1.below hbs (Nat.le_refl _)) rfl)
    unfold Lc at HHO2
    have HNs := Lib.hid (HNr.out.below hbs (Nat.le_refl _))
    have HBs := Lib.hid (HBr.out.trans (hbs.mono HBr.out.size))
    obtain ⟨gr, cr, hvr, _, _, _, _, _, _⟩ := or1
    subst hvr
    clear br P0 P1 HNp HBp HAZ hbs HNr HBr HZn
    go_wp2_with fail
    refine HHO2.out.mono ?_
    rintro e wt ⟨rfl, bt⟩
    have HBt := Lib.hid (HBs.out.trans (bt.mono HBs.out.size))
    obtain ⟨g9, c9, e9, _, _, _, u0⟩ := HNs.out.below bt (Nat.le_refl _)
    cases e9
    have haa : ((a.toNat : Int) == (a.toNat : Int)) = true := by simp
    clear bt HBs HNs HHO2
    go_wp2_with fail
    refine (leaAwake_any _).mono ?_
    rintro e wA ⟨rfl, bA⟩
    go_wp2
    go_ret
    exact ⟨rfl, HBt.out.trans (bA.mono HBt.out.size)⟩
set_option maxRecDepth 20000 in
set_option maxHeartbeats 4000000 in
theorem ends_true (w : World) (a b : UInt64) (n early : Nat) (hea : early < 65536) (hab : a ≠ b) :
    Calls Try.prog 3 #[.int .u64 a.toNat, .int .u64 b.toNat, .int .u16 n, .int .u16 early, .bool true] w fun e w' => e = .returned (.bool true) ∧ Below w.heap.size w w' := by
  obtain ⟨t, hte, ht1, ht2⟩ : ∃ t : Int, (n : Int) % 1000 + 1 = t ∧ 0 < t ∧ t ≤ 1000 := ⟨_, rfl, by omega, by omega⟩
  obtain ⟨d, hd, hd0, hd1⟩ : ∃ d : Int, (early : Int) % t = d ∧ 0 ≤ d ∧ d < t := ⟨_, rfl, Int.emod_nonneg _ (by omega), Int.emod_lt_of_pos _ ht1⟩
  have ht0 : ¬ t = 0 := by omega
  have hne : ((a.toNat : Int) == (b.toNat : Int)) = false := by
    rw [beq_eq_false_iff_ne]; intro e; exact hab (UInt64.toNat_inj.1 (by omega))
  have H1 := Lib.hid (fun w => ask_zero 0 (.slice none 0 0) a false t w zero_nil (by omega) (by omega) ⟨ht1, ht2⟩)
  rw [Int.zero_add] at H1
  have H2 := Lib.hid (fun (v : Value) w (h : One w v ⟨a, false, t⟩) => ask_busy 0 v ⟨a, false, t⟩ b true 5 w h rfl hab (by decide))
  have H3 := Lib.hid (fun (v : Value) w (h : One w v ⟨a, false, t⟩) => pass_keep 0 v ⟨a, false, t⟩ d w h (by omega) (by omega) (by omega) (by dsimp only; omega))
  rw [Int.zero_add] at H3
  unfold Lc at H1 H2 H3
  go_enter Try.func3, Try.ntmps3
  go_wp2_with fail
  refine (H1.out _).mono ?_
  rintro e w1 ⟨v1, rfl, o1, b1⟩
  have HO1 := Lib.hid o1
  have HB1 := Lib.hid b1
  obtain ⟨g1, c1, hv, _, _, _, _, _, _⟩ := o1
  subst hv
  clear b1 H1 hte
  go_wp2_with fail
  obtain ⟨w2, hw2⟩ : ∃ w2, w2 = w1.alloc (.cells #[.int .i64 0, .slice (some ⟨g1, 0, none⟩) 1 c1] 27) := ⟨_, rfl⟩
  obtain ⟨B, hB⟩ : ∃ B, B = w1.heap.size := ⟨_, rfl⟩
  obtain ⟨L0, L1, LF⟩ := cells2 (w := w2) (b := B) (x := .int .i64 0) (y := .slice (some ⟨g1, 0, none⟩) 1 c1) (t := 27) (by rw [hw2, hB]; exact heap_alloc_new _ _)
  have HB2 : Hid (Below w.heap.size w w2) := by unfold Hid; rw [hw2]; exact HB1.out.alloc HB1.out.size _
  have HO2 : Hid (One w2 (.slice (some ⟨g1, 0, none⟩) 1 c1) ⟨a, false, t⟩) := by unfold Hid; rw [hw2]; exact HO1.out.below ((Below.refl _ _).alloc (Nat.le_refl _) _) (Nat.le_refl _)
  have hBs : B < w2.heap.size := by rw [hw2, hB]; simp
  rw [← hw2, ← hB]
  clear hw2 hB HB1 HO1
  refine (H2.out _ _ HO2.out).mono ?_
  rintro e w3 ⟨rfl, b3⟩
  have L0' := (b3.cell (p := ⟨B, 0, none⟩) hBs).trans L0
  have L1' := (b3.cell (p := ⟨B, 1, none⟩) hBs).trans L1
  have HO3 := Lib.hid (HO2.out.below b3 (Nat.le_refl _))
  have HB3 := Lib.hid (HB2.out.trans (b3.mono HB2.out.size))
  have hBs3 : B < w3.heap.size := Nat.lt_of_lt_of_le hBs b3.size
  clear b3 L0 L1 LF HO2 HB2 hBs H2
  go_wp2_with fail
  obtain ⟨wx, hwx⟩ : ∃ wx, wx = (w3.alloc (.cells #[.int .i64 0, .slice (some ⟨g1, 0, none⟩) 1 c1] 27)).drew := ⟨_, rfl⟩
  have hbx : Below w3.heap.size w3 wx := by rw [hwx]; exact ((Below.refl _ _).alloc (Nat.le_refl _) _).drew
  have X0 := (hbx.cell (p := ⟨B, 0, none⟩) hBs3).trans L0'
  have X1 := (hbx.cell (p := ⟨B, 1, none⟩) hBs3).trans L1'
  have HOx := Lib.hid (HO3.out.below hbx (Nat.le_refl _))
  have HBx := Lib.hid (HB3.out.trans (hbx.mono HB3.out.size))
  have hBx : B < wx.heap.size := Nat.lt_of_lt_of_le hBs3 hbx.size
  refine wp_region_noPanic ?_
  refine wp_region_held_drew (S := fun w' => w'.cell? ⟨B, 0, none⟩ = some (.int .i64 0) ∧ w'.cell? ⟨B, 1, none⟩ = some (.slice (some ⟨g1, 0, none⟩) 1 c1)) (by kernel_rfl) (by rw [← hwx]; exact ⟨X0, X1⟩) (fun hHeld => ?_)
  rw [← hwx] at hHeld ⊢
  clear hwx hbx L0' L1' HO3 HB3 hBs3
  refine wpAnyH_take (i := 0) (v := .agg #[.int .i64 0, .slice (some ⟨g1, 0, none⟩) 1 c1]) rfl (by kernel_rfl) (by kernel_rfl) (by kernel_rfl) (fun _ _ _ h => h) (Or.inl ⟨by kernel_rfl, ?_⟩) hHeld ?_
  · intro w hSw
    have hh := hSw.1
    have hg := hSw.2
    go_simp
  try simp only [Act.put, List.setIfInBounds_toArray, List.set_cons_zero, List.set_cons_succ]
  refine' wpAnyH_take (i := 1) (v := ?v25) rfl (by kernel_rfl) (by kernel_rfl) (by kernel_rfl) (fun _ _ _ h => h) (Or.inl ⟨by kernel_rfl, ?hy25⟩) (by assumption) ?rest25
  case hy25 => (intro w hSw; (try dsimp only at hSw); go_simp; try with_reducible rfl)
  try simp only [Act.put, List.setIfInBounds_toArray, List.set_cons_zero, List.set_cons_succ]
  refine wpAnyH_take (i := 2) (v := .int .i64 early) rfl (by kernel_rfl) (by kernel_rfl) (by kernel_rfl) (fun _ _ _ h => h) (Or.inl ⟨by kernel_rfl, ?_⟩) hHeld ?_
  · intro w hSw
    go_simp
    first | done | ((try rw [Int.tdiv_eq_ediv_of_nonneg (by omega)]); (try rw [Int.tmod_eq_emod_of_nonneg (by omega)]); (try rw [IntKind.wrap_i64]); (try omega))
  try simp only [Act.put, List.setIfInBounds_toArray, List.set_cons_zero, List.set_cons_succ]
  refine' wpAnyH_take (i := 3) (v := ?v26) rfl (by kernel_rfl) (by kernel_rfl) (by kernel_rfl) (fun _ _ _ h => h) (Or.inl ⟨by kernel_rfl, ?hy26⟩) (by assumption) ?rest26
  case hy26 => (intro w hSw; (try dsimp only at hSw); go_simp; try with_reducible rfl)
  try simp only [Act.put, List.setIfInBounds_toArray, List.set_cons_zero, List.set_cons_succ]
  refine wpAnyH_take (i := 4) (v := .int .i64 d) rfl (by kernel_rfl) (by kernel_rfl) (by kernel_rfl) (fun _ _ _ h => h) (Or.inl ⟨by kernel_rfl, ?_⟩) hHeld ?_
  · intro w hSw
    go_simp
    first | done | ((try rw [Int.tdiv_eq_ediv_of_nonneg (by omega)]); (try rw [Int.tmod_eq_emod_of_nonneg (by omega)]); (try rw [IntKind.wrap_i64]); (try omega))
  try simp only [Act.put, List.setIfInBounds_toArray, List.set_cons_zero, List.set_cons_succ]
  refine wpAnyH_ready (rs := [5, 9]) (by kernel_rfl) (by simp) (AllReadyH.cons rfl (fun K hK => ?_) (AllReadyH.cons rfl (fun K hK => ?_) AllReadyH.nil))
  · go_simp
    go_at_call 8
    refine (H3.out _ _ HOx.out).mono ?_
    rintro er w4 ⟨v4, rfl, o4, b4⟩
    have Y0 := (b4.cell (p := ⟨B, 0, none⟩) hBx).trans X0
    have Y1 := (b4.cell (p := ⟨B, 1, none⟩) hBx).trans X1
    have HB4 := Lib.hid (HBx.out.trans (b4.mono HBx.out.size))
    have HO4 := Lib.hid o4
    obtain ⟨g3, c3, hv4, _, _, hg3, _, _, _⟩ := o4
    have hBx4 : B < w4.heap.size := Nat.lt_of_lt_of_le hBx b4.size
    subst hv4
    clear b4 X0 X1 HOx HBx hBx
    go_wp2_with fail
    refine hK.out _ _ ⟨Y0, Y1⟩ (fun hHeld => ?_)
    clear hK K
    try simp only [Act.put, List.setIfInBounds_toArray, List.set_cons_zero, List.set_cons_succ]
    refine' wpAnyH_take (i := 6) (v := ?v27) rfl (by kernel_rfl) (by kernel_rfl) (by kernel_rfl) (fun _ _ _ h => h) (Or.inl ⟨by kernel_rfl, ?hy27⟩) (by assumption) ?rest27
    case hy27 => (intro w hSw; (try dsimp only at hSw); go_simp; try with_reducible rfl)
    try simp only [Act.put, List.setIfInBounds_toArray, List.set_cons_zero, List.set_cons_succ]
    refine' wpAnyH_take (i := 7) (v := ?v28) rfl (by kernel_rfl) (by kernel_rfl) (by kernel_rfl) (fun _ _ _ h => h) (Or.inl ⟨by kernel_rfl, ?hy28⟩) (by assumption) ?rest28
    case hy28 => (intro w hSw; (try dsimp only at hSw); go_simp; try with_reducible rfl)
    try simp only [Act.put, List.setIfInBounds_toArray, List.set_cons_zero, List.set_cons_succ]
    refine' wpAnyH_take (i := 8) (v := ?v29) rfl (by kernel_rfl) (by kernel_rfl) (by kernel_rfl) (fun _ _ _ h => h) (Or.inl ⟨by kernel_rfl, ?hy29⟩) (by assumption) ?rest29
    case hy29 => (intro w hSw; (try dsimp only at hSw); go_simp; try with_reducible rfl)
    try simp only [Act.put, List.setIfInBounds_toArray, List.set_cons_zero, List.set_cons_succ]
    refine wpAnyH_ready (rs := [9]) (by kernel_rfl) (by simp) ?_
    refine AllReadyH.cons rfl (fun K hK => ?_) AllReadyH.nil
    go_simp
    have hb5 : Below w4.heap.size w4 (w4.alloc (.cells #[.int .i64 0, .slice none 0 0] 27)) := (Below.refl _ _).alloc (Nat.le_refl _) _
    obtain ⟨w5, hw5⟩ : ∃ w5, w5 = w4.alloc (.cells #[.int .i64 0, .slice none 0 0] 27) := ⟨_, rfl⟩
    obtain ⟨Bm, hBmE⟩ : ∃ Bm, Bm = w4.heap.size := ⟨_, rfl⟩
    have q5 : w5.heap[Bm]? = some (.cells #[.int .i64 0, .slice none 0 0] 27) := by rw [hw5, hBmE]; exact heap_alloc_new _ _
    have hBm4 : w4.heap.size ≤ Bm := by omega
    have hBm5 : Bm < w5.heap.size := by rw [hw5, hBmE]; simp
    rw [← hw5] at hb5
    rw [← hw5, ← hBmE]
    clear hw5 hBmE
    have hOB : B ≠ Bm := by omega
    have HO5 := Lib.hid (HO4.out.below hb5 (Nat.le_refl _))
    have HB5 := Lib.hid (HB4.out.trans (hb5.mono HB4.out.size))
    have hgm : Bm ≠ g3 := by omega
    have Z0 := (hb5.cell (p := ⟨B, 0, none⟩) hBx4).trans Y0
    have Z1 := (hb5.cell (p := ⟨B, 1, none⟩) hBx4).trans Y1
    have HWm : Hid (w.heap.size ≤ Bm) := Nat.le_trans HB4.out.size hBm4
    clear hb5 Y0 Y1 HB4 HO4 hBx4 hBm4
    refine hK.out _ _ ⟨Z0, Z1⟩ (fun hHeld => ?_)
    clear hK K
    try simp only [Act.put, List.setIfInBounds_toArray, List.set_cons_zero, List.set_cons_succ]
    obtain ⟨q50, q51, q5F⟩ := cells2 q5
    refine wpAnyH_ready (rs := [10]) (by kernel_rfl) (by simp) ?_
    refine AllReadyH.cons rfl (fun K hK => ?_) AllReadyH.nil
    have q5F0 := q5F 0
    have q5F1 := q5F 1
    go_simp
    obtain ⟨wf, hwf⟩ : ∃ wf, wf = (w5.setCell ⟨Bm, 0, none⟩ (.int .i64 d)).setCell ⟨Bm, 1, none⟩ (.slice (some ⟨g3, 0, none⟩) 1 c3) := ⟨_, rfl⟩
    have M0 : wf.cell? ⟨Bm, 0, none⟩ = some (.int .i64 d) := by
      rw [hwf, World.cell?_setCell_other _ _ _ _ (by intro e; injection e with _ e; cases e)]; exact World.cell?_setCell_same _ _ _ q50
    have M1 : wf.cell? ⟨Bm, 1, none⟩ = some (.slice (some ⟨g3, 0, none⟩) 1 c3) := by
      rw [hwf]; exact World.cell?_setCell_same _ _ _ ((World.cell?_setCell_other _ _ _ _ (by intro e; injection e with _ e; cases e)).trans q51)
    have MF0 : wf.frozen? ⟨Bm, 0, none⟩ = false := by rw [hwf, World.frozen?_setCell, World.frozen?_setCell]; exact q5F0
    have MF1 : wf.frozen? ⟨Bm, 1, none⟩ = false := by rw [hwf, World.frozen?_setCell, World.frozen?_setCell]; exact q5F1
    have HBf : Hid (Below w.heap.size w wf) := by unfold Hid; rw [hwf]; exact (HB5.out.setCell (p := ⟨Bm, 0, none⟩) HWm.out _).setCell (p := ⟨Bm, 1, none⟩) HWm.out _
    have hBm : Bm < wf.heap.size := by rw [hwf, World.size_setCell, World.size_setCell]; exact hBm5
    have HOf : Hid (One wf (.slice (some ⟨g3, 0, none⟩) 1 c3) ⟨a, false, t⟩) := by unfold Hid; rw [hwf]; exact (HO5.out.set_other _ _ hgm).set_other _ _ hgm
    have Zf0 : wf.cell? ⟨B, 0, none⟩ = some (.int .i64 0) := by rw [hwf]; exact (World.cell?_setCell_other _ _ _ _ (by intro e; injection e with e _; exact hOB e.symm)).trans ((World.cell?_setCell_other _ _ _ _ (by intro e; injection e with e _; exact hOB e.symm)).trans Z0)
    have Zf1 : wf.cell? ⟨B, 1, none⟩ = some (.slice (some ⟨g1, 0, none⟩) 1 c1) := by rw [hwf]; exact (World.cell?_setCell_other _ _ _ _ (by intro e; injection e with e _; exact hOB e.symm)).trans ((World.cell?_setCell_other _ _ _ _ (by intro e; injection e with e _; exact hOB e.symm)).trans Z1)
    rw [← hwf]
    clear hwf q5 q50 q51 q5F q5F0 q5F1 Z0 Z1 HB5 HO5 hBm5 hgm
    refine hK.out _ _ ⟨Zf0, Zf1⟩ (fun hHeld => ?_)
    clear hK K
    try simp only [Act.put, List.setIfInBounds_toArray, List.set_cons_zero, List.set_cons_succ]
    refine' wpAnyH_take (i := 11) (v := ?v30) rfl (by kernel_rfl) (by kernel_rfl) (by kernel_rfl) (fun _ _ _ h => h) (Or.inl ⟨by kernel_rfl, ?hy30⟩) (by assumption) ?rest30
    case hy30 => (intro w hSw; (try dsimp only at hSw); go_simp; try with_reducible rfl)
    try simp only [Act.put, List.setIfInBounds_toArray, List.set_cons_zero, List.set_cons_succ]
    refine wpAnyH_done (by kernel_rfl) ?_ _
    refine NoPanic.normal ?_
    clear Zf0 Zf1 hHeld hOB H3
    have HHO := Lib.hid (holds_one d (.slice (some ⟨g3, 0, none⟩) 1 c3) ⟨a, false, t⟩ a wf HOf.out rfl)
    unfold Lc at HHO
    go_wp2_with fail
    refine HHO.out.mono ?_
    rintro e wk ⟨rfl, bm⟩
    replace M0 := (bm.cell (p := ⟨Bm, 0, none⟩) hBm).trans M0
    replace M1 := (bm.cell (p := ⟨Bm, 1, none⟩) hBm).trans M1
    replace MF0 := (bm.frozen (p := ⟨Bm, 0, none⟩) hBm).trans MF0
    replace MF1 := (bm.frozen (p := ⟨Bm, 1, none⟩) hBm).trans MF1
    replace HBf := Lib.hid (HBf.out.trans (bm.mono HBf.out.size))
    replace hBm := Nat.lt_of_lt_of_le hBm bm.size
    have HOk := Lib.hid (HOf.out.below bm (Nat.le_refl _))
    clear bm HHO HOf
    have HRN := Lib.hid (renew_one d (.slice (some ⟨g3, 0, none⟩) 1 c3) ⟨a, false, t⟩ a t wk HOk.out rfl (by omega) (by omega) (by omega))
    unfold Lc at HRN
    go_wp2_with fail
    refine HRN.out.mono ?_
    rintro e wq ⟨vq, rfl, oq, bq⟩
    replace M0 := (bq.cell (p := ⟨Bm, 0, none⟩) hBm).trans M0
    replace M1 := (bq.cell (p := ⟨Bm, 1, none⟩) hBm).trans M1
    replace MF0 := (bq.frozen (p := ⟨Bm, 0, none⟩) hBm).trans MF0
    replace MF1 := (bq.frozen (p := ⟨Bm, 1, none⟩) hBm).trans MF1
    replace HBf := Lib.hid (HBf.out.trans (bq.mono HBf.out.size))
    replace hBm := Nat.lt_of_lt_of_le hBm bq.size
    have HOq := Lib.hid (HOk.out.below bq (Nat.le_refl _))
    have HKq := Lib.hid oq
    obtain ⟨gq, cq, hvq, _, _, _, _, _, _⟩ := oq
    subst hvq
    clear bq HRN HOk
    have hba : Below wq.heap.size wq (wq.alloc (.cells #[.int .i64 d, .slice (some ⟨gq, 0, none⟩) 1 cq] 27)) := (Below.refl _ _).alloc (Nat.le_refl _) _
    obtain ⟨wr, hwr⟩ : ∃ wr, wr = wq.alloc (.cells #[.int .i64 d, .slice (some ⟨gq, 0, none⟩) 1 cq] 27) := ⟨_, rfl⟩
    obtain ⟨Bk, hBk⟩ : ∃ Bk, Bk = wq.heap.size := ⟨_, rfl⟩
    have qk : wr.heap[Bk]? = some (.cells #[.int .i64 d, .slice (some ⟨gq, 0, none⟩) 1 cq] 27) := by rw [hwr, hBk]; exact heap_alloc_new _ _
    have hBkr : Bk < wr.heap.size := by rw [hwr, hBk]; simp
    rw [← hwr] at hba
    have hmk : Bm ≠ Bk := by omega
    have HWk : Hid (w.heap.size ≤ Bk) := by unfold Hid; rw [hBk]; exact HBf.out.size
    replace M0 := (hba.cell (p := ⟨Bm, 0, none⟩) hBm).trans M0
    replace M1 := (hba.cell (p := ⟨Bm, 1, none⟩) hBm).trans M1
    replace MF0 := (hba.frozen (p := ⟨Bm, 0, none⟩) hBm).trans MF0
    replace MF1 := (hba.frozen (p := ⟨Bm, 1, none⟩) hBm).trans MF1
    replace HBf := Lib.hid (HBf.out.trans (hba.mono HBf.out.size))
    replace hBm := Nat.lt_of_lt_of_le hBm hba.size
    have HOr := Lib.hid (HOq.out.below hba (Nat.le_refl _))
    have HKr := Lib.hid (HKq.out.below hba (Nat.le_refl _))
    have HPK := Lib.hid (pass_keep d (.slice (some ⟨gq, 0, none⟩) 1 cq) ⟨a, false, d + t⟩ (t - 1) wr HKr.out (by omega) (by omega) (by omega) (by dsimp only; omega))
    unfold Lc at HPK
    have HWR := Lib.hid hwr
    have HBK := Lib.hid hBk
    clear hba HOq HKq hwr hBk
    go_wp2_with fail
    rw [← HWR.out, ← HBK.out]
    clear HWR HBK
    refine HPK.out.mono ?_
    rintro e ws ⟨vs, rfl, os, bs⟩
    replace M0 := (bs.cell (p := ⟨Bm, 0, none⟩) hBm).trans M0
    replace M1 := (bs.cell (p := ⟨Bm, 1, none⟩) hBm).trans M1
    replace MF0 := (bs.frozen (p := ⟨Bm, 0, none⟩) hBm).trans MF0
    replace MF1 := (bs.frozen (p := ⟨Bm, 1, none⟩) hBm).trans MF1
    replace HBf := Lib.hid (HBf.out.trans (bs.mono HBf.out.size))
    replace hBm := Nat.lt_of_lt_of_le hBm bs.size
    have HOs := Lib.hid (HOr.out.below bs (Nat.le_refl _))
    have HKs := Lib.hid os
    have qks := (bs.block Bk hBkr).trans qk
    have hBks := Nat.lt_of_lt_of_le hBkr bs.size
    obtain ⟨g6, c6, hv6, _, _, _, h60, _, _⟩ := os
    subst hv6
    obtain ⟨qk0, qk1, qkF⟩ := cells2 qks
    have qkF0 := qkF 0
    have qkF1 := qkF 1
    have hk6 : Bk ≠ g6 := fun e => by
      rw [← e, qk0] at h60; cases h60
    have hk3 : Bk ≠ g3 := fun e => by
      obtain ⟨g', c', e', _, _, _, h', _, _⟩ := HOs.out
      cases e'
      rw [← e, qk0] at h'; cases h'
    clear bs HPK HKr HOr qk qks hBkr h60 qkF
    obtain ⟨N, hN⟩ : ∃ N, N = d + (t - 1) := ⟨_, rfl⟩
    have hN1 : d + t - 1 = N := by omega
    rw [← hN]
    obtain ⟨wu, hwu⟩ : ∃ wu, wu = (ws.setCell ⟨Bk, 0, none⟩ (.int .i64 N)).setCell ⟨Bk, 1, none⟩ (.slice (some ⟨g6, 0, none⟩) 1 c6) := ⟨_, rfl⟩
    have HKu : Hid (One wu (.slice (some ⟨g6, 0, none⟩) 1 c6) ⟨a, false, d + t⟩) := by unfold Hid; rw [hwu]; exact (HKs.out.set_other _ _ hk6).set_other _ _ hk6
    have HOu : Hid (One wu (.slice (some ⟨g3, 0, none⟩) 1 c3) ⟨a, false, t⟩) := by unfold Hid; rw [hwu]; exact (HOs.out.set_other _ _ hk3).set_other _ _ hk3
    have U0 : wu.cell? ⟨Bm, 0, none⟩ = some (.int .i64 d) := by rw [hwu]; exact (World.cell?_setCell_other _ _ _ _ (by intro e; injection e with e _; exact hmk e.symm)).trans ((World.cell?_setCell_other _ _ _ _ (by intro e; injection e with e _; exact hmk e.symm)).trans M0)
    have U1 : wu.cell? ⟨Bm, 1, none⟩ = some (.slice (some ⟨g3, 0, none⟩) 1 c3) := by rw [hwu]; exact (World.cell?_setCell_other _ _ _ _ (by intro e; injection e with e _; exact hmk e.symm)).trans ((World.cell?_setCell_other _ _ _ _ (by intro e; injection e with e _; exact hmk e.symm)).trans M1)
    have UF0 : wu.frozen? ⟨Bm, 0, none⟩ = false := by rw [hwu, World.frozen?_setCell, World.frozen?_setCell]; exact MF0
    have UF1 : wu.frozen? ⟨Bm, 1, none⟩ = false := by rw [hwu, World.frozen?_setCell, World.frozen?_setCell]; exact MF1
    have HBu : Hid (Below w.heap.size w wu) := by unfold Hid; rw [hwu]; exact (HBf.out.setCell (p := ⟨Bk, 0, none⟩) HWk.out _).setCell (p := ⟨Bk, 1, none⟩) HWk.out _
    have hBu : Bm < wu.heap.size := by rw [hwu, World.size_setCell, World.size_setCell]; exact hBm
    have HHK := Lib.hid (holds_one N (.slice (some ⟨g6, 0, none⟩) 1 c6) ⟨a, false, d + t⟩ a wu HKu.out rfl)
    unfold Lc at HHK
    have HWU := Lib.hid hwu
    clear hwu hN hN1 M0 M1 MF0 MF1 HBf hBm HKs HOs HKu hk6 hk3 hmk HWk
    go_wp2_with fail
    rw [← HWU.out]
    clear HWU qk0 qk1 qkF0 qkF1
    refine HHK.out.mono ?_
    rintro e wm ⟨rfl, bx⟩
    have M0 := (bx.cell (p := ⟨Bm, 0, none⟩) hBu).trans U0
    have M1 := (bx.cell (p := ⟨Bm, 1, none⟩) hBu).trans U1
    have MF0 := (bx.frozen (p := ⟨Bm, 0, none⟩) hBu).trans UF0
    have MF1 := (bx.frozen (p := ⟨Bm, 1, none⟩) hBu).trans UF1
    have HOm := Lib.hid (HOu.out.below bx (Nat.le_refl _))
    have HBf := Lib.hid (HBu.out.trans (bx.mono HBu.out.size))
    have hBm := Nat.lt_of_lt_of_le hBu bx.size
    clear bx HHK HOu U0 U1 UF0 UF1 HBu hBu
    go_wp2_with fail
    have HPD := Lib.hid (pass_drop d (.slice (some ⟨g3, 0, none⟩) 1 c3) ⟨a, false, t⟩ (t - d) wm.drew HOm.out (by omega) (by omega) (by omega) (by dsimp only; omega))
    rw [show d + (t - d) = t by omega] at HPD
    unfold Lc at HPD
    refine wp_region_noPanic ?_
    refine wp_region_held_drew (S := fun _ => True) (by kernel_rfl) trivial (fun hHeld => ?_)
    obtain ⟨wd, hwd⟩ : ∃ wd, wd = wm.drew := ⟨_, rfl⟩
    have MD0 : wd.cell? ⟨Bm, 0, none⟩ = some (.int .i64 d) := by rw [hwd]; exact M0
    have MD1 : wd.cell? ⟨Bm, 1, none⟩ = some (.slice (some ⟨g3, 0, none⟩) 1 c3) := by rw [hwd]; exact M1
    rw [← hwd] at HPD ⊢
    have HWD := Lib.hid hwd
    clear hwd
    refine' wpAnyH_take (i := 1) (v := ?v31) rfl (by kernel_rfl) (by kernel_rfl) (by kernel_rfl) (fun _ _ _ h => h) (Or.inl ⟨by kernel_rfl, ?hy31⟩) (by assumption) ?rest31
    case hy31 => (intro w hSw; (try dsimp only at hSw); go_simp; try with_reducible rfl)
    try simp only [Act.put, List.setIfInBounds_toArray, List.set_cons_zero, List.set_cons_succ]
    refine' wpAnyH_take (i := 2) (v := ?v32) rfl (by kernel_rfl) (by kernel_rfl) (by kernel_rfl) (fun _ _ _ h => h) (Or.inl ⟨by kernel_rfl, ?hy32⟩) (by assumption) ?rest32
    case hy32 => (intro w hSw; (try dsimp only at hSw); go_simp; try with_reducible rfl)
    try simp only [Act.put, List.setIfInBounds_toArray, List.set_cons_zero, List.set_cons_succ]
    refine wpAnyH_take (i := 3) (v := .int .i64 early) rfl (by kernel_rfl) (by kernel_rfl) (by kernel_rfl) (fun _ _ _ h => h) (Or.inl ⟨by kernel_rfl, ?_⟩) hHeld ?_
    · intro w hSw
      go_simp
      first | done | ((try rw [Int.tdiv_eq_ediv_of_nonneg (by omega)]); (try rw [Int.tmod_eq_emod_of_nonneg (by omega)]); (try rw [IntKind.wrap_i64]); (try omega))
    try simp only [Act.put, List.setIfInBounds_toArray, List.set_cons_zero, List.set_cons_succ]
    refine' wpAnyH_take (i := 4) (v := ?v33) rfl (by kernel_rfl) (by kernel_rfl) (by kernel_rfl) (fun _ _ _ h => h) (Or.inl ⟨by kernel_rfl, ?hy33⟩) (by assumption) ?rest33
    case hy33 => (intro w hSw; (try dsimp only at hSw); go_simp; try with_reducible rfl)
    try simp only [Act.put, List.setIfInBounds_toArray, List.set_cons_zero, List.set_cons_succ]
    refine wpAnyH_take (i := 5) (v := .int .i64 d) rfl (by kernel_rfl) (by kernel_rfl) (by kernel_rfl) (fun _ _ _ h => h) (Or.inl ⟨by kernel_rfl, ?_⟩) hHeld ?_
    · intro w hSw
      go_simp
      first | done | ((try rw [Int.tdiv_eq_ediv_of_nonneg (by omega)]); (try rw [Int.tmod_eq_emod_of_nonneg (by omega)]); (try rw [IntKind.wrap_i64]); (try omega))
    try simp only [Act.put, List.setIfInBounds_toArray, List.set_cons_zero, List.set_cons_succ]
    refine wpAnyH_take (i := 6) (v := .int .i64 (t - d)) rfl (by kernel_rfl) (by kernel_rfl) (by kernel_rfl) (fun _ _ _ h => h) (Or.inl ⟨by kernel_rfl, ?_⟩) hHeld ?_
    · intro w hSw
      go_simp
      first | done | ((try rw [Int.tdiv_eq_ediv_of_nonneg (by omega)]); (try rw [Int.tmod_eq_emod_of_nonneg (by omega)]); (try rw [IntKind.wrap_i64]); (try omega))
    try simp only [Act.put, List.setIfInBounds_toArray, List.set_cons_zero, List.set_cons_succ]
    refine wpAnyH_ready (rs := [0]) (by kernel_rfl) (by simp) ?_
    refine AllReadyH.cons rfl (fun K hK => ?_) AllReadyH.nil
    go_simp
    refine hK.out _ _ trivial (fun hHeld => ?_)
    clear hK K
    try simp only [Act.put, List.setIfInBounds_toArray, List.set_cons_zero, List.set_cons_succ]
    refine wpAnyH_ready (rs := [7]) (by kernel_rfl) (by simp) ?_
    refine AllReadyH.cons rfl (fun K hK => ?_) AllReadyH.nil
    go_simp
    go_at_call 8
    refine HPD.out.mono ?_
    rintro er wn ⟨vn, un, rfl, zn, nn, bn⟩
    rw [HWD.out] at bn
    have hBmd : Bm < wm.drew.heap.size := hBm
    have N0 := (bn.cell (p := ⟨Bm, 0, none⟩) hBmd).trans M0
    have N1 := (bn.cell (p := ⟨Bm, 1, none⟩) hBmd).trans M1
    have NF0 := (bn.frozen (p := ⟨Bm, 0, none⟩) hBmd).trans MF0
    have NF1 := (bn.frozen (p := ⟨Bm, 1, none⟩) hBmd).trans MF1
    have HBn : Hid (Below w.heap.size w wn) := HBf.out.drew.trans (bn.mono HBf.out.drew.size)
    have hBn : Bm < wn.heap.size := Nat.lt_of_lt_of_le hBmd bn.size
    have HZn := Lib.hid zn
    obtain ⟨An, cn, hvn, _, _⟩ := zn
    subst hvn
    have HNn := Lib.hid nn
    obtain ⟨gu, cu, hun, _, hcu, _, hn0⟩ := nn
    subst hun
    have hgu : Bm ≠ gu := fun e => by rw [← e, N0] at hn0; cases hn0
    have hcu9 : cu ≤ 9223372036854775807 := by unfold maxLen at hcu; omega
    clear HWD MD0 MD1 bn M0 M1 MF0 MF1 HBf hBm hBmd HPD HOm hn0 hcu
    go_wp2_with fail
    refine hK.out _ _ trivial (fun hHeld => ?_)
    clear hK K
    try simp only [Act.put, List.setIfInBounds_toArray, List.set_cons_zero, List.set_cons_succ]
    refine' wpAnyH_take (i := 8) (v := ?v34) rfl (by kernel_rfl) (by kernel_rfl) (by kernel_rfl) (fun _ _ _ h => h) (Or.inl ⟨by kernel_rfl, ?hy34⟩) (by assumption) ?rest34
    case hy34 => (intro w hSw; (try dsimp only at hSw); go_simp; try with_reducible rfl)
    try simp only [Act.put, List.setIfInBounds_toArray, List.set_cons_zero, List.set_cons_succ]
    refine' wpAnyH_take (i := 9) (v := ?v35) rfl (by kernel_rfl) (by kernel_rfl) (by kernel_rfl) (fun _ _ _ h => h) (Or.inl ⟨by kernel_rfl, ?hy35⟩) (by assumption) ?rest35
    case hy35 => (intro w hSw; (try dsimp only at hSw); go_simp; try with_reducible rfl)
    try simp only [Act.put, List.setIfInBounds_toArray, List.set_cons_zero, List.set_cons_succ]
    refine' wpAnyH_take (i := 10) (v := ?v36) rfl (by kernel_rfl) (by kernel_rfl) (by kernel_rfl) (fun _ _ _ h => h) (Or.inl ⟨by kernel_rfl, ?hy36⟩) (by assumption) ?rest36
    case hy36 => (intro w hSw; (try dsimp only at hSw); go_simp; try with_reducible rfl)
    try simp only [Act.put, List.setIfInBounds_toArray, List.set_cons_zero, List.set_cons_succ]
    refine wpAnyH_ready (rs := [11]) (by kernel_rfl) (by simp) ?_
    refine AllReadyH.cons rfl (fun K hK => ?_) AllReadyH.nil
    go_simp
    obtain ⟨wo, hwo⟩ : ∃ wo, wo = (wn.setCell ⟨Bm, 0, none⟩ (.int .i64 t)).setCell ⟨Bm, 1, none⟩ (.slice An 0 cn) := ⟨_, rfl⟩
    have O0 : wo.cell? ⟨Bm, 0, none⟩ = some (.int .i64 t) := by
      rw [hwo, World.cell?_setCell_other _ _ _ _ (by intro e; injection e with _ e; cases e)]; exact World.cell?_setCell_same _ _ _ N0
    have O1 : wo.cell? ⟨Bm, 1, none⟩ = some (.slice An 0 cn) := by
      rw [hwo]; exact World.cell?_setCell_same _ _ _ ((World.cell?_setCell_other _ _ _ _ (by intro e; injection e with _ e; cases e)).trans N1)
    have HBo : Hid (Below w.heap.size w wo) := by unfold Hid; rw [hwo]; exact (HBn.out.setCell (p := ⟨Bm, 0, none⟩) HWm.out _).setCell (p := ⟨Bm, 1, none⟩) HWm.out _
    have hBo : Bm < wo.heap.size := by rw [hwo, World.size_setCell, World.size_setCell]; exact hBn
    have HNo : Hid (Num1 wo (.slice (some ⟨gu, 0, none⟩) 1 cu) a) := by
      obtain ⟨g9, c9, e9, m1, m2, m3, m4⟩ := HNn.out
      cases e9
      refine ⟨gu, cu, rfl, m1, m2, by rw [hwo, World.size_setCell, World.size_setCell]; exact m3, ?_⟩
      rw [hwo]
      exact (World.cell?_setCell_other _ _ _ _ (by intro e; injection e with e _; exact hgu e)).trans ((World.cell?_setCell_other _ _ _ _ (by intro e; injection e with e _; exact hgu e)).trans m4)
    rw [← hwo]
    clear hwo N0 N1 NF0 NF1 HBn hBn HNn hgu HWm
    refine hK.out _ _ trivial (fun hHeld => ?_)
    clear hK K
    try simp only [Act.put, List.setIfInBounds_toArray, List.set_cons_zero, List.set_cons_succ]
    refine' wpAnyH_take (i := 12) (v := ?v37) rfl (by kernel_rfl) (by kernel_rfl) (by kernel_rfl) (fun _ _ _ h => h) (Or.inl ⟨by kernel_rfl, ?hy37⟩) (by assumption) ?rest37
    case hy37 => (intro w hSw; (try dsimp only at hSw); go_simp; try with_reducible rfl)
    try simp only [Act.put, List.setIfInBounds_toArray, List.set_cons_zero, List.set_cons_succ]
    refine wpAnyH_done (by kernel_rfl) ?_ _
    refine NoPanic.normal ?_
    have HHZ := Lib.hid (holds_zero t (.slice An 0 cn) a wo HZn.out)
    unfold Lc at HHZ
    go_wp2_with fail
    refine HHZ.out.mono ?_
    rintro e wp ⟨rfl, bp⟩
    have P0 := (bp.cell (p := ⟨Bm, 0, none⟩) hBo).trans O0
    have P1 := (bp.cell (p := ⟨Bm, 1, none⟩) hBo).trans O1
    have HNp := Lib.hid (HNo.out.below bp (Nat.le_refl _))
    have HBp := Lib.hid (HBo.out.trans (bp.mono HBo.out.size))
    have HAZ := Lib.hid (ask_zero t (.slice An 0 cn) b false 1 wp HZn.out (by omega) (by omega) (by decide))
    unfold Lc at HAZ
    clear bp O0 O1 HBo hBo HNo HHZ
    go_wp2_with fail
    refine HAZ.out.mono ?_
    rintro e wr ⟨vr, rfl, or1, br⟩
    have HNr := Lib.hid (HNp.out.below br (Nat.le_refl _))
    have HBr := Lib.hid (HBp.out.trans (br.mono HBp.out.size))
    have hbs : Below wr.heap.size wr (wr.alloc (.cells #[.int .i64 t, vr] 27)) := (Below.refl _ _).alloc (Nat.le_refl _) _
    have HHO2 := Lib.hid (holds_one t vr ⟨b, false, t + 1⟩ b _ (or1.below hbs (Nat.le_refl _)) rfl)
    unfold Lc at HHO2
    have HNs := Lib.hid (HNr.out.below hbs (Nat.le_refl _))
    have HBs := Lib.hid (HBr.out.trans (hbs.mono HBr.out.size))
    obtain ⟨gr, cr, hvr, _, _, _, _, _, _⟩ := or1
    subst hvr
    clear br P0 P1 HNp HBp HAZ hbs HNr HBr HZn
    go_wp2_with fail
    refine HHO2.out.mono ?_
    rintro e wt ⟨rfl, bt⟩
    have HBt := Lib.hid (HBs.out.trans (bt.mono HBs.out.size))
    obtain ⟨g9, c9, e9, _, _, _, u0⟩ := HNs.out.below bt (Nat.le_refl _)
    cases e9
    have haa : ((a.toNat : Int) == (a.toNat : Int)) = true := by simp
    clear bt HBs HNs HHO2
    go_wp2_with fail
    refine (leaAwake_any _).mono ?_
    rintro e wA ⟨rfl, bA⟩
    go_wp2
    go_ret
    exact ⟨rfl, HBt.out.trans (bA.mono HBt.out.size)⟩
  · go_simp
    have hb5 : Below wx.heap.size wx (wx.alloc (.cells #[.int .i64 0, .slice none 0 0] 27)) := (Below.refl _ _).alloc (Nat.le_refl _) _
    obtain ⟨w4, hw4⟩ : ∃ w4, w4 = wx.alloc (.cells #[.int .i64 0, .slice none 0 0] 27) := ⟨_, rfl⟩
    obtain ⟨Bm, hBmE⟩ : ∃ Bm, Bm = wx.heap.size := ⟨_, rfl⟩
    have q4 : w4.heap[Bm]? = some (.cells #[.int .i64 0, .slice none 0 0] 27) := by rw [hw4, hBmE]; exact heap_alloc_new _ _
    have hBm4 : Bm < w4.heap.size := by rw [hw4, hBmE]; simp
    rw [← hw4] at hb5
    rw [← hw4, ← hBmE]
    have hOB : B ≠ Bm := by omega
    have HWm : Hid (w.heap.size ≤ Bm) := by unfold Hid; rw [hBmE]; exact HBx.out.size
    clear hw4 hBmE
    have HOy := Lib.hid (HOx.out.below hb5 (Nat.le_refl _))
    have HBy := Lib.hid (HBx.out.trans (hb5.mono HBx.out.size))
    have Y0 := (hb5.cell (p := ⟨B, 0, none⟩) hBx).trans X0
    have Y1 := (hb5.cell (p := ⟨B, 1, none⟩) hBx).trans X1
    have hBx4 : B < w4.heap.size := Nat.lt_of_lt_of_le hBx hb5.size
    clear hb5 X0 X1 HOx HBx hBx
    refine hK.out _ _ ⟨Y0, Y1⟩ (fun hHeld => ?_)
    clear hK K
    try simp only [Act.put, List.setIfInBounds_toArray, List.set_cons_zero, List.set_cons_succ]
    refine wpAnyH_ready (rs := [5]) (by kernel_rfl) (by simp) ?_
    refine AllReadyH.cons rfl (fun K hK => ?_) AllReadyH.nil
    go_simp
    go_at_call 8
    refine (H3.out _ _ HOy.out).mono ?_
    rintro er w5 ⟨v4, rfl, o4, b4⟩
    have Z0 := (b4.cell (p := ⟨B, 0, none⟩) hBx4).trans Y0
    have Z1 := (b4.cell (p := ⟨B, 1, none⟩) hBx4).trans Y1
    have HB5 := Lib.hid (HBy.out.trans (b4.mono HBy.out.size))
    have HO5 := Lib.hid o4
    have q5 := (b4.block Bm hBm4).trans q4
    have hBm5 := Nat.lt_of_lt_of_le hBm4 b4.size
    obtain ⟨g3, c3, hv4, _, _, _, hcc, _, _⟩ := o4
    subst hv4
    have hgm : Bm ≠ g3 := fun e => by
      rw [← e, (cells2 q5).1] at hcc; cases hcc
    clear b4 Y0 Y1 HOy HBy hBx4 hBm4 q4 hcc
    go_wp2_with fail
    refine hK.out _ _ ⟨Z0, Z1⟩ (fun hHeld => ?_)
    clear hK K
    try simp only [Act.put, List.setIfInBounds_toArray, List.set_cons_zero, List.set_cons_succ]
    refine' wpAnyH_take (i := 6) (v := ?v38) rfl (by kernel_rfl) (by kernel_rfl) (by kernel_rfl) (fun _ _ _ h => h) (Or.inl ⟨by kernel_rfl, ?hy38⟩) (by assumption) ?rest38
    case hy38 => (intro w hSw; (try dsimp only at hSw); go_simp; try with_reducible rfl)
    try simp only [Act.put, List.setIfInBounds_toArray, List.set_cons_zero, List.set_cons_succ]
    refine' wpAnyH_take (i := 7) (v := ?v39) rfl (by kernel_rfl) (by kernel_rfl) (by kernel_rfl) (fun _ _ _ h => h) (Or.inl ⟨by kernel_rfl, ?hy39⟩) (by assumption) ?rest39
    case hy39 => (intro w hSw; (try dsimp only at hSw); go_simp; try with_reducible rfl)
    try simp only [Act.put, List.setIfInBounds_toArray, List.set_cons_zero, List.set_cons_succ]
    refine' wpAnyH_take (i := 8) (v := ?v40) rfl (by kernel_rfl) (by kernel_rfl) (by kernel_rfl) (fun _ _ _ h => h) (Or.inl ⟨by kernel_rfl, ?hy40⟩) (by assumption) ?rest40
    case hy40 => (intro w hSw; (try dsimp only at hSw); go_simp; try with_reducible rfl)
    try simp only [Act.put, List.setIfInBounds_toArray, List.set_cons_zero, List.set_cons_succ]
    obtain ⟨q50, q51, q5F⟩ := cells2 q5
    refine wpAnyH_ready (rs := [10]) (by kernel_rfl) (by simp) ?_
    refine AllReadyH.cons rfl (fun K hK => ?_) AllReadyH.nil
    have q5F0 := q5F 0
    have q5F1 := q5F 1
    go_simp
    obtain ⟨wf, hwf⟩ : ∃ wf, wf = (w5.setCell ⟨Bm, 0, none⟩ (.int .i64 d)).setCell ⟨Bm, 1, none⟩ (.slice (some ⟨g3, 0, none⟩) 1 c3) := ⟨_, rfl⟩
    have M0 : wf.cell? ⟨Bm, 0, none⟩ = some (.int .i64 d) := by
      rw [hwf, World.cell?_setCell_other _ _ _ _ (by intro e; injection e with _ e; cases e)]; exact World.cell?_setCell_same _ _ _ q50
    have M1 : wf.cell? ⟨Bm, 1, none⟩ = some (.slice (some ⟨g3, 0, none⟩) 1 c3) := by
      rw [hwf]; exact World.cell?_setCell_same _ _ _ ((World.cell?_setCell_other _ _ _ _ (by intro e; injection e with _ e; cases e)).trans q51)
    have MF0 : wf.frozen? ⟨Bm, 0, none⟩ = false := by rw [hwf, World.frozen?_setCell, World.frozen?_setCell]; exact q5F0
    have MF1 : wf.frozen? ⟨Bm, 1, none⟩ = false := by rw [hwf, World.frozen?_setCell, World.frozen?_setCell]; exact q5F1
    have HBf : Hid (Below w.heap.size w wf) := by unfold Hid; rw [hwf]; exact (HB5.out.setCell (p := ⟨Bm, 0, none⟩) HWm.out _).setCell (p := ⟨Bm, 1, none⟩) HWm.out _
    have hBm : Bm < wf.heap.size := by rw [hwf, World.size_setCell, World.size_setCell]; exact hBm5
    have HOf : Hid (One wf (.slice (some ⟨g3, 0, none⟩) 1 c3) ⟨a, false, t⟩) := by unfold Hid; rw [hwf]; exact (HO5.out.set_other _ _ hgm).set_other _ _ hgm
    have Zf0 : wf.cell? ⟨B, 0, none⟩ = some (.int .i64 0) := by rw [hwf]; exact (World.cell?_setCell_other _ _ _ _ (by intro e; injection e with e _; exact hOB e.symm)).trans ((World.cell?_setCell_other _ _ _ _ (by intro e; injection e with e _; exact hOB e.symm)).trans Z0)
    have Zf1 : wf.cell? ⟨B, 1, none⟩ = some (.slice (some ⟨g1, 0, none⟩) 1 c1) := by rw [hwf]; exact (World.cell?_setCell_other _ _ _ _ (by intro e; injection e with e _; exact hOB e.symm)).trans ((World.cell?_setCell_other _ _ _ _ (by intro e; injection e with e _; exact hOB e.symm)).trans Z1)
    rw [← hwf]
    clear hwf q5 q50 q51 q5F q5F0 q5F1 Z0 Z1 HB5 HO5 hBm5 hgm
    refine hK.out _ _ ⟨Zf0, Zf1⟩ (fun hHeld => ?_)
    clear hK K
    try simp only [Act.put, List.setIfInBounds_toArray, List.set_cons_zero, List.set_cons_succ]
    refine' wpAnyH_take (i := 11) (v := ?v41) rfl (by kernel_rfl) (by kernel_rfl) (by kernel_rfl) (fun _ _ _ h => h) (Or.inl ⟨by kernel_rfl, ?hy41⟩) (by assumption) ?rest41
    case hy41 => (intro w hSw; (try dsimp only at hSw); go_simp; try with_reducible rfl)
    try simp only [Act.put, List.setIfInBounds_toArray, List.set_cons_zero, List.set_cons_succ]
    refine wpAnyH_done (by kernel_rfl) ?_ _
    refine NoPanic.normal ?_
    clear Zf0 Zf1 hHeld hOB H3
    have HHO := Lib.hid (holds_one d (.slice (some ⟨g3, 0, none⟩) 1 c3) ⟨a, false, t⟩ a wf HOf.out rfl)
    unfold Lc at HHO
    go_wp2_with fail
    refine HHO.out.mono ?_
    rintro e wk ⟨rfl, bm⟩
    replace M0 := (bm.cell (p := ⟨Bm, 0, none⟩) hBm).trans M0
    replace M1 := (bm.cell (p := ⟨Bm, 1, none⟩) hBm).trans M1
    replace MF0 := (bm.frozen (p := ⟨Bm, 0, none⟩) hBm).trans MF0
    replace MF1 := (bm.frozen (p := ⟨Bm, 1, none⟩) hBm).trans MF1
    replace HBf := Lib.hid (HBf.out.trans (bm.mono HBf.out.size))
    replace hBm := Nat.lt_of_lt_of_le hBm bm.size
    have HOk := Lib.hid (HOf.out.below bm (Nat.le_refl _))
    clear bm HHO HOf
    have HRN := Lib.hid (renew_one d (.slice (some ⟨g3, 0, none⟩) 1 c3) ⟨a, false, t⟩ a t wk HOk.out rfl (by omega) (by omega) (by omega))
    unfold Lc at HRN
    go_wp2_with fail
    refine HRN.out.mono ?_
    rintro e wq ⟨vq, rfl, oq, bq⟩
    replace M0 := (bq.cell (p := ⟨Bm, 0, none⟩) hBm).trans M0
    replace M1 := (bq.cell (p := ⟨Bm, 1, none⟩) hBm).trans M1
    replace MF0 := (bq.frozen (p := ⟨Bm, 0, none⟩) hBm).trans MF0
    replace MF1 := (bq.frozen (p := ⟨Bm, 1, none⟩) hBm).trans MF1
    replace HBf := Lib.hid (HBf.out.trans (bq.mono HBf.out.size))
    replace hBm := Nat.lt_of_lt_of_le hBm bq.size
    have HOq := Lib.hid (HOk.out.below bq (Nat.le_refl _))
    have HKq := Lib.hid oq
    obtain ⟨gq, cq, hvq, _, _, _, _, _, _⟩ := oq
    subst hvq
    clear bq HRN HOk
    have hba : Below wq.heap.size wq (wq.alloc (.cells #[.int .i64 d, .slice (some ⟨gq, 0, none⟩) 1 cq] 27)) := (Below.refl _ _).alloc (Nat.le_refl _) _
    obtain ⟨wr, hwr⟩ : ∃ wr, wr = wq.alloc (.cells #[.int .i64 d, .slice (some ⟨gq, 0, none⟩) 1 cq] 27) := ⟨_, rfl⟩
    obtain ⟨Bk, hBk⟩ : ∃ Bk, Bk = wq.heap.size := ⟨_, rfl⟩
    have qk : wr.heap[Bk]? = some (.cells #[.int .i64 d, .slice (some ⟨gq, 0, none⟩) 1 cq] 27) := by rw [hwr, hBk]; exact heap_alloc_new _ _
    have hBkr : Bk < wr.heap.size := by rw [hwr, hBk]; simp
    rw [← hwr] at hba
    have hmk : Bm ≠ Bk := by omega
    have HWk : Hid (w.heap.size ≤ Bk) := by unfold Hid; rw [hBk]; exact HBf.out.size
    replace M0 := (hba.cell (p := ⟨Bm, 0, none⟩) hBm).trans M0
    replace M1 := (hba.cell (p := ⟨Bm, 1, none⟩) hBm).trans M1
    replace MF0 := (hba.frozen (p := ⟨Bm, 0, none⟩) hBm).trans MF0
    replace MF1 := (hba.frozen (p := ⟨Bm, 1, none⟩) hBm).trans MF1
    replace HBf := Lib.hid (HBf.out.trans (hba.mono HBf.out.size))
    replace hBm := Nat.lt_of_lt_of_le hBm hba.size
    have HOr := Lib.hid (HOq.out.below hba (Nat.le_refl _))
    have HKr := Lib.hid (HKq.out.below hba (Nat.le_refl _))
    have HPK := Lib.hid (pass_keep d (.slice (some ⟨gq, 0, none⟩) 1 cq) ⟨a, false, d + t⟩ (t - 1) wr HKr.out (by omega) (by omega) (by omega) (by dsimp only; omega))
    unfold Lc at HPK
    have HWR := Lib.hid hwr
    have HBK := Lib.hid hBk
    clear hba HOq HKq hwr hBk
    go_wp2_with fail
    rw [← HWR.out, ← HBK.out]
    clear HWR HBK
    refine HPK.out.mono ?_
    rintro e ws ⟨vs, rfl, os, bs⟩
    replace M0 := (bs.cell (p := ⟨Bm, 0, none⟩) hBm).trans M0
    replace M1 := (bs.cell (p := ⟨Bm, 1, none⟩) hBm).trans M1
    replace MF0 := (bs.frozen (p := ⟨Bm, 0, none⟩) hBm).trans MF0
    replace MF1 := (bs.frozen (p := ⟨Bm, 1, none⟩) hBm).trans MF1
    replace HBf := Lib.hid (HBf.out.trans (bs.mono HBf.out.size))
    replace hBm := Nat.lt_of_lt_of_le hBm bs.size
    have HOs := Lib.hid (HOr.out.below bs (Nat.le_refl _))
    have HKs := Lib.hid os
    have qks := (bs.block Bk hBkr).trans qk
    have hBks := Nat.lt_of_lt_of_le hBkr bs.size
    obtain ⟨g6, c6, hv6, _, _, _, h60, _, _⟩ := os
    subst hv6
    obtain ⟨qk0, qk1, qkF⟩ := cells2 qks
    have qkF0 := qkF 0
    have qkF1 := qkF 1
    have hk6 : Bk ≠ g6 := fun e => by
      rw [← e, qk0] at h60; cases h60
    have hk3 : Bk ≠ g3 := fun e => by
      obtain ⟨g', c', e', _, _, _, h', _, _⟩ := HOs.out
      cases e'
      rw [← e, qk0] at h'; cases h'
    clear bs HPK HKr HOr qk qks hBkr h60 qkF
    obtain ⟨N, hN⟩ : ∃ N, N = d + (t - 1) := ⟨_, rfl⟩
    have hN1 : d + t - 1 = N := by omega
    rw [← hN]
    obtain ⟨wu, hwu⟩ : ∃ wu, wu = (ws.setCell ⟨Bk, 0, none⟩ (.int .i64 N)).setCell ⟨Bk, 1, none⟩ (.slice (some ⟨g6, 0, none⟩) 1 c6) := ⟨_, rfl⟩
    have HKu : Hid (One wu (.slice (some ⟨g6, 0, none⟩) 1 c6) ⟨a, false, d + t⟩) := by unfold Hid; rw [hwu]; exact (HKs.out.set_other _ _ hk6).set_other _ _ hk6
    have HOu : Hid (One wu (.slice (some ⟨g3, 0, none⟩) 1 c3) ⟨a, false, t⟩) := by unfold Hid; rw [hwu]; exact (HOs.out.set_other _ _ hk3).set_other _ _ hk3
    have U0 : wu.cell? ⟨Bm, 0, none⟩ = some (.int .i64 d) := by rw [hwu]; exact (World.cell?_setCell_other _ _ _ _ (by intro e; injection e with e _; exact hmk e.symm)).trans ((World.cell?_setCell_other _ _ _ _ (by intro e; injection e with e _; exact hmk e.symm)).trans M0)
    have U1 : wu.cell? ⟨Bm, 1, none⟩ = some (.slice (some ⟨g3, 0, none⟩) 1 c3) := by rw [hwu]; exact (World.cell?_setCell_other _ _ _ _ (by intro e; injection e with e _; exact hmk e.symm)).trans ((World.cell?_setCell_other _ _ _ _ (by intro e; injection e with e _; exact hmk e.symm)).trans M1)
    have UF0 : wu.frozen? ⟨Bm, 0, none⟩ = false := by rw [hwu, World.frozen?_setCell, World.frozen?_setCell]; exact MF0
    have UF1 : wu.frozen? ⟨Bm, 1, none⟩ = false := by rw [hwu, World.frozen?_setCell, World.frozen?_setCell]; exact MF1
    have HBu : Hid (Below w.heap.size w wu) := by unfold Hid; rw [hwu]; exact (HBf.out.setCell (p := ⟨Bk, 0, none⟩) HWk.out _).setCell (p := ⟨Bk, 1, none⟩) HWk.out _
    have hBu : Bm < wu.heap.size := by rw [hwu, World.size_setCell, World.size_setCell]; exact hBm
    have HHK := Lib.hid (holds_one N (.slice (some ⟨g6, 0, none⟩) 1 c6) ⟨a, false, d + t⟩ a wu HKu.out rfl)
    unfold Lc at HHK
    have HWU := Lib.hid hwu
    clear hwu hN hN1 M0 M1 MF0 MF1 HBf hBm HKs HOs HKu hk6 hk3 hmk HWk
    go_wp2_with fail
    rw [← HWU.out]
    clear HWU qk0 qk1 qkF0 qkF1
    refine HHK.out.mono ?_
    rintro e wm ⟨rfl, bx⟩
    have M0 := (bx.cell (p := ⟨Bm, 0, none⟩) hBu).trans U0
    have M1 := (bx.cell (p := ⟨Bm, 1, none⟩) hBu).trans U1
    have MF0 := (bx.frozen (p := ⟨Bm, 0, none⟩) hBu).trans UF0
    have MF1 := (bx.frozen (p := ⟨Bm, 1, none⟩) hBu).trans UF1
    have HOm := Lib.hid (HOu.out.below bx (Nat.le_refl _))
    have HBf := Lib.hid (HBu.out.trans (bx.mono HBu.out.size))
    have hBm := Nat.lt_of_lt_of_le hBu bx.size
    clear bx HHK HOu U0 U1 UF0 UF1 HBu hBu
    go_wp2_with fail
    have HPD := Lib.hid (pass_drop d (.slice (some ⟨g3, 0, none⟩) 1 c3) ⟨a, false, t⟩ (t - d) wm.drew HOm.out (by omega) (by omega) (by omega) (by dsimp only; omega))
    rw [show d + (t - d) = t by omega] at HPD
    unfold Lc at HPD
    refine wp_region_noPanic ?_
    refine wp_region_held_drew (S := fun _ => True) (by kernel_rfl) trivial (fun hHeld => ?_)
    obtain ⟨wd, hwd⟩ : ∃ wd, wd = wm.drew := ⟨_, rfl⟩
    have MD0 : wd.cell? ⟨Bm, 0, none⟩ = some (.int .i64 d) := by rw [hwd]; exact M0
    have MD1 : wd.cell? ⟨Bm, 1, none⟩ = some (.slice (some ⟨g3, 0, none⟩) 1 c3) := by rw [hwd]; exact M1
    rw [← hwd] at HPD ⊢
    have HWD := Lib.hid hwd
    clear hwd
    refine' wpAnyH_take (i := 1) (v := ?v42) rfl (by kernel_rfl) (by kernel_rfl) (by kernel_rfl) (fun _ _ _ h => h) (Or.inl ⟨by kernel_rfl, ?hy42⟩) (by assumption) ?rest42
    case hy42 => (intro w hSw; (try dsimp only at hSw); go_simp; try with_reducible rfl)
    try simp only [Act.put, List.setIfInBounds_toArray, List.set_cons_zero, List.set_cons_succ]
    refine' wpAnyH_take (i := 2) (v := ?v43) rfl (by kernel_rfl) (by kernel_rfl) (by kernel_rfl) (fun _ _ _ h => h) (Or.inl ⟨by kernel_rfl, ?hy43⟩) (by assumption) ?rest43
    case hy43 => (intro w hSw; (try dsimp only at hSw); go_simp; try with_reducible rfl)
    try simp only [Act.put, List.setIfInBounds_toArray, List.set_cons_zero, List.set_cons_succ]
    refine wpAnyH_take (i := 3) (v := .int .i64 early) rfl (by kernel_rfl) (by kernel_rfl) (by kernel_rfl) (fun _ _ _ h => h) (Or.inl ⟨by kernel_rfl, ?_⟩) hHeld ?_
    · intro w hSw
      go_simp
      first | done | ((try rw [Int.tdiv_eq_ediv_of_nonneg (by omega)]); (try rw [Int.tmod_eq_emod_of_nonneg (by omega)]); (try rw [IntKind.wrap_i64]); (try omega))
    try simp only [Act.put, List.setIfInBounds_toArray, List.set_cons_zero, List.set_cons_succ]
    refine' wpAnyH_take (i := 4) (v := ?v44) rfl (by kernel_rfl) (by kernel_rfl) (by kernel_rfl) (fun _ _ _ h => h) (Or.inl ⟨by kernel_rfl, ?hy44⟩) (by assumption) ?rest44
    case hy44 => (intro w hSw; (try dsimp only at hSw); go_simp; try with_reducible rfl)
    try simp only [Act.put, List.setIfInBounds_toArray, List.set_cons_zero, List.set_cons_succ]
    refine wpAnyH_take (i := 5) (v := .int .i64 d) rfl (by kernel_rfl) (by kernel_rfl) (by kernel_rfl) (fun _ _ _ h => h) (Or.inl ⟨by kernel_rfl, ?_⟩) hHeld ?_
    · intro w hSw
      go_simp
      first | done | ((try rw [Int.tdiv_eq_ediv_of_nonneg (by omega)]); (try rw [Int.tmod_eq_emod_of_nonneg (by omega)]); (try rw [IntKind.wrap_i64]); (try omega))
    try simp only [Act.put, List.setIfInBounds_toArray, List.set_cons_zero, List.set_cons_succ]
    refine wpAnyH_take (i := 6) (v := .int .i64 (t - d)) rfl (by kernel_rfl) (by kernel_rfl) (by kernel_rfl) (fun _ _ _ h => h) (Or.inl ⟨by kernel_rfl, ?_⟩) hHeld ?_
    · intro w hSw
      go_simp
      first | done | ((try rw [Int.tdiv_eq_ediv_of_nonneg (by omega)]); (try rw [Int.tmod_eq_emod_of_nonneg (by omega)]); (try rw [IntKind.wrap_i64]); (try omega))
    try simp only [Act.put, List.setIfInBounds_toArray, List.set_cons_zero, List.set_cons_succ]
    refine wpAnyH_ready (rs := [0]) (by kernel_rfl) (by simp) ?_
    refine AllReadyH.cons rfl (fun K hK => ?_) AllReadyH.nil
    go_simp
    refine hK.out _ _ trivial (fun hHeld => ?_)
    clear hK K
    try simp only [Act.put, List.setIfInBounds_toArray, List.set_cons_zero, List.set_cons_succ]
    refine wpAnyH_ready (rs := [7]) (by kernel_rfl) (by simp) ?_
    refine AllReadyH.cons rfl (fun K hK => ?_) AllReadyH.nil
    go_simp
    go_at_call 8
    refine HPD.out.mono ?_
    rintro er wn ⟨vn, un, rfl, zn, nn, bn⟩
    rw [HWD.out] at bn
    have hBmd : Bm < wm.drew.heap.size := hBm
    have N0 := (bn.cell (p := ⟨Bm, 0, none⟩) hBmd).trans M0
    have N1 := (bn.cell (p := ⟨Bm, 1, none⟩) hBmd).trans M1
    have NF0 := (bn.frozen (p := ⟨Bm, 0, none⟩) hBmd).trans MF0
    have NF1 := (bn.frozen (p := ⟨Bm, 1, none⟩) hBmd).trans MF1
    have HBn : Hid (Below w.heap.size w wn) := HBf.out.drew.trans (bn.mono HBf.out.drew.size)
    have hBn : Bm < wn.heap.size := Nat.lt_of_lt_of_le hBmd bn.size
    have HZn := Lib.hid zn
    obtain ⟨An, cn, hvn, _, _⟩ := zn
    subst hvn
    have HNn := Lib.hid nn
    obtain ⟨gu, cu, hun, _, hcu, _, hn0⟩ := nn
    subst hun
    have hgu : Bm ≠ gu := fun e => by rw [← e, N0] at hn0; cases hn0
    have hcu9 : cu ≤ 9223372036854775807 := by unfold maxLen at hcu; omega
    clear HWD MD0 MD1 bn M0 M1 MF0 MF1 HBf hBm hBmd HPD HOm hn0 hcu
    go_wp2_with fail
    refine hK.out _ _ trivial (fun hHeld => ?_)
    clear hK K
    try simp only [Act.put, List.setIfInBounds_toArray, List.set_cons_zero, List.set_cons_succ]
    refine' wpAnyH_take (i := 8) (v := ?v45) rfl (by kernel_rfl) (by kernel_rfl) (by kernel_rfl) (fun _ _ _ h => h) (Or.inl ⟨by kernel_rfl, ?hy45⟩) (by assumption) ?rest45
    case hy45 => (intro w hSw; (try dsimp only at hSw); go_simp; try with_reducible rfl)
    try simp only [Act.put, List.setIfInBounds_toArray, List.set_cons_zero, List.set_cons_succ]
    refine' wpAnyH_take (i := 9) (v := ?v46) rfl (by kernel_rfl) (by kernel_rfl) (by kernel_rfl) (fun _ _ _ h => h) (Or.inl ⟨by kernel_rfl, ?hy46⟩) (by assumption) ?rest46
    case hy46 => (intro w hSw; (try dsimp only at hSw); go_simp; try with_reducible rfl)
    try simp only [Act.put, List.setIfInBounds_toArray, List.set_cons_zero, List.set_cons_succ]
    refine' wpAnyH_take (i := 10) (v := ?v47) rfl (by kernel_rfl) (by kernel_rfl) (by kernel_rfl) (fun _ _ _ h => h) (Or.inl ⟨by kernel_rfl, ?hy47⟩) (by assumption) ?rest47
    case hy47 => (intro w hSw; (try dsimp only at hSw); go_simp; try with_reducible rfl)
    try simp only [Act.put, List.setIfInBounds_toArray, List.set_cons_zero, List.set_cons_succ]
    refine wpAnyH_ready (rs := [11]) (by kernel_rfl) (by simp) ?_
    refine AllReadyH.cons rfl (fun K hK => ?_) AllReadyH.nil
    go_simp
    obtain ⟨wo, hwo⟩ : ∃ wo, wo = (wn.setCell ⟨Bm, 0, none⟩ (.int .i64 t)).setCell ⟨Bm, 1, none⟩ (.slice An 0 cn) := ⟨_, rfl⟩
    have O0 : wo.cell? ⟨Bm, 0, none⟩ = some (.int .i64 t) := by
      rw [hwo, World.cell?_setCell_other _ _ _ _ (by intro e; injection e with _ e; cases e)]; exact World.cell?_setCell_same _ _ _ N0
    have O1 : wo.cell? ⟨Bm, 1, none⟩ = some (.slice An 0 cn) := by
      rw [hwo]; exact World.cell?_setCell_same _ _ _ ((World.cell?_setCell_other _ _ _ _ (by intro e; injection e with _ e; cases e)).trans N1)
    have HBo : Hid (Below w.heap.size w wo) := by unfold Hid; rw [hwo]; exact (HBn.out.setCell (p := ⟨Bm, 0, none⟩) HWm.out _).setCell (p := ⟨Bm, 1, none⟩) HWm.out _
    have hBo : Bm < wo.heap.size := by rw [hwo, World.size_setCell, World.size_setCell]; exact hBn
    have HNo : Hid (Num1 wo (.slice (some ⟨gu, 0, none⟩) 1 cu) a) := by
      obtain ⟨g9, c9, e9, m1, m2, m3, m4⟩ := HNn.out
      cases e9
      refine ⟨gu, cu, rfl, m1, m2, by rw [hwo, World.size_setCell, World.size_setCell]; exact m3, ?_⟩
      rw [hwo]
      exact (World.cell?_setCell_other _ _ _ _ (by intro e; injection e with e _; exact hgu e)).trans ((World.cell?_setCell_other _ _ _ _ (by intro e; injection e with e _; exact hgu e)).trans m4)
    rw [← hwo]
    clear hwo N0 N1 NF0 NF1 HBn hBn HNn hgu HWm
    refine hK.out _ _ trivial (fun hHeld => ?_)
    clear hK K
    try simp only [Act.put, List.setIfInBounds_toArray, List.set_cons_zero, List.set_cons_succ]
    refine' wpAnyH_take (i := 12) (v := ?v48) rfl (by kernel_rfl) (by kernel_rfl) (by kernel_rfl) (fun _ _ _ h => h) (Or.inl ⟨by kernel_rfl, ?hy48⟩) (by assumption) ?rest48
    case hy48 => (intro w hSw; (try dsimp only at hSw); go_simp; try with_reducible rfl)
    try simp only [Act.put, List.setIfInBounds_toArray, List.set_cons_zero, List.set_cons_succ]
    refine wpAnyH_done (by kernel_rfl) ?_ _
    refine NoPanic.normal ?_
    have HHZ := Lib.hid (holds_zero t (.slice An 0 cn) a wo HZn.out)
    unfold Lc at HHZ
    go_wp2_with fail
    refine HHZ.out.mono ?_
    rintro e wp ⟨rfl, bp⟩
    have P0 := (bp.cell (p := ⟨Bm, 0, none⟩) hBo).trans O0
    have P1 := (bp.cell (p := ⟨Bm, 1, none⟩) hBo).trans O1
    have HNp := Lib.hid (HNo.out.below bp (Nat.le_refl _))
    have HBp := Lib.hid (HBo.out.trans (bp.mono HBo.out.size))
    have HAZ := Lib.hid (ask_zero t (.slice An 0 cn) b false 1 wp HZn.out (by omega) (by omega) (by decide))
    unfold Lc at HAZ
    clear bp O0 O1 HBo hBo HNo HHZ
    go_wp2_with fail
    refine HAZ.out.mono ?_
    rintro e wr ⟨vr, rfl, or1, br⟩
    have HNr := Lib.hid (HNp.out.below br (Nat.le_refl _))
    have HBr := Lib.hid (HBp.out.trans (br.mono HBp.out.size))
    have hbs : Below wr.heap.size wr (wr.alloc (.cells #[.int .i64 t, vr] 27)) := (Below.refl _ _).alloc (Nat.le_refl _) _
    have HHO2 := Lib.hid (holds_one t vr ⟨b, false, t + 1⟩ b _ (or1.below hbs (Nat.le_refl _)) rfl)
    unfold Lc at HHO2
    have HNs := Lib.hid (HNr.out.below hbs (Nat.le_refl _))
    have HBs := Lib.hid (HBr.out.trans (hbs.mono HBr.out.size))
    obtain ⟨gr, cr, hvr, _, _, _, _, _, _⟩ := or1
    subst hvr
    clear br P0 P1 HNp HBp HAZ hbs HNr HBr HZn
    go_wp2_with fail
    refine HHO2.out.mono ?_
    rintro e wt ⟨rfl, bt⟩
    have HBt := Lib.hid (HBs.out.trans (bt.mono HBs.out.size))
    obtain ⟨g9, c9, e9, _, _, _, u0⟩ := HNs.out.below bt (Nat.le_refl _)
    cases e9
    have haa : ((a.toNat : Int) == (a.toNat : Int)) = true := by simp
    clear bt HBs HNs HHO2
    go_wp2_with fail
    refine (leaAwake_any _).mono ?_
    rintro e wA ⟨rfl, bA⟩
    go_wp2
    go_ret
    exact ⟨rfl, HBt.out.trans (bA.mono HBt.out.size)⟩
set_option maxRecDepth 20000 in
set_option maxHeartbeats 1000000 in
theorem ends_same (w : World) (a : UInt64) (n early : Nat) (renew : Bool) :
    Calls Try.prog 3 #[.int .u64 a.toNat, .int .u64 a.toNat, .int .u16 n, .int .u16 early, .bool renew] w fun e w' => e = .returned (.bool true) ∧ Below w.heap.size w w' := by
  have haa : ((a.toNat : Int) == (a.toNat : Int)) = true := by simp
  go_enter Try.func3, Try.ntmps3
  go_wp2_with fail
  refine (leaAwake_any _).mono ?_
  rintro e wA ⟨rfl, bA⟩
  go_wp2
  go_ret
  exact ⟨rfl, bA⟩
theorem leaseEnds_ok (W : World) (x0 : UInt64) (x1 : UInt64) (x2 : UInt16) (x3 : UInt16) (x4 : Bool) :
    Calls Try.prog 3 #[.int .u64 x0.toNat, .int .u64 x1.toNat, .int .u16 x2.toNat, .int .u16 x3.toNat, .bool x4] W fun e w' => e = .returned (.bool true) ∧ Below W.heap.size W w' := by
  by_cases hab : x0 = x1
  · subst hab
    exact ends_same W x0 _ _ x4
  · cases x4 with
    | true => exact ends_true W x0 x1 _ _ x3.toNat_lt hab
    | false => exact ends_false W x0 x1 _ _ x3.toNat_lt hab
end Go.Proofs.Ytffnkgfpbjmkbaa
