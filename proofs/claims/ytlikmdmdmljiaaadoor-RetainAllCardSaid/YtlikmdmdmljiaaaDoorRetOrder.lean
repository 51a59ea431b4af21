/- retain.order: its walk. -/
import Derived.Test.YtlikmdmdmljiaaaDoorRetCmp
import Derived.Deep.RegionHeld3
namespace Go.Proofs.YtlikmdmdmljiaaaDoor
open Go.RowKit Go.Shelf Go.Lib Go.Sort
set_option linter.unusedVariables false
set_option linter.unusedSimpArgs false
def or2 (x y : Int) : Int := if x = 0 then y else x
set_option maxRecDepth 20000 in
set_option maxHeartbeats 1000000 in
theorem or2_any (B : Nat) (x y : Int) (w : World) (c0 : w.cell? ⟨B, 0, none⟩ = some (.int .i64 x)) (c1 : w.cell? ⟨B, 1, none⟩ = some (.int .i64 y)) :
    Calls Tryd.prog 44 #[.slice (some ⟨B, 0, none⟩) 2 2] w fun e w' => e = .returned (.int .i64 (or2 x y)) ∧ ∃ n, w' = w.drewN n := by
  unfold or2
  by_cases hx : x = 0
  · subst hx
    rw [if_pos rfl]
    by_cases hy : y = 0
    · subst hy
      go_enter Tryd.func44, Tryd.ntmps44
      go_wp2
      refine wp_loop_rounds 3 ?_
      rw [rounds_succ]
      go_wp2
      rw [rounds_succ]
      go_wp2
      rw [rounds_succ]
      go_wp2
      go_ret
      exact ⟨rfl, 0, rfl⟩
    · have hb : ((y : Int) != 0) = true := by simpa using hy
      go_enter Tryd.func44, Tryd.ntmps44
      go_wp2
      refine wp_loop_rounds 2 ?_
      rw [rounds_succ]
      go_wp2
      rw [rounds_succ]
      go_wp2
      go_ret
      exact ⟨rfl, 0, rfl⟩
  · rw [if_neg hx]
    have hb : ((x : Int) != 0) = true := by simpa using hx
    go_enter Tryd.func44, Tryd.ntmps44
    go_wp2
    refine wp_loop_rounds 1 ?_
    rw [rounds_succ]
    go_wp2
    go_ret
    exact ⟨rfl, 0, rfl⟩
theorem ordM_or (x y : Mk) : ordM x y = or2 (cmpI y.2 x.2) (cmpS x.1 y.1) := by
  unfold ordM or2 cmpI
  by_cases h1 : y.2 < x.2
  · simp [h1]
  · by_cases h2 : x.2 < y.2
    · simp [h1, h2]
    · simp [h1, h2]
structure OrdS (xn yn : ByteArray) (xa ya : Int) (B : Nat) (w : World) : Prop where
  x : w.heap[B]? = some (.cells #[.string xn, .int .i64 xa] 29)
  y : w.heap[B + 1]? = some (.cells #[.string yn, .int .i64 ya] 29)
theorem OrdS.x0 {xn yn : ByteArray} {xa ya : Int} {B : Nat} {w : World} (h : OrdS xn yn xa ya B w) : w.cell? ⟨B, 0, none⟩ = some (.string xn) := by unfold World.cell?; rw [h.x]; rfl
theorem OrdS.x1 {xn yn : ByteArray} {xa ya : Int} {B : Nat} {w : World} (h : OrdS xn yn xa ya B w) : w.cell? ⟨B, 1, none⟩ = some (.int .i64 xa) := by unfold World.cell?; rw [h.x]; rfl
theorem OrdS.y0 {xn yn : ByteArray} {xa ya : Int} {B : Nat} {w : World} (h : OrdS xn yn xa ya B w) : w.cell? ⟨B + 1, 0, none⟩ = some (.string yn) := by unfold World.cell?; rw [h.y]; rfl
theorem OrdS.y1 {xn yn : ByteArray} {xa ya : Int} {B : Nat} {w : World} (h : OrdS xn yn xa ya B w) : w.cell? ⟨B + 1, 1, none⟩ = some (.int .i64 ya) := by unfold World.cell?; rw [h.y]; rfl
set_option maxRecDepth 20000 in
set_option maxHeartbeats 1000000 in
theorem ord_any (x y : Mk) (W : World) : Calls Tryd.prog 34 #[.agg #[.string x.1, .int .i64 x.2], .agg #[.string y.1, .int .i64 y.2]] W fun e w' => e = .returned (.int .i64 (ordM x y)) ∧ ∃ q os', w' = grow (W.drewN q) os' := by
  rw [ordM_or]
  obtain ⟨xn, xa⟩ := x
  obtain ⟨yn, ya⟩ := y
  dsimp only
  have HS := Lib.hid cmpS_any
  have HI := Lib.hid cmpI_any
  have HO := Lib.hid or2_any
  generalize hci : cmpI ya xa = ci
  generalize hcs : cmpS xn yn = cs
  have HI : Hid (∀ w, Calls Tryd.prog 45 #[.int .i64 ya, .int .i64 xa] w fun e w' => e = .returned (.int .i64 ci) ∧ w = w') := fun w => by rw [← hci]; exact cmpI_any ya xa w
  have HSS : Hid (∀ w, Calls Tryd.prog 25 #[.string xn, .string yn] w fun e w' => e = .returned (.int .i64 cs) ∧ w = w') := fun w => by rw [← hcs]; exact cmpS_any xn yn w
  clear hci hcs
  go_enter Tryd.func34, Tryd.ntmps34
  go_wp2_with fail
  obtain ⟨W1, hW1⟩ : ∃ W1, W1 = (W.alloc (.cells #[.string xn, .int .i64 xa] 29)).alloc (.cells #[.string yn, .int .i64 ya] 29) := ⟨_, rfl⟩
  have HG : Hid (W1.drew = grow (W.drewN 1) #[.cells #[.string xn, .int .i64 xa] 29, .cells #[.string yn, .int .i64 ya] 29]) := by
    unfold Hid; rw [hW1, alloc_eq_grow, alloc_eq_grow, grow_grow, drew_grow]; rfl
  have h1 : W1.heap[W.heap.size]? = some (.cells #[.string xn, .int .i64 xa] 29) := by rw [hW1]; show ((W.heap.push _).push _)[W.heap.size]? = _; simp [Array.getElem?_push]
  have h2 : W1.heap[W.heap.size + 1]? = some (.cells #[.string yn, .int .i64 ya] 29) := by
    have := heap_alloc_new (W.alloc (.cells #[.string xn, .int .i64 xa] 29)) (.cells #[.string yn, .int .i64 ya] 29)
    rw [World.size_alloc, ← hW1] at this
    exact this
  have HS0 : Hid (OrdS xn yn xa ya W.heap.size W1.drew) := ⟨h1, h2⟩
  clear HS
  have HS : Hid (∀ w, Calls Tryd.prog 25 #[.string xn, .string yn] w fun e w' => e = .returned (.int .i64 cs) ∧ w = w') := HSS
  rw [← hW1]
  clear hW1 h1 h2
  generalize W.heap.size = B at *
  refine wp_region_noPanic ?_
  refine wp_region_held_drew (S := OrdS xn yn xa ya B) (by kernel_rfl) HS0.out (fun hHeld => ?_)
  generalize W1.drew = wz at *
  refine' wpAnyH_take (i := 0) (v := ?v1) rfl (by kernel_rfl) (by kernel_rfl) (by kernel_rfl) (fun _ _ _ h => h) (Or.inl ⟨by kernel_rfl, ?hy1⟩) (by assumption) ?rest1
  case hy1 => (intro w hSw; (try dsimp only at hSw); go_simp; try with_reducible rfl)
  try simp only [Act.put, List.setIfInBounds_toArray, List.set_cons_zero, List.set_cons_succ]
  refine' wpAnyH_take (i := 2) (v := ?v2) rfl (by kernel_rfl) (by kernel_rfl) (by kernel_rfl) (fun _ _ _ h => h) (Or.inl ⟨by kernel_rfl, ?hy2⟩) (by assumption) ?rest2
  case hy2 => (intro w hSw; (try dsimp only at hSw); go_simp; try with_reducible rfl)
  try simp only [Act.put, List.setIfInBounds_toArray, List.set_cons_zero, List.set_cons_succ]
  refine' wpAnyH_take (i := 5) (v := ?v3) rfl (by kernel_rfl) (by kernel_rfl) (by kernel_rfl) (fun _ _ _ h => h) (Or.inl ⟨by kernel_rfl, ?hy3⟩) (by assumption) ?rest3
  case hy3 => (intro w hSw; (try dsimp only at hSw); go_simp; try with_reducible rfl)
  try simp only [Act.put, List.setIfInBounds_toArray, List.set_cons_zero, List.set_cons_succ]
  refine' wpAnyH_take (i := 7) (v := ?v4) rfl (by kernel_rfl) (by kernel_rfl) (by kernel_rfl) (fun _ _ _ h => h) (Or.inl ⟨by kernel_rfl, ?hy4⟩) (by assumption) ?rest4
  case hy4 => (intro w hSw; (try dsimp only at hSw); go_simp; try with_reducible rfl)
  try simp only [Act.put, List.setIfInBounds_toArray, List.set_cons_zero, List.set_cons_succ]
  refine wpAnyH_take (i := 1) (v := .int .i64 ya) rfl (by kernel_rfl) (by kernel_rfl) (by kernel_rfl) (fun _ _ _ h => h) (Or.inl ⟨by kernel_rfl, ?_⟩) hHeld ?_
  · intro w hSw
    have hh := hSw.y1
    go_simp
  try simp only [Act.put, List.setIfInBounds_toArray, List.set_cons_zero, List.set_cons_succ]
  refine wpAnyH_take (i := 3) (v := .int .i64 xa) rfl (by kernel_rfl) (by kernel_rfl) (by kernel_rfl) (fun _ _ _ h => h) (Or.inl ⟨by kernel_rfl, ?_⟩) hHeld ?_
  · intro w hSw
    have hh := hSw.x1
    go_simp
  try simp only [Act.put, List.setIfInBounds_toArray, List.set_cons_zero, List.set_cons_succ]
  refine wpAnyH_take (i := 6) (v := .string xn) rfl (by kernel_rfl) (by kernel_rfl) (by kernel_rfl) (fun _ _ _ h => h) (Or.inl ⟨by kernel_rfl, ?_⟩) hHeld ?_
  · intro w hSw
    have hh := hSw.x0
    go_simp
  try simp only [Act.put, List.setIfInBounds_toArray, List.set_cons_zero, List.set_cons_succ]
  refine wpAnyH_take (i := 8) (v := .string yn) rfl (by kernel_rfl) (by kernel_rfl) (by kernel_rfl) (fun _ _ _ h => h) (Or.inl ⟨by kernel_rfl, ?_⟩) hHeld ?_
  · intro w hSw
    have hh := hSw.y0
    go_simp
  try simp only [Act.put, List.setIfInBounds_toArray, List.set_cons_zero, List.set_cons_succ]
  refine wpAnyH_ready (rs := [4]) (by kernel_rfl) (by simp) ?_
  refine AllReadyH.cons rfl (fun K hK => ?_) AllReadyH.nil
  go_simp
  go_at_call 45
  refine (HI.out _).mono ?_
  rintro er w' ⟨rfl, rfl⟩
  go_wp2_with fail
  refine hK.out _ _ HS0.out (fun hHeld => ?_)
  clear hK K
  try simp only [Act.put, List.setIfInBounds_toArray, List.set_cons_zero, List.set_cons_succ]
  refine wpAnyH_ready (rs := [9]) (by kernel_rfl) (by simp) ?_
  refine AllReadyH.cons rfl (fun K hK => ?_) AllReadyH.nil
  go_simp
  go_at_call 25
  refine (HS.out _).mono ?_
  rintro er w' ⟨rfl, rfl⟩
  go_wp2_with fail
  refine hK.out _ _ HS0.out (fun hHeld => ?_)
  clear hK K
  try simp only [Act.put, List.setIfInBounds_toArray, List.set_cons_zero, List.set_cons_succ]
  refine wpAnyH_ready (rs := [10]) (by kernel_rfl) (by simp) ?_
  refine AllReadyH.cons rfl (fun K hK => ?_) AllReadyH.nil
  go_wp2_with fail
  have h0 := HS0.out
  have hs2 : B + 1 < wz.heap.size := (Array.getElem?_eq_some_iff.1 h0.y).1
  have HS1 : Hid (OrdS xn yn xa ya B (wz.alloc (.cells #[.int .i64 ci, .int .i64 cs] 3))) := ⟨(heap_alloc_old wz _ (by omega)).trans h0.x, (heap_alloc_old wz _ hs2).trans h0.y⟩
  refine hK.out _ _ HS1.out (fun hHeld => ?_)
  clear hK K
  try simp only [Act.put, List.setIfInBounds_toArray, List.set_cons_zero, List.set_cons_succ]
  have c0 : (wz.alloc (.cells #[.int .i64 ci, .int .i64 cs] 3)).cell? ⟨wz.heap.size, 0, none⟩ = some (.int .i64 ci) := by unfold World.cell?; rw [heap_alloc_new]; rfl
  have c1 : (wz.alloc (.cells #[.int .i64 ci, .int .i64 cs] 3)).cell? ⟨wz.heap.size, 1, none⟩ = some (.int .i64 cs) := by unfold World.cell?; rw [heap_alloc_new]; rfl
  refine wpAnyH_ready (rs := [11]) (by kernel_rfl) (by simp) ?_
  refine AllReadyH.cons rfl (fun K hK => ?_) AllReadyH.nil
  go_simp
  go_at_call 44
  refine (HO.out _ _ _ _ c0 c1).mono ?_
  rintro er w' ⟨rfl, nq, rfl⟩
  go_wp2_with fail
  refine hK.out _ _ ⟨HS1.out.x, HS1.out.y⟩ (fun hHeld => ?_)
  clear hK K
  try simp only [Act.put, List.setIfInBounds_toArray, List.set_cons_zero, List.set_cons_succ]
  refine wpAnyH_take (i := 12) (v := .int .i64 (or2 ci cs)) rfl (by kernel_rfl) (by kernel_rfl) (by kernel_rfl) (fun _ _ _ h => h) (Or.inl ⟨by kernel_rfl, ?_⟩) hHeld ?_
  · intro w hSw
    go_simp
  refine wpAnyH_done (by kernel_rfl) ?_ _
  refine NoPanic.normal ?_
  go_wp2
  go_ret
  exact ⟨rfl, 1 + nq, _, by rw [HG.out, alloc_eq_grow, grow_grow]; show grow ((W.drewN 1).drewN nq) _ = _; rw [World.drewN_drewN]⟩
end Go.Proofs.YtlikmdmdmljiaaaDoor
