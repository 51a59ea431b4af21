/- lease: change, Renew, Turn at any locks. -/
import Derived.Test.YtffnkgfpbjmkbaaLkRel
namespace Go.Proofs.Ytffnkgfpbjmkbaa
open Go.RowKit
set_option linter.unusedVariables false
set_option linter.unusedSimpArgs false
theorem lkC_setu (u : Int) : ∀ (l : List Lk) (i : Nat) (h : i < l.length), (lkC l).set (i * 3 + 2) (.int .i64 u) = lkC (l.set i ⟨l[i].o, l[i].s, u⟩)
  | x :: l, 0, _ => by simp [lkC_cons]
  | x :: l, i + 1, h => by
    have := lkC_setu u l i (by simpa using h)
    rw [List.set_cons_succ, lkC_cons, lkC_cons, show (i + 1) * 3 + 2 = i * 3 + 2 + 1 + 1 + 1 by omega]
    simp only [List.set_cons_succ, List.getElem_cons_succ]
    rw [this]
theorem lkC_sets (s : Bool) : ∀ (l : List Lk) (i : Nat) (h : i < l.length), (lkC l).set (i * 3 + 1) (.bool s) = lkC (l.set i ⟨l[i].o, s, l[i].u⟩)
  | x :: l, 0, _ => by simp [lkC_cons]
  | x :: l, i + 1, h => by
    have := lkC_sets s l i (by simpa using h)
    rw [List.set_cons_succ, lkC_cons, lkC_cons, show (i + 1) * 3 + 1 = i * 3 + 1 + 1 + 1 + 1 by omega]
    simp only [List.set_cons_succ, List.getElem_cons_succ]
    rw [this]
theorem take_setL {α : Type} (v : α) : ∀ (L : List α) (k m : Nat), (L.set k v).take m = (L.take m).set k v
  | [], _, _ => by simp
  | x :: L, 0, 0 => by simp
  | x :: L, k + 1, 0 => by simp
  | x :: L, 0, m + 1 => by simp
  | x :: L, k + 1, m + 1 => by simp [take_setL v L k m]
theorem RowL.setu {w : World} {g n c : Nat} {l : List Lk} (h : RowL w g n c l) (i : Nat) (hi : i < l.length) (u : Int) : RowL (w.setCell ⟨g, i * 3 + 2, none⟩ (.int .i64 u)) g n c (l.set i ⟨l[i].o, l[i].s, u⟩) := by
  obtain ⟨h1, h2, h3, cur, h4, h5, h6⟩ := h
  refine ⟨by rw [List.length_set]; exact h1, h2, h3, _, heap_set _ _ _ _ _ _ _ h4, by simpa using h5, ?_⟩
  rw [Array.toList_setIfInBounds, take_setL, h6, lkC_setu u l i hi]
theorem RowL.sets {w : World} {g n c : Nat} {l : List Lk} (h : RowL w g n c l) (i : Nat) (hi : i < l.length) (s : Bool) : RowL (w.setCell ⟨g, i * 3 + 1, none⟩ (.bool s)) g n c (l.set i ⟨l[i].o, s, l[i].u⟩) := by
  obtain ⟨h1, h2, h3, cur, h4, h5, h6⟩ := h
  refine ⟨by rw [List.length_set]; exact h1, h2, h3, _, heap_set _ _ _ _ _ _ _ h4, by simpa using h5, ?_⟩
  rw [Array.toList_setIfInBounds, take_setL, h6, lkC_sets s l i hi]
theorem RowL.cell {w : World} {g n c : Nat} {l : List Lk} (h : RowL w g n c l) (i : Nat) (hi : i < l.length) : w.cell? ⟨g, i * 3, none⟩ = some (.int .u64 l[i].o.toNat) ∧ w.cell? ⟨g, i * 3 + 1, none⟩ = some (.bool l[i].s) ∧ w.cell? ⟨g, i * 3 + 2, none⟩ = some (.int .i64 l[i].u) := by
  obtain ⟨A, c', e, _, _, h4⟩ := h.n.1
  cases e
  obtain ⟨b, off, e1, _, e3⟩ := h4 (by omega)
  cases e1
  have := e3 i hi
  simpa using this
theorem RowL.free {w : World} {g n c : Nat} {l : List Lk} (h : RowL w g n c l) : ∀ j, w.frozen? ⟨g, j, none⟩ = false := by
  obtain ⟨_, _, _, cur, h4, _⟩ := h
  exact fun j => frozen_of_row w g j cur _ h4
set_option maxRecDepth 20000 in
set_option maxHeartbeats 2000000 in
theorem renewC_any (g i pl pt : Nat) (now until' ticks : Int) (w : World) (hl : w.cell? ⟨pl, 0, none⟩ = some (.int .i64 now)) (ht : w.cell? ⟨pt, 0, none⟩ = some (.int .i64 ticks)) (hu : w.cell? ⟨g, i * 3 + 2, none⟩ = some (.int .i64 until')) (hf : w.frozen? ⟨g, i * 3 + 2, none⟩ = false) (h0 : 0 ≤ now) (h1 : now ≤ 1000000000000) (h2 : 0 < ticks ∧ ticks ≤ 1000) :
    Calls Try.prog 34 #[.pointer (some ⟨g, i * 3, none⟩), .pointer (some ⟨pl, 0, none⟩), .pointer (some ⟨pt, 0, none⟩)] w fun e w' => e = .returned (.tuple #[]) ∧ w' = w.setCell ⟨g, i * 3 + 2, none⟩ (.int .i64 (now + ticks)) := by
  go_enter Try.func34, Try.ntmps34
  go_wp2
  go_end0
  exact ⟨rfl, rfl⟩
set_option maxRecDepth 20000 in
set_option maxHeartbeats 2000000 in
theorem turnC_any (g i ps : Nat) (s0 s : Bool) (w : World) (hl : w.cell? ⟨ps, 0, none⟩ = some (.bool s)) (hu : w.cell? ⟨g, i * 3 + 1, none⟩ = some (.bool s0)) (hf : w.frozen? ⟨g, i * 3 + 1, none⟩ = false) :
    Calls Try.prog 41 #[.pointer (some ⟨g, i * 3, none⟩), .pointer (some ⟨ps, 0, none⟩)] w fun e w' => e = .returned (.tuple #[]) ∧ w' = w.setCell ⟨g, i * 3 + 1, none⟩ (.bool s) := by
  go_enter Try.func41, Try.ntmps41
  go_wp2
  go_end0
  exact ⟨rfl, rfl⟩
/-- behind a change: the keeper's list is a new row -/
def ChP (bk : Nat) (l' : List Lk) (w w' : World) : Prop := ∃ gc cc, w'.cell? ⟨bk, 1, none⟩ = some (.slice (some ⟨gc, 0, none⟩) l'.length cc) ∧ RowL w' gc l'.length cc l' ∧ w.heap.size ≤ gc ∧ w'.cell? ⟨bk, 0, none⟩ = w.cell? ⟨bk, 0, none⟩ ∧ w.grownBy w' (some bk)
set_option maxRecDepth 20000 in
set_option maxHeartbeats 3000000 in
theorem changeR_any (bk i : Nat) (pl pt : Nat) (now ticks : Int) (v : Value) (l : List Lk) (owner : UInt64) (w : World) (h : LksN w v l) (hr : RisO l) (hlen : l.length ≤ 1000000) (hh : hasO l owner = true) (hi : i = placeO l owner) (hin : i < l.length) (hk : w.cell? ⟨bk, 1, none⟩ = some v) (hfk : w.frozen? ⟨bk, 1, none⟩ = false) (hbk : bk < w.heap.size)
    (hl : w.cell? ⟨pl, 0, none⟩ = some (.int .i64 now)) (hpl : pl < w.heap.size) (hplk : pl ≠ bk) (ht : w.cell? ⟨pt, 0, none⟩ = some (.int .i64 ticks)) (hpt : pt < w.heap.size) (hptk : pt ≠ bk) (h0 : 0 ≤ now) (h1 : now ≤ 1000000000000) (h2 : 0 < ticks ∧ ticks ≤ 1000) :
    Calls Try.prog 33 #[.pointer (some ⟨bk, 0, none⟩), .int .u64 owner.toNat, .func (.func 34) #[] #[.pointer (some ⟨pl, 0, none⟩), .pointer (some ⟨pt, 0, none⟩)]] w fun e w' => e = .returned (.int .i64 0) ∧ ChP bk (l.set i ⟨l[i].o, l[i].s, now + ticks⟩) w w' := by
  have HAT := Lib.hid (atL_any bk v l owner w h.1 hr (by omega) hk)
  rw [hh, ← hi] at HAT
  have HCl := Lib.hid (fun w' (b : Below w.heap.size w w') => cloneL_any v l w' (h.below b (Nat.le_refl _)) (by omega))
  obtain ⟨A, c, rfl, h20, h30, h40⟩ := h.1
  have hc9 : c ≤ 9223372036854775807 := by unfold maxLen at h30; omega
  have hli : (i : Int) < (l.length : Int) := by omega
  have hi0 : (0 : Int) ≤ (i : Int) := by omega
  clear h20 h30 h40 h hi hh hr
  unfold ChP
  rw [List.length_set]
  go_enter Try.func33, Try.ntmps33
  go_wp2_with fail
  refine HAT.out.mono ?_
  rintro e w1 ⟨rfl, b1⟩
  have K1 := (b1.cell (p := ⟨bk, 1, none⟩) hbk).trans hk
  have HB1 := Lib.hid b1
  clear b1 HAT
  go_wp2_with fail
  refine (HCl.out _ HB1.out).mono ?_
  rintro e w2 ⟨vc, rfl, ho, b2⟩
  rcases OwnL.row ho with ⟨_, hl0⟩ | ⟨gc, cc, rfl, hgc, hrow⟩
  · rw [hl0] at hin; simp at hin
  have HB2 : Hid (Below w.heap.size w w2) := HB1.out.trans (b2.mono HB1.out.size)
  have K2 := (HB2.out.cell (p := ⟨bk, 1, none⟩) hbk).trans hk
  have F2 := (HB2.out.frozen (p := ⟨bk, 1, none⟩) hbk).trans hfk
  have L2 := (HB2.out.cell (p := ⟨pl, 0, none⟩) hpl).trans hl
  have T2 := (HB2.out.cell (p := ⟨pt, 0, none⟩) hpt).trans ht
  have hcm := hrow.2.2.1
  have hlc := hrow.2.1
  have hc8 : cc ≤ 9223372036854775807 := by unfold maxLen at hcm; omega
  have hgw : w.heap.size ≤ gc := Nat.le_trans HB1.out.size hgc
  have hgk : gc ≠ bk := by omega
  have hgk' : bk ≠ gc := by omega
  have HR := Lib.hid (renewC_any gc i pl pt now l[i].u ticks (w2.setCell ⟨bk, 1, none⟩ (.slice (some ⟨gc, 0, none⟩) l.length cc)) ((World.cell?_setCell_other _ _ _ _ (by intro e; injection e with e _; exact hplk e.symm)).trans L2) ((World.cell?_setCell_other _ _ _ _ (by intro e; injection e with e _; exact hptk e.symm)).trans T2) ((World.cell?_setCell_other _ _ _ _ (by intro e; injection e with e _; exact hgk' e)).trans (hrow.cell i hin).2.2) (by rw [World.frozen?_setCell]; exact hrow.free _) h0 h1 h2)
  have Q2 : (w2.setCell ⟨bk, 1, none⟩ (.slice (some ⟨gc, 0, none⟩) l.length cc)).cell? ⟨bk, 1, none⟩ = some (.slice (some ⟨gc, 0, none⟩) l.length cc) := World.cell?_setCell_same _ _ _ K2
  have HFIN : Hid (RowL ((w2.setCell ⟨bk, 1, none⟩ (.slice (some ⟨gc, 0, none⟩) l.length cc)).setCell ⟨gc, i * 3 + 2, none⟩ (.int .i64 (now + ticks))) gc l.length cc (l.set i ⟨l[i].o, l[i].s, now + ticks⟩)) := (hrow.set_other hgk).setu i hin (now + ticks)
  have HGR : Hid (w.grownBy ((w2.setCell ⟨bk, 1, none⟩ (.slice (some ⟨gc, 0, none⟩) l.length cc)).setCell ⟨gc, i * 3 + 2, none⟩ (.int .i64 (now + ticks))) (some bk)) := by
    refine ⟨?_, ?_, ?_, ?_, fun i hi hne => ?_⟩
    · exact HB2.out.os
    · exact HB2.out.tape
    · exact HB2.out.output
    · rw [World.size_setCell, World.size_setCell]; exact HB2.out.size
    · rw [heap_setCell_other _ _ i _ (by dsimp only; omega), heap_setCell_other _ _ i _ (by dsimp only; intro e; exact hne (by rw [e]))]
      exact HB2.out.block i hi
  have HK0 : Hid (((w2.setCell ⟨bk, 1, none⟩ (.slice (some ⟨gc, 0, none⟩) l.length cc)).setCell ⟨gc, i * 3 + 2, none⟩ (.int .i64 (now + ticks))).cell? ⟨bk, 0, none⟩ = w.cell? ⟨bk, 0, none⟩) := by
    unfold Hid
    rw [World.cell?_setCell_other _ _ _ _ (by intro e; injection e with e _; exact hgk e), World.cell?_setCell_other _ _ _ _ (by intro e; injection e with _ e; cases e)]
    exact HB2.out.cell (p := ⟨bk, 0, none⟩) hbk
  have HK1 : Hid (((w2.setCell ⟨bk, 1, none⟩ (.slice (some ⟨gc, 0, none⟩) l.length cc)).setCell ⟨gc, i * 3 + 2, none⟩ (.int .i64 (now + ticks))).cell? ⟨bk, 1, none⟩ = some (.slice (some ⟨gc, 0, none⟩) l.length cc)) := by
    unfold Hid
    rw [World.cell?_setCell_other _ _ _ _ (by intro e; injection e with e _; exact hgk e)]
    exact Q2
  clear ho b2 L2 T2 hl ht HB1 HB2 hk hfk K1 HCl hrow hcm
  go_wp2_with fail
  refine HR.out.mono ?_
  rintro e w3 ⟨rfl, rfl⟩
  go_wp2_with fail
  go_ret
  exact ⟨rfl, gc, cc, HK1.out, HFIN.out, hgw, HK0.out, HGR.out⟩
set_option maxRecDepth 20000 in
set_option maxHeartbeats 3000000 in
theorem changeR_none (bk : Nat) (pl pt : Nat) (now ticks : Int) (v : Value) (l : List Lk) (owner : UInt64) (w : World) (h : LksN w v l) (hr : RisO l) (hlen : l.length ≤ 1000000) (hh : hasO l owner = false) (hk : w.cell? ⟨bk, 1, none⟩ = some v) :
    Calls Try.prog 33 #[.pointer (some ⟨bk, 0, none⟩), .int .u64 owner.toNat, .func (.func 34) #[] #[.pointer (some ⟨pl, 0, none⟩), .pointer (some ⟨pt, 0, none⟩)]] w fun e w' => e = .returned (.int .i64 5) ∧ Below w.heap.size w w' := by
  have HAT := Lib.hid (atL_any bk v l owner w h.1 hr (by omega) hk)
  rw [hh] at HAT
  clear hh hr
  go_enter Try.func33, Try.ntmps33
  go_wp2_with fail
  refine HAT.out.mono ?_
  rintro e w1 ⟨rfl, b1⟩
  go_wp2_with fail
  go_ret
  exact ⟨rfl, b1⟩
set_option maxRecDepth 20000 in
set_option maxHeartbeats 3000000 in
theorem changeT_any (bk i : Nat) (ps : Nat) (sh : Bool) (v : Value) (l : List Lk) (owner : UInt64) (w : World) (h : LksN w v l) (hr : RisO l) (hlen : l.length ≤ 1000000) (hh : hasO l owner = true) (hi : i = placeO l owner) (hin : i < l.length) (hk : w.cell? ⟨bk, 1, none⟩ = some v) (hfk : w.frozen? ⟨bk, 1, none⟩ = false) (hbk : bk < w.heap.size)
    (hl : w.cell? ⟨ps, 0, none⟩ = some (.bool sh)) (hpl : ps < w.heap.size) (hplk : ps ≠ bk) :
    Calls Try.prog 33 #[.pointer (some ⟨bk, 0, none⟩), .int .u64 owner.toNat, .func (.func 41) #[] #[.pointer (some ⟨ps, 0, none⟩)]] w fun e w' => e = .returned (.int .i64 0) ∧ ChP bk (l.set i ⟨l[i].o, sh, l[i].u⟩) w w' := by
  have HAT := Lib.hid (atL_any bk v l owner w h.1 hr (by omega) hk)
  rw [hh, ← hi] at HAT
  have HCl := Lib.hid (fun w' (b : Below w.heap.size w w') => cloneL_any v l w' (h.below b (Nat.le_refl _)) (by omega))
  obtain ⟨A, c, rfl, h20, h30, h40⟩ := h.1
  have hc9 : c ≤ 9223372036854775807 := by unfold maxLen at h30; omega
  have hli : (i : Int) < (l.length : Int) := by omega
  have hi0 : (0 : Int) ≤ (i : Int) := by omega
  clear h20 h30 h40 h hi hh hr
  unfold ChP
  rw [List.length_set]
  go_enter Try.func33, Try.ntmps33
  go_wp2_with fail
  refine HAT.out.mono ?_
  rintro e w1 ⟨rfl, b1⟩
  have K1 := (b1.cell (p := ⟨bk, 1, none⟩) hbk).trans hk
  have HB1 := Lib.hid b1
  clear b1 HAT
  go_wp2_with fail
  refine (HCl.out _ HB1.out).mono ?_
  rintro e w2 ⟨vc, rfl, ho, b2⟩
  rcases OwnL.row ho with ⟨_, hl0⟩ | ⟨gc, cc, rfl, hgc, hrow⟩
  · rw [hl0] at hin; simp at hin
  have HB2 : Hid (Below w.heap.size w w2) := HB1.out.trans (b2.mono HB1.out.size)
  have K2 := (HB2.out.cell (p := ⟨bk, 1, none⟩) hbk).trans hk
  have F2 := (HB2.out.frozen (p := ⟨bk, 1, none⟩) hbk).trans hfk
  have L2 := (HB2.out.cell (p := ⟨ps, 0, none⟩) hpl).trans hl
  have hcm := hrow.2.2.1
  have hlc := hrow.2.1
  have hc8 : cc ≤ 9223372036854775807 := by unfold maxLen at hcm; omega
  have hgw : w.heap.size ≤ gc := Nat.le_trans HB1.out.size hgc
  have hgk : gc ≠ bk := by omega
  have hgk' : bk ≠ gc := by omega
  have HR := Lib.hid (turnC_any gc i ps l[i].s sh (w2.setCell ⟨bk, 1, none⟩ (.slice (some ⟨gc, 0, none⟩) l.length cc)) ((World.cell?_setCell_other _ _ _ _ (by intro e; injection e with e _; exact hplk e.symm)).trans L2) ((World.cell?_setCell_other _ _ _ _ (by intro e; injection e with e _; exact hgk' e)).trans (hrow.cell i hin).2.1) (by rw [World.frozen?_setCell]; exact hrow.free _))
  have Q2 : (w2.setCell ⟨bk, 1, none⟩ (.slice (some ⟨gc, 0, none⟩) l.length cc)).cell? ⟨bk, 1, none⟩ = some (.slice (some ⟨gc, 0, none⟩) l.length cc) := World.cell?_setCell_same _ _ _ K2
  have HFIN : Hid (RowL ((w2.setCell ⟨bk, 1, none⟩ (.slice (some ⟨gc, 0, none⟩) l.length cc)).setCell ⟨gc, i * 3 + 1, none⟩ (.bool sh)) gc l.length cc (l.set i ⟨l[i].o, sh, l[i].u⟩)) := (hrow.set_other hgk).sets i hin sh
  have HGR : Hid (w.grownBy ((w2.setCell ⟨bk, 1, none⟩ (.slice (some ⟨gc, 0, none⟩) l.length cc)).setCell ⟨gc, i * 3 + 1, none⟩ (.bool sh)) (some bk)) := by
    refine ⟨?_, ?_, ?_, ?_, fun i hi hne => ?_⟩
    · exact HB2.out.os
    · exact HB2.out.tape
    · exact HB2.out.output
    · rw [World.size_setCell, World.size_setCell]; exact HB2.out.size
    · rw [heap_setCell_other _ _ i _ (by dsimp only; omega), heap_setCell_other _ _ i _ (by dsimp only; intro e; exact hne (by rw [e]))]
      exact HB2.out.block i hi
  have HK0 : Hid (((w2.setCell ⟨bk, 1, none⟩ (.slice (some ⟨gc, 0, none⟩) l.length cc)).setCell ⟨gc, i * 3 + 1, none⟩ (.bool sh)).cell? ⟨bk, 0, none⟩ = w.cell? ⟨bk, 0, none⟩) := by
    unfold Hid
    rw [World.cell?_setCell_other _ _ _ _ (by intro e; injection e with e _; exact hgk e), World.cell?_setCell_other _ _ _ _ (by intro e; injection e with _ e; cases e)]
    exact HB2.out.cell (p := ⟨bk, 0, none⟩) hbk
  have HK1 : Hid (((w2.setCell ⟨bk, 1, none⟩ (.slice (some ⟨gc, 0, none⟩) l.length cc)).setCell ⟨gc, i * 3 + 1, none⟩ (.bool sh)).cell? ⟨bk, 1, none⟩ = some (.slice (some ⟨gc, 0, none⟩) l.length cc)) := by
    unfold Hid
    rw [World.cell?_setCell_other _ _ _ _ (by intro e; injection e with e _; exact hgk e)]
    exact Q2
  clear ho b2 L2 hl HB1 HB2 hk hfk K1 HCl hrow hcm
  go_wp2_with fail
  refine HR.out.mono ?_
  rintro e w3 ⟨rfl, rfl⟩
  go_wp2_with fail
  go_ret
  exact ⟨rfl, gc, cc, HK1.out, HFIN.out, hgw, HK0.out, HGR.out⟩
set_option maxRecDepth 20000 in
set_option maxHeartbeats 3000000 in
theorem changeT_none (bk : Nat) (ps : Nat) (sh : Bool) (v : Value) (l : List Lk) (owner : UInt64) (w : World) (h : LksN w v l) (hr : RisO l) (hlen : l.length ≤ 1000000) (hh : hasO l owner = false) (hk : w.cell? ⟨bk, 1, none⟩ = some v) :
    Calls Try.prog 33 #[.pointer (some ⟨bk, 0, none⟩), .int .u64 owner.toNat, .func (.func 41) #[] #[.pointer (some ⟨ps, 0, none⟩)]] w fun e w' => e = .returned (.int .i64 5) ∧ Below w.heap.size w w' := by
  have HAT := Lib.hid (atL_any bk v l owner w h.1 hr (by omega) hk)
  rw [hh] at HAT
  clear hh hr
  go_enter Try.func33, Try.ntmps33
  go_wp2_with fail
  refine HAT.out.mono ?_
  rintro e w1 ⟨rfl, b1⟩
  go_wp2_with fail
  go_ret
  exact ⟨rfl, b1⟩
end Go.Proofs.Ytffnkgfpbjmkbaa
