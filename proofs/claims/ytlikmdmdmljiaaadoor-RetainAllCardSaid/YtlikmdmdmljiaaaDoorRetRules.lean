/- retain.rules: its walk; the rows of numbers. -/
import Derived.Test.YtlikmdmdmljiaaaDoorRetFirst
import Derived.Deep.OwnRows
namespace Go.Proofs.YtlikmdmdmljiaaaDoor
open Go.RowKit Go.Shelf
attribute [local go_sem] Oper.semAt_some
set_option linter.unusedVariables false
set_option linter.unusedSimpArgs false
/-- the rules: bit, number, function, part -/
def rW : Nat → Nat
  | 0 => 2 | 1 => 4 | 2 => 8 | 3 => 16 | _ => 32
def rQ (p : Pol) : Nat → Int
  | 0 => p.b | 1 => p.c | 2 => p.d | 3 => p.e | _ => p.f
def rF : Nat → Nat
  | 0 => 46 | 1 => 47 | 2 => 48 | 3 => 49 | _ => 50
theorem rF_enters (i : Nat) (args : Array Value) (w : World) : (callFunc (rF i) args).run Tryd.prog w = .ok (.enter (rF i) args) w := by
  match i with
  | 0 => exact enters_of Tryd.func46 (by kernel_rfl) rfl args w
  | 1 => exact enters_of Tryd.func47 (by kernel_rfl) rfl args w
  | 2 => exact enters_of Tryd.func48 (by kernel_rfl) rfl args w
  | 3 => exact enters_of Tryd.func49 (by kernel_rfl) rfl args w
  | _ + 4 => exact enters_of Tryd.func50 (by kernel_rfl) rfl args w
theorem rF_any (i : Nat) (x : Mk) (h : okAt x = true) (w : World) : Calls Tryd.prog (rF i) #[.agg #[.string x.1, .int .i64 x.2]] w fun e w' => e = .returned (.int .i64 (partI i x)) ∧ Below w.heap.size w w' := by
  simp [okAt] at h
  match i with
  | 0 => exact hourP_any x.1 x.2 w h.1 h.2
  | 1 => exact dayP_any x.1 x.2 w h.1 h.2
  | 2 => exact weekP_any x.1 x.2 w h.1 h.2
  | 3 => exact monthP_any x.1 x.2 w h.1 h.2
  | _ + 4 => exact yearP_any x.1 x.2 w h.1 h.2
abbrev polV (p : Pol) : Value := .agg #[.int .i64 p.a, .int .i64 p.b, .int .i64 p.c, .int .i64 p.d, .int .i64 p.e, .int .i64 p.f]
/-- block g holds the five rules -/
structure RulS (p : Pol) (g : Nat) (w : World) : Prop where
  c0 : ∀ i, i < 5 → w.cell? ⟨g, i * 3, none⟩ = some (.int .i64 (rW i : Nat))
  c1 : ∀ i, i < 5 → w.cell? ⟨g, i * 3 + 1, none⟩ = some (.int .i64 (rQ p i))
  c2 : ∀ i, i < 5 → w.cell? ⟨g, i * 3 + 2, none⟩ = some (.func (.func (rF i)) #[] #[])
theorem rul_of {p : Pol} {g : Nat} {w : World} (h : w.heap[g]? = some (.cells #[.int .i64 2, .int .i64 p.b, .func (.func 46) #[] #[], .int .i64 4, .int .i64 p.c, .func (.func 47) #[] #[], .int .i64 8, .int .i64 p.d, .func (.func 48) #[] #[], .int .i64 16, .int .i64 p.e, .func (.func 49) #[] #[], .int .i64 32, .int .i64 p.f, .func (.func 50) #[] #[]] 69)) : RulS p g w := by
  refine ⟨fun i hi => ?_, fun i hi => ?_, fun i hi => ?_⟩ <;> (rcases (show i = 0 ∨ i = 1 ∨ i = 2 ∨ i = 3 ∨ i = 4 by omega) with rfl | rfl | rfl | rfl | rfl) <;> (unfold World.cell?; rw [h]; rfl)
theorem heap_alloc_at {w : World} {o : Obj} {b : Nat} (h : b = w.heap.size) : (w.alloc o).heap[b]? = some o := by subst h; exact heap_alloc_new w o
set_option maxRecDepth 20000 in
set_option maxHeartbeats 1000000 in
theorem rules_any (p : Pol) (w : World) : Calls Tryd.prog 35 #[polV p] w fun e w' => ∃ g, e = .returned (.slice (some ⟨g, 0, none⟩) 5 5) ∧ w.heap.size ≤ g ∧ g < w'.heap.size ∧ RulS p g w' ∧ Below w.heap.size w w' := by
  obtain ⟨a, b, c, d, e, f⟩ := p
  unfold polV
  dsimp only
  go_enter Tryd.func35, Tryd.ntmps35
  go_wp2
  go_ret
  refine ⟨_, rfl, ?_, ?_, rul_of (p := ⟨a, b, c, d, e, f⟩) (heap_alloc_at (by simp)), ?_⟩
  · simp
  · simp
  · exact ((Below.refl _ _).alloc (Nat.le_refl _) _).alloc (by simp) _
theorem intInfo : (Tryd.prog.info? 3).map (fun i => (i.zero, i.size, i.bytes)) = some (some (.int .i64 0), 1, 8) := by kernel_rfl
/-- block g holds the numbers ws -/
structure IRow (w : World) (g : Nat) (ws : List Nat) : Prop where
  lt : g < w.heap.size
  cell : ∀ j, j < ws.length → w.cell? ⟨g, j, none⟩ = some (.int .i64 (ws.getD j 0 : Nat))
  free : ∀ j, j < ws.length → w.frozen? ⟨g, j, none⟩ = false
theorem IRow.same {w w' : World} {g : Nat} {ws : List Nat} (h : IRow w g ws) (hs : w.heap.size ≤ w'.heap.size) (hb : w'.heap[g]? = w.heap[g]?) : IRow w' g ws :=
  ⟨Nat.lt_of_lt_of_le h.lt hs, fun j hj => (World.cell?_of_block (a := ⟨g, j, none⟩) hb).trans (h.cell j hj), fun j hj => (World.frozen?_of_block (a := ⟨g, j, none⟩) hb).trans (h.free j hj)⟩
theorem IRow.below {w w' : World} {g : Nat} {ws : List Nat} (h : IRow w g ws) (b : Below w.heap.size w w') : IRow w' g ws := h.same b.size (b.block _ h.lt)
theorem IRow.set {w : World} {g : Nat} {ws : List Nat} (h : IRow w g ws) (j v : Nat) : IRow (w.setCell ⟨g, j, none⟩ (.int .i64 (v : Nat))) g (ws.set j v) :=
  ⟨by rw [World.size_setCell]; exact h.lt, fun i hi => by
    have hi' : i < ws.length := by simpa using hi
    by_cases e : i = j
    · subst e; rw [World.cell?_setCell_same _ _ _ (h.cell i hi')]; simp [List.getD, hi']
    · rw [World.cell?_setCell_other _ _ _ _ (by intro e'; injection e' with _ e'; exact e e'.symm), h.cell i hi']
      simp [List.getD, List.getElem?_set_ne (Ne.symm e)], fun i hi => by rw [World.frozen?_setCell]; exact h.free i (by simpa using hi)⟩
theorem IRow.set_other {w : World} {g g2 : Nat} {ws : List Nat} (h : IRow w g ws) (j : Nat) (v : Value) (hg : g2 ≠ g) : IRow (w.setCell ⟨g2, j, none⟩ v) g ws :=
  h.same (by rw [World.size_setCell]; exact Nat.le_refl _) (Below.heap_setCell _ _ _ _ (fun e => hg e.symm))
theorem IRow.mk0 {w : World} {g n : Nat} {ty : TypeId} (h : w.heap[g]? = some (.cells (madeCells #[.int .i64 0] n) ty)) : IRow w g (List.replicate n 0) := by
  refine ⟨(Array.getElem?_eq_some_iff.1 h).1, fun j hj => ?_, fun j hj => frozen_of_row w g j _ _ h⟩
  have hj' : j < n := by simpa using hj
  unfold World.cell?
  rw [h]
  simp [madeCells, hj', Nat.mod_one]
end Go.Proofs.YtlikmdmdmljiaaaDoor
