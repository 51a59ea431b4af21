/- Rows of cells in memory (own lemmas, after XShaMem). -/
import Derived.Test.YtlikmdmdmljiaaaDoorRetDays
import Derived.Laws.Rows
import Derived.Laws.Tables
import Derived.Outline
namespace Go.Proofs.YtlikmdmdmljiaaaDoor
open Go.RowKit
set_option linter.unusedVariables false
/-- block b is a row -/
def Row (w : World) (b : Nat) (t : TypeId) (cs : Array Value) : Prop := w.heap[b]? = some (.cells cs t (0, 0))
theorem Row.lt {w : World} {b : Nat} {t : TypeId} {cs : Array Value} (h : Row w b t cs) : b < w.heap.size := (Array.getElem?_eq_some_iff.1 h).1
theorem Row.at_ {w : World} {b j : Nat} {t : TypeId} {cs : Array Value} (h : Row w b t cs) : w.cell? ⟨b, j, none⟩ = cs[j]? := cell_of_row w b j _ _ _ h
theorem Row.free {w : World} {b : Nat} {t : TypeId} {cs : Array Value} (h : Row w b t cs) (j : Nat) : w.frozen? ⟨b, j, none⟩ = false := frozen_of_row w b j cs t h
theorem Row.set {w : World} {b j : Nat} {t : TypeId} {cs : Array Value} (h : Row w b t cs) (v : Value) : Row (w.setCell ⟨b, j, none⟩ v) b t (cs.setIfInBounds j v) := by
  unfold Row
  rw [heap_setCell_same w b j _ t _ h]
theorem Row.other {w : World} {b : Nat} {t : TypeId} {cs : Array Value} (h : Row w b t cs) (a : Addr) (v : Value) (hne : b ≠ a.block) : Row (w.setCell a v) b t cs := by
  unfold Row
  rw [heap_setCell_other w a b v hne]; exact h
theorem Row.drew {w : World} {b : Nat} {t : TypeId} {cs : Array Value} (h : Row w b t cs) : Row w.drew b t cs := h
theorem Row.below {w w' : World} {b B : Nat} {t : TypeId} {cs : Array Value} (h : Row w b t cs) (hb : Below B w w') (hB : b < B) : Row w' b t cs := (hb.block b hB).trans h
theorem Row.alloc {w : World} {b : Nat} {t : TypeId} {cs : Array Value} (h : Row w b t cs) (o : Obj) : Row (w.alloc o) b t cs := by
  show (w.heap.push o)[b]? = _
  rw [Array.getElem?_push_lt h.lt]
  have h2 : w.heap[b]? = _ := h
  rw [Array.getElem?_eq_getElem h.lt] at h2
  exact h2
theorem row_new (w : World) (t : TypeId) (cs : Array Value) : Row (w.alloc (.cells cs t)) w.heap.size t cs := heap_alloc_new w _
/-- a day in a row, and what its cells hold -/
structure DtR (B : Nat) (y m d : Int) (w : World) : Prop where
  row : Row w B 42 #[.int .i64 y, .int .i64 m, .int .i64 d]
theorem DtR.cells {B : Nat} {y m d : Int} {w : World} (h : DtR B y m d w) : w.cell? ⟨B, 0, none⟩ = some (.int .i64 y) ∧ w.cell? ⟨B, 1, none⟩ = some (.int .i64 m) ∧ w.cell? ⟨B, 2, none⟩ = some (.int .i64 d) ∧ w.frozen? ⟨B, 0, none⟩ = false ∧ w.frozen? ⟨B, 1, none⟩ = false ∧ w.frozen? ⟨B, 2, none⟩ = false :=
  ⟨h.row.at_, h.row.at_, h.row.at_, h.row.free 0, h.row.free 1, h.row.free 2⟩
theorem DtR.y {B : Nat} {y m d : Int} {w : World} (h : DtR B y m d w) (v : Int) : DtR B v m d (w.setCell ⟨B, 0, none⟩ (.int .i64 v)) := ⟨h.row.set _⟩
theorem DtR.m {B : Nat} {y m d : Int} {w : World} (h : DtR B y m d w) (v : Int) : DtR B y v d (w.setCell ⟨B, 1, none⟩ (.int .i64 v)) := ⟨h.row.set _⟩
theorem DtR.d {B : Nat} {y m d : Int} {w : World} (h : DtR B y m d w) (v : Int) : DtR B y m v (w.setCell ⟨B, 2, none⟩ (.int .i64 v)) := ⟨h.row.set _⟩
end Go.Proofs.YtlikmdmdmljiaaaDoor
