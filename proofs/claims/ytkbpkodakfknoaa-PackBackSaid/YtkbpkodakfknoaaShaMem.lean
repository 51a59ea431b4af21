/- Rows of words in memory. -/
import Derived.Test.YtkbpkodakfknoaaShaRot
import Derived.Test.YtkbpkodakfknoaaStrs
import Derived.Laws.Rows
import Derived.Outline
namespace Go.Proofs.Ytkbpkodakfknoaa
open Go.RowKit
set_option linter.unusedVariables false
def cellsOf (n : Nat) (f : Nat → UInt32) : Array Value := ((List.range n).map fun j => Value.int .u32 (f j).toNat).toArray
def bytesOf (n : Nat) (f : Nat → UInt8) : Array Value := ((List.range n).map fun j => Value.int .u8 (f j).toNat).toArray
theorem cellsOf_size (n : Nat) (f : Nat → UInt32) : (cellsOf n f).size = n := by simp [cellsOf]
theorem bytesOf_size (n : Nat) (f : Nat → UInt8) : (bytesOf n f).size = n := by simp [bytesOf]
theorem cellsOf_get {n j : Nat} (f : Nat → UInt32) (h : j < n) : (cellsOf n f)[j]? = some (.int .u32 (f j).toNat) := by simp [cellsOf, h]
theorem bytesOf_get {n j : Nat} (f : Nat → UInt8) (h : j < n) : (bytesOf n f)[j]? = some (.int .u8 (f j).toNat) := by simp [bytesOf, h]
theorem cellsOf_congr {n : Nat} {f g : Nat → UInt32} (h : ∀ j, j < n → f j = g j) : cellsOf n f = cellsOf n g := by
  unfold cellsOf
  congr 1
  apply List.map_congr_left
  intro j hj
  rw [h j (by simpa using hj)]
def upd (f : Nat → UInt32) (j : Nat) (v : UInt32) (i : Nat) : UInt32 := if i = j then v else f i
theorem cellsOf_set {n j : Nat} (f : Nat → UInt32) (v : UInt32) (h : j < n) : (cellsOf n f).setIfInBounds j (.int .u32 v.toNat) = cellsOf n (upd f j v) := by
  apply Array.ext
  · simp [cellsOf]
  · intro i h1 h2
    rw [Array.getElem_setIfInBounds]
    · by_cases hij : j = i
      · subst hij; simp [cellsOf, upd]
      · have : i ≠ j := fun e => hij e.symm
        simp [cellsOf, upd, hij, this]
    · simpa [cellsOf] using h1
theorem bytesOf_list (b : List UInt8) (n : Nat) (h : b.length = n) : (b.map (fun c => Value.int .u8 c.toNat)).toArray = bytesOf n (fun i => b.getD i 0) := by
  subst h
  apply Array.ext
  · simp [bytesOf]
  · intro i h1 h2
    have hi : i < b.length := by simpa using h1
    simp [bytesOf, hi]
theorem cellsOf_list (b : List UInt32) (n : Nat) (h : b.length = n) : (b.map (fun c => Value.int .u32 c.toNat)).toArray = cellsOf n (fun i => b.getD i 0) := by
  subst h
  apply Array.ext
  · simp [cellsOf]
  · intro i h1 h2
    have hi : i < b.length := by simpa using h1
    simp [cellsOf, hi]
/-- block b is a row -/
def Row (w : World) (b : Nat) (t : TypeId) (cs : Array Value) : Prop := w.heap[b]? = some (.cells cs t (0, 0))
theorem Row.lt {w : World} {b : Nat} {t : TypeId} {cs : Array Value} (h : Row w b t cs) : b < w.heap.size := (Array.getElem?_eq_some_iff.1 h).1
theorem Row.cell {w : World} {b : Nat} {t : TypeId} {n j : Nat} {f : Nat → UInt32} (h : Row w b t (cellsOf n f)) (hj : j < n) : w.cell? ⟨b, j, none⟩ = some (.int .u32 (f j).toNat) := by
  rw [cell_of_row w b j _ _ _ h]; exact cellsOf_get f hj
theorem Row.cellB {w : World} {b : Nat} {t : TypeId} {n j : Nat} {f : Nat → UInt8} (h : Row w b t (bytesOf n f)) (hj : j < n) : w.cell? ⟨b, j, none⟩ = some (.int .u8 (f j).toNat) := by
  rw [cell_of_row w b j _ _ _ h]; exact bytesOf_get f hj
theorem Row.free {w : World} {b : Nat} {t : TypeId} {cs : Array Value} (h : Row w b t cs) (j : Nat) : w.frozen? ⟨b, j, none⟩ = false := frozen_of_row w b j cs t h
theorem Row.set {w : World} {b : Nat} {t : TypeId} {n j : Nat} {f : Nat → UInt32} (h : Row w b t (cellsOf n f)) (v : UInt32) (hj : j < n) : Row (w.setCell ⟨b, j, none⟩ (.int .u32 v.toNat)) b t (cellsOf n (upd f j v)) := by
  unfold Row
  rw [heap_setCell_same w b j _ t _ h, cellsOf_set f v hj]
theorem Row.other {w : World} {b : Nat} {t : TypeId} {cs : Array Value} (h : Row w b t cs) (a : Addr) (v : Value) (hne : b ≠ a.block) : Row (w.setCell a v) b t cs := by
  unfold Row
  rw [heap_setCell_other w a b v hne]; exact h
theorem Row.drew {w : World} {b : Nat} {t : TypeId} {cs : Array Value} (h : Row w b t cs) : Row w.drew b t cs := h
theorem Row.drewN {w : World} {b : Nat} {t : TypeId} {cs : Array Value} (h : Row w b t cs) (n : Nat) : Row (w.drewN n) b t cs := h
theorem Row.below {w w' : World} {b B : Nat} {t : TypeId} {cs : Array Value} (h : Row w b t cs) (hb : Below B w w') (hB : b < B) : Row w' b t cs := (hb.block b hB).trans h
theorem Row.alloc {w : World} {b : Nat} {t : TypeId} {cs : Array Value} (h : Row w b t cs) (o : Obj) : Row (w.alloc o) b t cs := by
  show (w.heap.push o)[b]? = _
  rw [Array.getElem?_push_lt h.lt]
  have h2 : w.heap[b]? = _ := h
  rw [Array.getElem?_eq_getElem h.lt] at h2
  exact h2
theorem row_new (w : World) (t : TypeId) (cs : Array Value) : Row (w.alloc (.cells cs t)) w.heap.size t cs := heap_alloc_new w _
end Go.Proofs.Ytkbpkodakfknoaa
