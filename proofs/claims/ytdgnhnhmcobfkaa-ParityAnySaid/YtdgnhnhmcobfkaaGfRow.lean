/- Rows of bytes in memory, told by a function; rows of rows. -/
import Derived.Test.YtdgnhnhmcobfkaaGfMat
import Derived.Test.YtdgnhnhmcobfkaaStrs
import Derived.Deep.MidRow
import Derived.Lib.ConvBytes
import Derived.Outline
namespace Go.Proofs.Ytdgnhnhmcobfkaa
open Go.RowKit
set_option linter.unusedVariables false
theorem grown_refl (w : World) (r : Option Nat) : w.grownBy w r := ⟨rfl, rfl, rfl, Nat.le_refl _, fun _ _ _ => rfl⟩
theorem grown_trans {a b c : World} {r : Option Nat} (h : a.grownBy b r) (k : b.grownBy c r) : a.grownBy c r :=
  ⟨k.os.trans h.os, k.tape.trans h.tape, k.output.trans h.output, Nat.le_trans h.size k.size, fun i hi hn => (k.block i (Nat.lt_of_lt_of_le hi h.size) hn).trans (h.block i hi hn)⟩
theorem grown_of_below {a b : World} (h : Below a.heap.size a b) (r : Option Nat) : a.grownBy b r := ⟨h.os, h.tape, h.output, h.size, fun i hi _ => h.block i hi⟩
theorem grown_set (w : World) (a : Addr) (u : Value) : w.grownBy (w.setCell a u) (some a.block) :=
  ⟨rfl, rfl, rfl, by simp, fun i hi hn => Below.heap_setCell w a u i (fun e => hn (by rw [e]))⟩
def updB (f : Nat → UInt8) (j : Nat) (v : UInt8) (i : Nat) : UInt8 := if i = j then v else f i
/-- block g begins with n bytes f -/
structure FRow (w : World) (g n : Nat) (f : Nat → UInt8) : Prop where
  lt : g < w.heap.size
  cell : ∀ j, j < n → w.cell? ⟨g, j, none⟩ = some (.int .u8 (f j).toNat)
  free : ∀ j, j < n → w.frozen? ⟨g, j, none⟩ = false
theorem FRow.same {w w' : World} {g n : Nat} {f : Nat → UInt8} (h : FRow w g n f) (hs : w.heap.size ≤ w'.heap.size) (hb : w'.heap[g]? = w.heap[g]?) : FRow w' g n f :=
  ⟨Nat.lt_of_lt_of_le h.lt hs, fun j hj => (World.cell?_of_block (a := ⟨g, j, none⟩) hb).trans (h.cell j hj), fun j hj => (World.frozen?_of_block (a := ⟨g, j, none⟩) hb).trans (h.free j hj)⟩
theorem FRow.grown {w w' : World} {g n : Nat} {f : Nat → UInt8} {row : Option Nat} (h : FRow w g n f) (hg : w.grownBy w' row) (hne : some g ≠ row) : FRow w' g n f := h.same hg.size (hg.block g h.lt hne)
theorem FRow.below {w w' : World} {g n : Nat} {f : Nat → UInt8} (h : FRow w g n f) (hb : Below w.heap.size w w') : FRow w' g n f := h.same hb.size (hb.block g h.lt)
theorem FRow.congr {w : World} {g n : Nat} {f f' : Nat → UInt8} (h : FRow w g n f) (he : ∀ j, j < n → f j = f' j) : FRow w g n f' :=
  ⟨h.lt, fun j hj => by rw [← he j hj]; exact h.cell j hj, h.free⟩
theorem FRow.set {w : World} {g n : Nat} {f : Nat → UInt8} (h : FRow w g n f) (j : Nat) (v : UInt8) (hj : j < n) : FRow (w.setCell ⟨g, j, none⟩ (.int .u8 v.toNat)) g n (updB f j v) :=
  ⟨by rw [World.size_setCell]; exact h.lt, fun i hi => by
    by_cases e : i = j
    · subst e; rw [World.cell?_setCell_same _ _ _ (h.cell i hi)]; unfold updB; rw [if_pos rfl]
    · rw [World.cell?_setCell_other _ _ _ _ (by intro e'; injection e' with _ e'; exact e e'.symm)]
      unfold updB; rw [if_neg e]; exact h.cell i hi, fun i hi => by rw [World.frozen?_setCell]; exact h.free i hi⟩
theorem FRow.take {w : World} {g n m : Nat} {f : Nat → UInt8} (h : FRow w g n f) (hm : m ≤ n) : FRow w g m f :=
  ⟨h.lt, fun j hj => h.cell j (Nat.lt_of_lt_of_le hj hm), fun j hj => h.free j (Nat.lt_of_lt_of_le hj hm)⟩
end Go.Proofs.Ytdgnhnhmcobfkaa
