/- Lists of texts in memory: what reads as one, what owns one. -/
import Derived.Test.YtlikmdmdmljiaaaDoorProg
import Derived.Test.YtlikmdmdmljiaaaDoorArgs
import Derived.Test.YtlikmdmdmljiaaaDoorWords
import Derived.Laws.AppendOwn
import Derived.Lib.Hide
import Derived.OwnWalk
namespace Go.Proofs.YtlikmdmdmljiaaaDoor
open Go.RowKit
set_option linter.unusedVariables false
/-- the slice v holds the texts l, in blocks that are there -/
def StrsB (w : World) (v : Value) (l : List ByteArray) : Prop :=
  ∃ A c, v = .slice A l.length c ∧ l.length ≤ c ∧ c ≤ maxLen ∧ (0 < l.length → ∃ b off, A = some ⟨b, off, none⟩ ∧ b < w.heap.size ∧ ∀ j, j < l.length → w.cell? ⟨b, off + j, none⟩ = (l[j]?).map .string)
theorem StrsB.below {w w' : World} {v : Value} {l : List ByteArray} {B : Nat} (h : StrsB w v l) (hb : Below B w w') (hB : w.heap.size ≤ B) : StrsB w' v l := by
  obtain ⟨A, c, h1, h2, h3, h4⟩ := h
  refine ⟨A, c, h1, h2, h3, fun hl => ?_⟩
  obtain ⟨b, off, e1, e2, e3⟩ := h4 hl
  exact ⟨b, off, e1, Nat.lt_of_lt_of_le e2 hb.size, fun j hj => (hb.cell (p := ⟨b, off + j, none⟩) (Nat.lt_of_lt_of_le e2 hB)).trans (e3 j hj)⟩
theorem StrsB.drewN {w : World} {v : Value} {l : List ByteArray} (h : StrsB w v l) (n : Nat) : StrsB (w.drewN n) v l := h
theorem StrsB.cons {w : World} {v : Value} {x : ByteArray} {xs : List ByteArray} (h : StrsB w v (x :: xs)) :
    ∃ b off c, v = .slice (some ⟨b, off, none⟩) (xs.length + 1) c ∧ xs.length + 1 ≤ c ∧ c ≤ maxLen ∧ b < w.heap.size ∧ w.cell? ⟨b, off, none⟩ = some (.string x) ∧ StrsB w (.slice (some ⟨b, off + 1, none⟩) xs.length (c - 1)) xs := by
  obtain ⟨A, c, h1, h2, h3, h4⟩ := h
  obtain ⟨b, off, rfl, e2, e3⟩ := h4 (by simp)
  refine ⟨b, off, c, h1, h2, h3, e2, by simpa using e3 0 (by simp), _, _, rfl, by simp at h2; omega, by omega, fun hl => ⟨b, off + 1, rfl, e2, fun j hj => ?_⟩⟩
  have := e3 (j + 1) (by simp; omega)
  rw [show off + 1 + j = off + (j + 1) by omega, this]
  simp
theorem StrsB.nil {w : World} {v : Value} (h : StrsB w v []) : ∃ A c, v = .slice A 0 c ∧ c ≤ maxLen := by
  obtain ⟨A, c, h1, h2, h3, h4⟩ := h
  exact ⟨A, c, h1, h3⟩
/-- a list of texts that has some: its slice, written out -/
theorem StrsB.at {w : World} {v : Value} {l : List ByteArray} (h : StrsB w v l) (hl : 0 < l.length) :
    ∃ b off c, v = .slice (some ⟨b, off, none⟩) l.length c ∧ l.length ≤ c ∧ c ≤ maxLen ∧ b < w.heap.size ∧ ∀ j (hj : j < l.length), w.cell? ⟨b, off + j, none⟩ = some (.string l[j]) := by
  obtain ⟨A, c, h1, h2, h3, h4⟩ := h
  obtain ⟨b, off, rfl, e2, e3⟩ := h4 hl
  exact ⟨b, off, c, h1, h2, h3, e2, fun j hj => by rw [e3 j hj]; simp [hj]⟩
theorem StrsB.len {w : World} {v : Value} {l : List ByteArray} (h : StrsB w v l) : ∃ A c, v = .slice A l.length c ∧ l.length ≤ c ∧ c ≤ maxLen := by
  obtain ⟨A, c, h1, h2, h3, h4⟩ := h
  exact ⟨A, c, h1, h2, h3⟩
theorem strsB_nil (w : World) : StrsB w (.slice none 0 0) [] := ⟨none, 0, rfl, Nat.le_refl _, by unfold maxLen; omega, fun h => absurd h (by simp)⟩
theorem flat_str : ∀ l : List ByteArray, List.flatMap EStr l = l.map .string
  | [] => rfl
  | b :: l => by rw [List.flatMap_cons, flat_str l]; rfl
theorem StrsB.of_sl {w : World} {A : Option Addr} {n c : Nat} {l : List ByteArray} (h : Sl w A n c 1 (l.flatMap EStr)) (hn : l.length = n) : StrsB w (.slice A n c) l := by
  subst hn
  refine ⟨A, c, rfl, h.le, h.cap, fun hl => ?_⟩
  obtain ⟨b, off, e1, e2, e3⟩ := h.cells hl
  refine ⟨b, off, e1, e2, fun j hj => ?_⟩
  rw [e3 j (by omega), flat_str]
  simp
theorem StrsB.of_owns {w : World} {v : Value} {l : List ByteArray} {B : Nat} (h : w.ownsRow B 9 1 v l.length (l.map .string)) : StrsB w v l := by
  rcases h.2 with ⟨hv, h0⟩ | ⟨g, cap, cur, hv, hb, hg, hn, hm, hc, ht⟩
  · exact ⟨none, 0, by rw [hv, h0], by omega, by unfold maxLen; omega, fun hl => by omega⟩
  · refine ⟨_, cap, hv, hn, hm, fun hl => ⟨g, 0, rfl, ?_, fun j hj => ?_⟩⟩
    · exact (Array.getElem?_eq_some_iff.1 hg).1
    · have := h.cells (g := g) (by rw [hv]; rfl) j (.string l[j]) (by simp [hj])
      rw [add_eq] at this
      rw [this]; simp [hj]
theorem owns_drewN {w : World} {B t k n : Nat} {v : Value} {l : List Value} (m : Nat) (h : w.ownsRow B t k v n l) : (w.drewN m).ownsRow B t k v n l := h
theorem owns_len {w : World} {B t n : Nat} {v : Value} {l : List ByteArray} (h : w.ownsRow B t 1 v n (l.map .string)) : n = l.length := by
  have := h.1
  simpa using this.symm
theorem strInfo : (Tryd.prog.info? 9).map (fun i => (i.zero, i.size, i.bytes)) = some (some (.string ByteArray.empty), 1, 16) := by kernel_rfl
theorem below_then {W a b : World} (h : Below W.heap.size W a) (k : Below a.heap.size a b) : Below W.heap.size W b := h.trans (k.mono h.size)
theorem take_succ_list {α : Type} (l : List α) (k : Nat) (h : k < l.length) : l.take (k + 1) = l.take k ++ [l[k]] := by
  rw [List.take_succ_eq_append_getElem h]
end Go.Proofs.YtlikmdmdmljiaaaDoor
