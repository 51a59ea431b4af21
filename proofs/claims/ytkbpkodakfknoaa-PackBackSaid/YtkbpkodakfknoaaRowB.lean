/- Bytes that a call owns, told by their cells alone (a conversion's row bears a mark behind its end, so it is no owned row): append of one byte. -/
import Derived.Test.YtkbpkodakfknoaaBuilder
import Derived.Deep.MidRow
import Derived.Lib.ConvBytes
namespace Go.Proofs.Ytkbpkodakfknoaa
open Go.RowKit
set_option linter.unusedVariables false
structure RowB (w : World) (B g cap : Nat) (l : List UInt8) : Prop where
  base : B ≤ g
  lt : g < w.heap.size
  len : l.length ≤ cap
  max : cap ≤ maxLen
  there : w.there g 0 cap
  cells : ∀ j (h : j < l.length), w.cell? ⟨g, j, none⟩ = some (.int .u8 (l[j]).toNat)
theorem RowB.same {w w' : World} {B g cap : Nat} {l : List UInt8} (h : RowB w B g cap l) (hs : w.heap.size ≤ w'.heap.size) (hb : w'.heap[g]? = w.heap[g]?) : RowB w' B g cap l :=
  ⟨h.base, Nat.lt_of_lt_of_le h.lt hs, h.len, h.max, fun j hj => ⟨by rw [World.cell?_of_block (a := ⟨g, 0 + j, none⟩) hb]; exact (h.there j hj).1, by rw [World.frozen?_of_block (a := ⟨g, 0 + j, none⟩) hb]; exact (h.there j hj).2⟩, fun j hj => (World.cell?_of_block (a := ⟨g, j, none⟩) hb).trans (h.cells j hj)⟩
theorem RowB.grown {w w' : World} {B g cap : Nat} {l : List UInt8} {row : Option Nat} (h : RowB w B g cap l) (hg : w.grownBy w' row) (hne : some g ≠ row) : RowB w' B g cap l := h.same hg.size (hg.block g h.lt hne)
theorem RowB.below {w w' : World} {C B g cap : Nat} {l : List UInt8} (h : RowB w B g cap l) (hb : Below C w w') (hg : g < C) : RowB w' B g cap l := h.same hb.size (hb.block g hg)
theorem RowB.alloc {w : World} {B g cap : Nat} {l : List UInt8} (h : RowB w B g cap l) (o : Obj) : RowB (w.alloc o) B g cap l :=
  h.same (by simp) (Lib.alloc_old w o g h.lt)
theorem RowB.at {w : World} {B g cap : Nat} {l : List UInt8} (h : RowB w B g cap l) (j : Nat) (hj : j < l.length) : w.cell? ⟨g, j, none⟩ = some (.int .u8 (l.getD j 0).toNat) := by
  rw [h.cells j hj, List.getD_eq_getElem?_getD, List.getElem?_eq_getElem hj]; rfl
/-- '[]byte(s)' -/
theorem RowB.made (w : World) (s : ByteArray) (hs : s.size ≤ 140737488351232) : ∃ (W2 : World) (cap : Nat), (convert 9 49 (.string s)).run Try.prog w = .ok (.slice (some ⟨w.heap.size, 0, none⟩) s.size cap) W2 ∧ RowB W2 w.heap.size w.heap.size cap s.data.toList ∧ Below w.heap.size w W2 := by
  have hnew := Lib.bytesWorld_at_new w 5 s
  have hge := grownCap_ge w s.size 0 5
  have hsz : (Lib.bytesCells w 5 s).size = grownCap w s.size 0 5 := by simp [Lib.bytesCells]; omega
  refine ⟨_, _, Lib.run_convert_string_bytes w _ _ 5 s Try.underlying9 Try.underlying49 Try.underlying5, ⟨Nat.le_refl _, by rw [Lib.bytesWorld_size]; omega, by simpa using hge, grownCap_le_maxLen w s.size 0 _ (by unfold maxLen; omega), fun j hj => ⟨?_, ?_⟩, fun j hj => ?_⟩, ⟨rfl, rfl, rfl, by rw [Lib.bytesWorld_size]; omega, fun i hi => Lib.bytesWorld_at_old _ _ _ _ hi⟩⟩
  · rw [Nat.zero_add, World.cell?, hnew]
    simp; omega
  · rw [Nat.zero_add]
    simp only [World.frozen?, hnew, Bool.and_eq_false_iff, decide_eq_false_iff_not]
    left; omega
  · rw [Lib.bytesWorld_cell _ _ _ _ (by simpa using hj)]
    simp only [List.getD_eq_getElem?_getD, List.getElem?_eq_getElem hj, Option.getD_some]
theorem RowB.append {P : Program} (w : World) (B g cap : Nat) (l : List UInt8) (t ty e : TypeId) (i : TypeInfo) (ht : P.underlying t = some (.slice e)) (hi : P.info? e = some i) (hz : i.zero = some (.int .u8 0)) (hs : i.size = 1) (hby : i.bytes = 1)
    (hr : RowB w B g cap l) (b2 c2 : Nat) (c : UInt8) (hc : w.cell? ⟨b2, 0, none⟩ = some (.int .u8 c.toNat)) (hn : l.length + 1 ≤ 140737488351232) (hB : B ≤ w.heap.size) :
    ∃ g' cap' w', (Builtin.append_ #[t, t] ty #[.slice (some ⟨g, 0, none⟩) l.length cap, .slice (some ⟨b2, 0, none⟩) 1 c2]).run P w = .ok (.slice (some ⟨g', 0, none⟩) (l.length + 1) cap') w' ∧ RowB w' B g' cap' (l ++ [c]) ∧ w.grownBy w' (some g) := by
  have hnews : ∀ j u, [Value.int .u8 c.toNat][j]? = some u → w.cell? ((⟨b2, 0, none⟩ : Addr).add j) = some u := by
    intro j u hj
    match j, hj with
    | 0, hj => simp at hj; subst hj; simpa [Addr.add] using hc
  have hget : ∀ j (h : j < (l ++ [c]).length), ((l ++ [c])[j]) = if h2 : j < l.length then l[j] else c := by
    intro j h
    by_cases h2 : j < l.length
    · rw [dif_pos h2, List.getElem_append_left h2]
    · rw [dif_neg h2, List.getElem_append_right (by omega)]; simp
  have hll : (l ++ [c]).length = l.length + 1 := by simp
  by_cases hroom : l.length + 1 ≤ cap
  · have hf := run_firstCells_some (P := P) w i.size 1 ⟨b2, 0, none⟩ 1 c2 [.int .u8 c.toNat] (by rw [hs]; rfl) hnews
    have ht0 := hr.there l.length (by omega)
    rw [Nat.zero_add] at ht0
    obtain ⟨x, hx⟩ := Option.isSome_iff_exists.1 ht0.1
    have hst : (storeCells ⟨g, l.length, none⟩ [.int .u8 c.toNat] 0).run P w = .ok () (w.setCell ⟨g, l.length, none⟩ (.int .u8 c.toNat)) := by
      simp only [storeCells, Sem.run_bind, Addr.add_mid, Nat.add_zero]
      rw [run_store P w _ _ _ rfl, hx]
      simp [ht0.2, Result.andThen]
    refine ⟨g, cap, w.setCell ⟨g, l.length, none⟩ (.int .u8 c.toNat), ?_, ⟨hr.base, by rw [World.size_setCell]; exact hr.lt, by rw [hll]; exact hroom, hr.max, fun j hj => ⟨?_, by rw [World.frozen?_setCell]; exact (hr.there j hj).2⟩, fun j hj => ?_⟩, ⟨rfl, rfl, rfl, by simp, fun k hk hne => heap_setCell_other w _ k _ (fun e => hne (by rw [e]))⟩⟩
    · simp [Builtin.append_, run_underlying ht, sizeOf, typeInfo, hi, hs, Builtin.lenOf, hroom, Addr.add_lit]
      rw [hs] at hf
      simp [hf, hst]
    · rw [Nat.zero_add]
      by_cases e : l.length = j
      · subst e; rw [World.cell?_setCell_same _ _ _ hx]; rfl
      · rw [World.cell?_setCell_other _ _ _ _ (by intro e'; injection e' with _ e'; omega)]
        have := (hr.there j hj).1; rw [Nat.zero_add] at this; exact this
    · rw [hget j hj]
      by_cases e : l.length = j
      · subst e; rw [dif_neg (by omega), World.cell?_setCell_same _ _ _ hx]
      · rw [dif_pos (by omega), World.cell?_setCell_other _ _ _ _ (by intro e'; injection e' with _ e'; omega)]
        exact hr.cells j (by omega)
  · have hcap : cap = l.length := by have := hr.len; omega
    have holds : ∀ j v, (Lib.byteCells l)[j]? = some v → w.cell? ((⟨g, 0, none⟩ : Addr).add j) = some v := by
      intro j v hj
      have hjl : j < l.length := by have := (List.getElem?_eq_some_iff.1 hj).1; rwa [Lib.byteCells_length] at this
      rw [Addr.add_mid, Nat.zero_add, hr.cells j hjl, ← hj]
      simp [Lib.byteCells, hjl]
    have hrun := run_append_grow (P := P) w t ty e i (.int .u8 0) ht hi hz ⟨g, 0, none⟩ l.length cap (Lib.byteCells l) (by rw [Lib.byteCells_length, hs]; omega) holds ⟨b2, 0, none⟩ 1 c2 [.int .u8 c.toNat] (by rw [hs]; rfl) hnews (by omega) (by omega) (growslice_fits (by omega) (by rw [hby]; omega))
    have hge := grownCap_ge w (l.length + 1) cap e
    have hmx := grownCap_le_maxLen w (l.length + 1) cap e (by unfold maxLen; omega)
    refine ⟨w.heap.size, _, _, hrun, ?_, ⟨rfl, rfl, rfl, by simp, fun k hk _ => Lib.alloc_old w.drew _ k hk⟩⟩
    generalize hC : ((Lib.byteCells l).toArray ++ [Value.int .u8 c.toNat].toArray ++ Builtin.zeroCells (Value.int .u8 0).cells (grownCap w (l.length + 1) cap e - (l.length + 1))) = C at *
    have hCs : C.size = grownCap w (l.length + 1) cap e := by
      rw [← hC]
      have hz1 : (Value.int IntKind.u8 0).cells.size = 1 := rfl
      simp only [Array.size_append, List.size_toArray, size_zeroCells, hz1, Lib.byteCells_length, List.length_cons, List.length_nil]
      omega
    have hh : (w.drew.alloc (.cells C e)).heap[w.heap.size]? = some (.cells C e (0, 0)) := heap_alloc_new w.drew _
    refine ⟨hB, by simp, by rw [hll]; exact hge, hmx, fun j hj => ⟨?_, Lib.frozen_of_heap hh _⟩, fun j hj => ?_⟩
    · rw [Nat.zero_add, Lib.cell_of_heap hh, Array.getElem?_eq_getElem (by omega)]; rfl
    · rw [Lib.cell_of_heap hh, hget j hj, ← hC, Array.getElem?_append, Array.getElem?_append]
      have s1 : (Lib.byteCells l).toArray.size = l.length := by rw [List.size_toArray, Lib.byteCells_length]
      have s2 : ((Lib.byteCells l).toArray ++ [Value.int .u8 c.toNat].toArray).size = l.length + 1 := by rw [Array.size_append, s1]; rfl
      rw [hll] at hj
      rw [s1, s2, if_pos hj]
      by_cases e2 : j < l.length
      · rw [if_pos e2, dif_pos e2]; simp [Lib.byteCells, e2]
      · rw [if_neg e2, dif_neg e2, show j - l.length = 0 by omega]; rfl
theorem RowB.wp {P : Program} {w : World} {ops : Array Oper} {rest : List Oper} {o : Oper} {a : Act} {Q : Exit → Act → World → Prop} (hgd : o.guard = none) (s x : Operand) (t : TypeId)
    (ho : o.op = .call { callee := .builtin .append, args := #[s, x], argTypes := #[t, t] }) (B g cap : Nat) (l : List UInt8) (e : TypeId) (i : TypeInfo) (ht : P.underlying t = some (.slice e)) (hi : P.info? e = some i) (hz : i.zero = some (.int .u8 0)) (hsz : i.size = 1) (hby : i.bytes = 1)
    (hs : a.eval s = .slice (some ⟨g, 0, none⟩) l.length cap) (hr : RowB w B g cap l) (b2 c2 : Nat) (c : UInt8) (hx : a.eval x = .slice (some ⟨b2, 0, none⟩) 1 c2) (hc : w.cell? ⟨b2, 0, none⟩ = some (.int .u8 c.toNat)) (hn : l.length + 1 ≤ 140737488351232) (hB : B ≤ w.heap.size)
    (h : ∀ g' cap' w', RowB w' B g' cap' (l ++ [c]) → w.grownBy w' (some g) → wpList P ops Q rest (a.put o.dst (.slice (some ⟨g', 0, none⟩) (l.length + 1) cap')) w') : wpList P ops Q (o :: rest) a w := by
  refine wpList_plain hgd fun K hK => ?_
  obtain ⟨g', cap', w', hrun, h2, h3⟩ := RowB.append (P := P) w B g cap l t o.type e i ht hi hz hsz hby hr b2 c2 c hc hn hB
  unfold Oper.wp execOp
  simp only [ho, resolve, invoke, builtin, Sem.run_bind, Sem.run_pure, Result.andThen_ok, List.map_toArray, List.map_cons, List.map_nil, hs, hx, hrun]
  exact hK _ _ (h g' cap' w' h2 h3)
end Go.Proofs.Ytkbpkodakfknoaa
