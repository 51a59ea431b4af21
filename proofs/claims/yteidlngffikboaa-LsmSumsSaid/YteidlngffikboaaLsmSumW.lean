/- The law's own variables of LsmSums: the counts and the table. -/
import Derived.Test.YteidlngffikboaaLsmCntP
import Derived.Test.YteidlngffikboaaStructs
import Derived.Test.YteidlngffikboaaLsmPut
namespace Go.Proofs.Yteidlngffikboaa
open Go.RowKit
set_option linter.unusedVariables false
def TabB (B : Nat) (T : List Int) (W : World) : Prop := W.heap[B]? = some (.cells (tabV T) 44)
section
variable {B : Nat} {T : List Int} {W W' : World}
theorem TabB.hlt (h : TabB B T W) : B < W.heap.size := (Array.getElem?_eq_some_iff.1 h).1
theorem TabB.f (h : TabB B T W) (o : Nat) : W.frozen? ⟨B, o, none⟩ = false := by simp [World.frozen?, show W.heap[B]? = _ from h]
theorem TabB.cell (h : TabB B T W) (i : Nat) (hi : i < T.length) : W.cell? ⟨B, i, none⟩ = some (.int .i64 T[i]) := by
  unfold World.cell?
  rw [show W.heap[B]? = _ from h]
  simp [hi]
theorem TabB.below (h : TabB B T W) (hb : Below W.heap.size W W') : TabB B T W' := (hb.block _ h.hlt).trans h
theorem TabB.kept (h : TabB B T W) (hb : W'.heap[B]? = W.heap[B]?) : TabB B T W' := hb.trans h
theorem TabB.set (h : TabB B T W) (i : Nat) (v : Int) : TabB B (T.set i v) (W.setCell ⟨B, i, none⟩ (.int .i64 v)) := by
  obtain ⟨hlt, hk⟩ := Array.getElem?_eq_some_iff.1 (show W.heap[B]? = _ from h)
  show (W.heap.modify B _)[B]? = _
  rw [Array.getElem?_eq_getElem (by rw [Array.size_modify]; exact hlt), Array.getElem_modify_self, hk]
  simp [Array.setIfInBounds]
  split
  · rw [← List.map_set]
  · rw [List.set_eq_of_length_le (by omega)]
theorem TabB.load (h : TabB B T W) (hT : T.length = 256) : (Instr.loadAt 44 (.pointer (some ⟨B, 0, none⟩))).run Try.prog W = .ok (.agg (tabV T)) W := by
  have hi : (Try.prog.info? 44).map (·.size) = some (tabV T).size := by rw [show (tabV T).size = 256 by simp [hT]]; kernel_rfl
  simp only [Instr.loadAt, Instr.sureAddr, Sem.run_bind, Sem.run_pure, Result.andThen]
  exact run_loadVar_row _ _ 44 44 _ (0, 0) _ h (show Try.prog.underlying 44 = some (.array 256 3) by kernel_rfl) rfl hi
end
end Go.Proofs.Yteidlngffikboaa

/- Here ends the text LsmTab; here begins LsmChg. -/
namespace Go.Proofs.Yteidlngffikboaa
open Go.RowKit
set_option linter.unusedVariables false
abbrev Chg := UInt8 × Int × UInt8
abbrev chgC (l : List Chg) : List Value := l.flatMap (ES3 EU8 (EInt .i16) EU8)
theorem chg_get : ∀ (l : List Chg) (i : Nat) (h : i < l.length), (chgC l)[i * 3]? = some (.int .u8 (l[i].1.toNat : Int)) ∧ (chgC l)[i * 3 + 1]? = some (.int .i16 l[i].2.1) ∧ (chgC l)[i * 3 + 2]? = some (.int .u8 (l[i].2.2.toNat : Int))
  | o :: l, 0, _ => ⟨rfl, rfl, rfl⟩
  | o :: l, i + 1, h => by
    have ih := chg_get l i (by simpa using h)
    have e : ∀ k, (chgC (o :: l))[(i + 1) * 3 + k]? = (chgC l)[i * 3 + k]? := fun k => by
      show ([Value.int .u8 (o.1.toNat : Int), .int .i16 o.2.1, .int .u8 (o.2.2.toNat : Int)] ++ chgC l)[(i + 1) * 3 + k]? = _
      rw [List.getElem?_append_right (by simp; omega)]
      congr 1
      simp; omega
    exact ⟨(e 0).trans ih.1, (e 1).trans ih.2.1, (e 2).trans ih.2.2⟩
/-- changes, readable -/
def ChgB (w : World) (v : Value) (l : List Chg) : Prop :=
  ∃ A c, v = .slice A l.length c ∧ l.length ≤ c ∧ c ≤ maxLen ∧ (0 < l.length → ∃ b off, A = some ⟨b, off, none⟩ ∧ b < w.heap.size ∧ ∀ i (h : i < l.length), w.cell? ⟨b, off + i * 3, none⟩ = some (.int .u8 (l[i].1.toNat : Int)) ∧ w.cell? ⟨b, off + i * 3 + 1, none⟩ = some (.int .i16 l[i].2.1) ∧ w.cell? ⟨b, off + i * 3 + 2, none⟩ = some (.int .u8 (l[i].2.2.toNat : Int)))
theorem chg_of_sl {w : World} {A : Option Addr} {n c : Nat} {l : List Chg} (h : Sl w A n c 3 (chgC l)) (hn : l.length = n) : ChgB w (.slice A n c) l := by
  refine ⟨A, c, by rw [hn], by rw [hn]; exact h.le, h.cap, fun hl => ?_⟩
  obtain ⟨b, off, e1, e2, e3⟩ := h.cells (by omega)
  refine ⟨b, off, e1, e2, fun i hi => ?_⟩
  obtain ⟨g1, g2, g3⟩ := chg_get l i hi
  exact ⟨(e3 (i * 3) (by omega)).trans g1, by rw [Nat.add_assoc]; exact (e3 (i * 3 + 1) (by omega)).trans g2, by rw [Nat.add_assoc]; exact (e3 (i * 3 + 2) (by omega)).trans g3⟩
end Go.Proofs.Yteidlngffikboaa

/- Here ends the text LsmChg; here begins LsmSumW. -/
namespace Go.Proofs.Yteidlngffikboaa
open Go.RowKit
set_option linter.unusedVariables false
theorem CntN.offI {w W' : World} {v : Value} {l : List Cnt} {B : Nat} (h : CntN w v l) (hc : ∀ o x, w.cell? ⟨B, o, none⟩ = some x → ∃ k n, x = .int k n) (hk : ∀ k, k ≠ B → W'.heap[k]? = w.heap[k]?) (hs : w.heap.size ≤ W'.heap.size) : CntN W' v l := by
  obtain ⟨⟨A, c, h1, h2, h3, h4⟩, h5⟩ := h
  refine ⟨⟨A, c, h1, h2, h3, fun hl => ?_⟩, h5⟩
  obtain ⟨b, off, e1, e2, e3⟩ := h4 hl
  have hne : b ≠ B := fun e => by
    subst e
    obtain ⟨_, _, hx⟩ := hc _ _ (e3 0 hl).1
    cases hx
  exact ⟨b, off, e1, Nat.lt_of_lt_of_le e2 hs, fun i hi => ⟨(World.cell?_of_block (hk b hne)).trans (e3 i hi).1, (World.cell?_of_block (hk b hne)).trans (e3 i hi).2⟩⟩
theorem RunsN.offI {w W' : World} {v : Value} {l : List (List Cnt)} {B : Nat} (h : RunsN w v l) (hc : ∀ o x, w.cell? ⟨B, o, none⟩ = some x → ∃ k n, x = .int k n) (hk : ∀ k, k ≠ B → W'.heap[k]? = w.heap[k]?) (hs : w.heap.size ≤ W'.heap.size) : RunsN W' v l := by
  obtain ⟨⟨A, c, h1, h2, h3, h4⟩, h5⟩ := h
  refine ⟨⟨A, c, h1, h2, h3, fun hl => ?_⟩, h5⟩
  obtain ⟨b, off, e1, e2, e3⟩ := h4 hl
  have hnb : b ≠ B := fun e => by
    subst e
    obtain ⟨u, k1, k2⟩ := e3 0 hl
    obtain ⟨k, n, hu⟩ := hc _ _ k1
    obtain ⟨A', c', e', _⟩ := k2.1.shape
    rw [hu] at e'
    cases e'
  refine ⟨b, off, e1, Nat.lt_of_lt_of_le e2 hs, fun i hi => ?_⟩
  obtain ⟨u, k1, k2⟩ := e3 i hi
  exact ⟨u, (World.cell?_of_block (hk b hnb)).trans k1, k2.offI hc hk hs⟩
theorem TabB.ints {B : Nat} {T : List Int} {W : World} (h : TabB B T W) (o : Nat) (x : Value) (hx : W.cell? ⟨B, o, none⟩ = some x) : ∃ k n, x = .int k n := by
  by_cases ho : o < T.length
  · rw [h.cell o ho] at hx; cases hx; exact ⟨_, _, rfl⟩
  · unfold World.cell? at hx
    rw [show W.heap[B]? = _ from h] at hx
    simp [ho] at hx
/-- one place of the table turns: the counts stay -/
theorem BoxL.tab {w : World} {B C : Nat} {vm vr : Value} {s : CntS} {W : World} (h : BoxL w B vm vr s W) {T : List Int} (ht : TabB C T W) (hC : w.heap.size ≤ C) (hne : B ≠ C) (i : Nat) (v : Int) :
    BoxL w B vm vr s (W.setCell ⟨C, i, none⟩ (.int .i64 v)) ∧ TabB C (T.set i v) (W.setCell ⟨C, i, none⟩ (.int .i64 v)) := by
  have hk : ∀ k, k ≠ C → (W.setCell ⟨C, i, none⟩ (.int .i64 v)).heap[k]? = W.heap[k]? := fun k hk => Below.heap_setCell _ _ _ _ (by dsimp only; exact hk)
  have hs : W.heap.size ≤ (W.setCell ⟨C, i, none⟩ (.int .i64 v)).heap.size := by rw [World.size_setCell]; exact Nat.le_refl _
  obtain ⟨a, b, e, h1, h2⟩ := h.rows
  exact ⟨⟨(hk B hne).trans h.blk, ⟨a, b, e, h1.offI ht.ints hk hs, h2.offI ht.ints hk hs⟩, h.top, h.low.setCell (p := ⟨C, i, none⟩) hC _, h.le⟩, ht.set i v⟩
end Go.Proofs.Yteidlngffikboaa
