/- One operation at a time, whatever the frame; the policy's growth in place. -/
import Derived.Test.YtlikmdmdmljiaaaDoorRetKeep
import Derived.Test.YtlikmdmdmljiaaaDoorRetIn
namespace Go.Proofs.YtlikmdmdmljiaaaDoor
open Go.RowKit Go.Shelf
set_option linter.unusedVariables false
set_option linter.unusedSimpArgs false
theorem oper_skip {P : Program} {o : Oper} {a : Act} {w w' : World} {K : Act → World → Prop} {Q : Exit → Act → World → Prop} (hrun : (execOp a.eval o).run P w = .ok .skip w') (h : K (a.put o.dst undef) w') : o.wp P a w K Q := by
  unfold Oper.wp
  rw [hrun, Oper.upon_skip]
  exact h
theorem oper_value {P : Program} {o : Oper} {a : Act} {w : World} {K : Act → World → Prop} {Q : Exit → Act → World → Prop} (v : Value) (hrun : (execOp a.eval o).run P w = .ok (.value v) w) (h : K (a.put o.dst v) w) : o.wp P a w K Q := by
  unfold Oper.wp
  rw [hrun, Oper.upon_value]
  exact h
theorem exec_load (ev : Operand → Value) (o : Oper) (t : TypeId) (x : Operand) (ho : o.op = .load t x) (p v : Value) (hx : ev x = p) (w : World) (hl : (Instr.loadAt t p).run Tryd.prog w = .ok v w) : (execOp ev o).run Tryd.prog w = .ok (.value v) w := by
  unfold execOp
  simp only [ho, hx, Sem.run_bind, hl, Result.andThen_ok, Sem.run_pure]
theorem load_int (a : Addr) (x : Int) (w : World) (h : w.cell? a = some (.int .i64 x)) : (Instr.loadAt 3 (.pointer (some a))).run Tryd.prog w = .ok (.int .i64 x) w := by go_simp
theorem load_u8 (a : Addr) (x : Nat) (w : World) (h : w.cell? a = some (.int .u8 (x : Nat))) : (Instr.loadAt 5 (.pointer (some a))).run Tryd.prog w = .ok (.int .u8 (x : Nat)) w := by go_simp
theorem exec_ix (ev : Operand → Value) (o : Oper) (x y : Operand) (ho : o.op = .indexAddr 24 x y) (b i : Nat) (hx : ev x = .pointer (some ⟨b, 0, none⟩)) (hy : ev y = .int .i64 (i : Nat)) (hi : i < 6) (w : World) :
    (execOp ev o).run Tryd.prog w = .ok (.value (.pointer (some ⟨b, i, none⟩))) w := by
  have h1 : (0 : Int) ≤ (i : Int) := by omega
  have h2 : (i : Int) < 6 := by omega
  unfold execOp
  simp only [ho, hx, hy]
  go_simp
theorem exec_conv (ev : Operand → Value) (o : Oper) (x : Operand) (ho : o.op = .convert 5 3 x) (k : Nat) (hx : ev x = .int .u8 (k : Nat)) (hk : k < 256) (w : World) :
    (execOp ev o).run Tryd.prog w = .ok (.value (.int .i64 (k : Nat))) w := by
  unfold execOp
  simp only [ho, hx]
  go_simp
  first | done | ((try rw [IntKind.wrap_i64]); omega)
theorem exec_add (ev : Operand → Value) (o : Oper) (x y : Operand) (t u : TypeId) (ho : o.op = .binOp .add 3 x y 3) (a b : Int) (hx : ev x = .int .i64 a) (hy : ev y = .int .i64 b) (h1 : -9223372036854775808 ≤ a + b) (h2 : a + b ≤ 9223372036854775807) (w : World) :
    (execOp ev o).run Tryd.prog w = .ok (.value (.int .i64 (a + b))) w := by
  unfold execOp
  simp only [ho, hx, hy]
  go_simp
  first | done | ((try rw [IntKind.wrap_i64]); omega)
theorem exec_store (ev : Operand → Value) (o : Oper) (x y : Operand) (ho : o.op = .store 3 x y) (ad : Addr) (v u : Int) (hx : ev x = .pointer (some ad)) (hy : ev y = .int .i64 v) (w : World) (hc : w.cell? ad = some (.int .i64 u)) (hf : w.frozen? ad = false) :
    (execOp ev o).run Tryd.prog w = .ok .skip (w.setCell ad (.int .i64 v)) := by
  unfold execOp
  simp only [ho, hx, hy]
  go_simp
/-- a policy's numbers by place -/
def pf (p : Pol) : Nat → Int
  | 0 => p.a | 1 => p.b | 2 => p.c | 3 => p.d | 4 => p.e | _ => p.f
def up (x : Int) (k : Nat) : Int := if x < 1073741824 then x + (k : Nat) else x
def fTo (p : Pol) (m : Nat → Nat) (i : Nat) (k : Nat) : Int := if k < i then up (pf p k) (m k) else pf p k
def polUp (p : Pol) (m : Nat → Nat) : Pol := ⟨up p.a (m 0), up p.b (m 1), up p.c (m 2), up p.d (m 3), up p.e (m 4), up p.f (m 5)⟩
theorem up_le (x : Int) (k : Nat) : x ≤ up x k := by unfold up; split <;> omega
theorem up_bd (x : Int) (k : Nat) (hk : k < 256) (h : -9223372036854775808 ≤ x ∧ x ≤ 9223372036854775807) : -9223372036854775808 ≤ up x k ∧ up x k ≤ 9223372036854775807 := by unfold up; split <;> omega
theorem polUp_I {p : Pol} {m : Nat → Nat} (h : PolI p) (hm : ∀ i, m i < 256) : PolI (polUp p m) :=
  ⟨up_bd _ _ (hm 0) h.a, up_bd _ _ (hm 1) h.b, up_bd _ _ (hm 2) h.c, up_bd _ _ (hm 3) h.d, up_bd _ _ (hm 4) h.e, up_bd _ _ (hm 5) h.f⟩
theorem pf_I {p : Pol} (h : PolI p) (i : Nat) : -9223372036854775808 ≤ pf p i ∧ pf p i ≤ 9223372036854775807 := by
  match i with
  | 0 => exact h.a
  | 1 => exact h.b
  | 2 => exact h.c
  | 3 => exact h.d
  | 4 => exact h.e
  | _ + 5 => exact h.f
theorem fTo_at (p : Pol) (m : Nat → Nat) (i : Nat) : fTo p m i i = pf p i := by simp [fTo]
/-- the policy's box B while it grows; all else is as it was at wz -/
structure PwS (W wz : World) (B : Nat) (f : Nat → Int) (w : World) : Prop where
  box : ∀ i, i < 6 → w.cell? ⟨B, i, none⟩ = some (.int .i64 (f i)) ∧ w.frozen? ⟨B, i, none⟩ = false
  kp : KpX wz.heap.size B wz w
  low : Below W.heap.size W w
  size : wz.heap.size ≤ w.heap.size
theorem PwS.drew {W wz w : World} {B : Nat} {f : Nat → Int} (h : PwS W wz B f w) : PwS W wz B f w.drew := ⟨h.box, h.kp, h.low.drew, h.size⟩
theorem PwS.set {W wz w : World} {B i : Nat} {p : Pol} {m : Nat → Nat} (h : PwS W wz B (fTo p m i) w) (hB : W.heap.size ≤ B) (hi : i < 6) (hx : pf p i < 1073741824) : PwS W wz B (fTo p m (i + 1)) (w.setCell ⟨B, i, none⟩ (.int .i64 (pf p i + (m i : Nat)))) := by
  refine ⟨fun k hk => ?_, h.kp.trans ⟨fun k hk hne => Below.heap_setCell _ _ _ _ (fun e => hne e), fun hs => by rw [World.size_setCell]; exact hs⟩, h.low.setCell (p := ⟨B, i, none⟩) hB _, by rw [World.size_setCell]; exact h.size⟩
  obtain ⟨h1, h2⟩ := h.box k hk
  refine ⟨?_, by rw [World.frozen?_setCell]; exact h2⟩
  by_cases e : k = i
  · subst e
    rw [World.cell?_setCell_same _ _ _ h1]
    unfold fTo up
    rw [if_pos (by omega), if_pos hx]
  · rw [World.cell?_setCell_other _ _ _ _ (by intro e'; injection e' with _ e'; exact e e'.symm), h1]
    unfold fTo
    by_cases hk2 : k < i
    · rw [if_pos hk2, if_pos (by omega)]
    · rw [if_neg hk2, if_neg (by omega)]
theorem PwS.skip {W wz w : World} {B i : Nat} {p : Pol} {m : Nat → Nat} (h : PwS W wz B (fTo p m i) w) (hx : ¬ pf p i < 1073741824) : PwS W wz B (fTo p m (i + 1)) w := by
  refine ⟨fun k hk => ?_, h.kp, h.low, h.size⟩
  obtain ⟨h1, h2⟩ := h.box k hk
  refine ⟨?_, h2⟩
  rw [h1]
  unfold fTo
  by_cases e : k = i
  · subst e
    rw [if_neg (by omega), if_pos (by omega)]
    unfold up
    rw [if_neg hx]
  · by_cases hk2 : k < i
    · rw [if_pos hk2, if_pos (by omega)]
    · rw [if_neg hk2, if_neg (by omega)]
theorem PwS.all {W wz w : World} {B : Nat} {p : Pol} {m : Nat → Nat} (h : PwS W wz B (fTo p m 6) w) : w.cell? ⟨B, 0, none⟩ = some (.int .i64 (polUp p m).a) ∧ w.cell? ⟨B, 1, none⟩ = some (.int .i64 (polUp p m).b) ∧ w.cell? ⟨B, 2, none⟩ = some (.int .i64 (polUp p m).c) ∧ w.cell? ⟨B, 3, none⟩ = some (.int .i64 (polUp p m).d) ∧ w.cell? ⟨B, 4, none⟩ = some (.int .i64 (polUp p m).e) ∧ w.cell? ⟨B, 5, none⟩ = some (.int .i64 (polUp p m).f) :=
  ⟨(h.box 0 (by decide)).1, (h.box 1 (by decide)).1, (h.box 2 (by decide)).1, (h.box 3 (by decide)).1, (h.box 4 (by decide)).1, (h.box 5 (by decide)).1⟩
/-- texts elsewhere than in a box of numbers -/
theorem StrsB.kp {w w' : World} {v : Value} {l : List ByteArray} {X : Nat} (h : StrsB w v l) (hX : ∀ o s, w.cell? ⟨X, o, none⟩ ≠ some (.string s)) (hk : KpX w.heap.size X w w') : StrsB w' v l := by
  obtain ⟨A, c, h1, h2, h3, h4⟩ := h
  refine ⟨A, c, h1, h2, h3, fun hl => ?_⟩
  obtain ⟨b, off, e1, e2, e3⟩ := h4 hl
  have hb : b ≠ X := fun e => by
    subst e
    have := e3 0 hl
    rw [List.getElem?_eq_getElem hl] at this
    exact hX _ _ this
  exact ⟨b, off, e1, Nat.lt_of_lt_of_le e2 (hk.2 (Nat.le_refl _)), fun j hj => (World.cell?_of_block (hk.1 b e2 hb)).trans (e3 j hj)⟩
theorem pol_nostr {w : World} {B : Nat} {p : Pol} (h : w.heap[B]? = some (polO p)) (o : Nat) (s : ByteArray) : w.cell? ⟨B, o, none⟩ ≠ some (.string s) := by
  unfold World.cell?
  rw [h]
  match o with
  | 0 => simp
  | 1 => simp
  | 2 => simp
  | 3 => simp
  | 4 => simp
  | 5 => simp
  | _ + 6 => simp
end Go.Proofs.YtlikmdmdmljiaaaDoor
