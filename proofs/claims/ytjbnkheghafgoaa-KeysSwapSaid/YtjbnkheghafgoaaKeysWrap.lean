/- The calls of chapter 5's statements, as they are met there. -/
import Derived.Test.YtjbnkheghafgoaaKeys
import Derived.Test.YtjbnkheghafgoaaKeysFit
import Derived.Test.YtjbnkheghafgoaaKeysRefSets
namespace Go.Proofs.Ytjbnkheghafgoaa
open Go.RowKit
set_option linter.unusedVariables false
theorem below_drawn {w w' : World} (h : ∃ n, w' = w.drewN n) : Below w.heap.size w w' := by
  obtain ⟨n, rfl⟩ := h; exact Below.drewN (Below.refl _ _) n
def GivesL (f : FuncId) (args : Array Value) (w : World) (l : List ByteArray) : Prop := Calls Try.prog f args w fun e w' => ∃ v, e = .returned v ∧ StrsB w' v l ∧ Below w.heap.size w w'
def GivesB (f : FuncId) (args : Array Value) (w : World) (b : Bool) : Prop := Calls Try.prog f args w fun e w' => e = .returned (.bool b) ∧ Below w.heap.size w w'
theorem cOf {w : World} {v : Value} {l : List ByteArray} (h : StrsB w v l) (hl : l.length ≤ 1000000) : GivesL 14 #[v] w (kOf l) := kOf_any w v l h hl
theorem cROf {w : World} {v : Value} {l : List ByteArray} (h : StrsB w v l) (hl : l.length ≤ 1000000) : GivesL 22 #[v] w (rOf l) := rOf_any w v l h hl
theorem cSame {w : World} {v u : Value} {l m : List ByteArray} (h : StrsB w v l) (h' : StrsB w u m) (e : l = m) : GivesB 15 #[v, u] w true := by
  refine (same_any w v u l m h h').mono ?_
  rintro _ w' ⟨rfl, hw⟩
  rw [e, sameB_self]
  exact ⟨rfl, below_drawn hw⟩
theorem cJoin {w : World} {v u : Value} {l m : List ByteArray} (h : StrsB w v l) (h' : StrsB w u m) (hl : l.length + m.length ≤ 1000000) : GivesL 16 #[v, u] w (kJoin l m) :=
  (kJoin_any w v u l m h h' hl).mono fun _ _ ⟨v', e, h, b⟩ => ⟨v', e, StrsB.of_owns h, b⟩
theorem cBoth {w : World} {v u : Value} {l m : List ByteArray} (h : StrsB w v l) (h' : StrsB w u m) (hl : l.length + m.length ≤ 1000000) : GivesL 17 #[v, u] w (kBoth l m) :=
  (kBoth_any w v u l m h h' hl).mono fun _ _ ⟨v', e, h, b⟩ => ⟨v', e, StrsB.of_owns h, b⟩
theorem cLess {w : World} {v u : Value} {l m : List ByteArray} (h : StrsB w v l) (h' : StrsB w u m) (hl : l.length + m.length ≤ 1000000) : GivesL 18 #[v, u] w (kLess l m) :=
  (kLess_any w v u l m h h' hl).mono fun _ _ ⟨v', e, h, b⟩ => ⟨v', e, StrsB.of_owns h, b⟩
theorem cRJoin {w : World} {v u : Value} {l m : List ByteArray} (h : StrsN w v l) (h' : StrsB w u m) (hl : l.length + m.length ≤ 1000000) : GivesL 24 #[v, u] w (rJoin l m) := rJoin_any w v u l m h h' hl
theorem cRBoth {w : World} {v u : Value} {l m : List ByteArray} (h : StrsB w v l) (h' : StrsB w u m) (hl : l.length ≤ 1000000) : GivesL 25 #[v, u] w (rSome l m true) :=
  (rBoth_any w v u l m h h' hl).mono fun _ _ ⟨v', e, h, b⟩ => ⟨v', e, StrsB.of_owns h, b⟩
theorem cRLess {w : World} {v u : Value} {l m : List ByteArray} (h : StrsB w v l) (h' : StrsB w u m) (hl : l.length ≤ 1000000) : GivesL 26 #[v, u] w (rSome l m false) :=
  (rLess_any w v u l m h h' hl).mono fun _ _ ⟨v', e, h, b⟩ => ⟨v', e, StrsB.of_owns h, b⟩
theorem cHas {w : World} {v : Value} {l : List ByteArray} {k : ByteArray} {b : Bool} (h : StrsB w v l) (hr : Ris l) (hl : l.length ≤ 1000000) (hb : decide (k ∈ l) = b) : GivesB 19 #[v, .string k] w b :=
  (kHas_any w v l k h hr hl).mono fun _ _ ⟨e, hw⟩ => ⟨by rw [e, hb], below_drawn hw⟩
theorem cRHas {w : World} {v : Value} {l : List ByteArray} {k : ByteArray} {b : Bool} (h : StrsB w v l) (hb : decide (k ∈ l) = b) : GivesB 23 #[v, .string k] w b :=
  (rHas_any w v l k h).mono fun _ _ ⟨e, hw⟩ => ⟨by rw [e, hb], by rw [← hw]; exact Below.refl _ _⟩
theorem cFit {w : World} {v : Value} {l : List ByteArray} {b : Bool} (h : StrsB w v l) (hb : fitL l = b) : GivesB 21 #[v] w b :=
  (kFit_any w v l h).mono fun _ _ ⟨e, hw⟩ => ⟨by rw [e, hb], by rw [← hw]; exact Below.refl _ _⟩
theorem cRFit {w : World} {v : Value} {l : List ByteArray} {b : Bool} (h : StrsB w v l) (hb : fitL l = b) : GivesB 20 #[v] w b :=
  (rFit_any w v l h).mono fun _ _ ⟨e, hw⟩ => ⟨by rw [e, hb], below_drawn hw⟩
theorem cAwake (w : World) : GivesB 9 #[] w true := keysAwake_any w
theorem lists2 {w : World} {v u : Value} {l m : List ByteArray} (h : StrsB w v l) (h' : StrsB w u m) : Lists (w.alloc (.cells #[v, u] 33)) w.heap.size [v, u] [l, m] := by
  have hb := (Below.refl w.heap.size w).alloc (Nat.le_refl _) (.cells #[v, u] 33)
  have hh : (w.alloc (.cells #[v, u] 33)).heap[w.heap.size]? = some (.cells #[v, u] 33 (0, 0)) := by
    show (w.heap.push _)[w.heap.size]? = _; simp
  refine ⟨rfl, fun j x hx => ?_, fun j x y hx hy => ?_⟩
  · rw [Lib.cell_of_heap hh]; simpa using hx
  · match j, hx, hy with
    | 0, hx, hy => cases hx; cases hy; exact h.below hb (Nat.le_refl _)
    | 1, hx, hy => cases hx; cases hy; exact h'.below hb (Nat.le_refl _)
theorem lists1 {w : World} {v : Value} {l : List ByteArray} (h : StrsB w v l) : Lists (w.alloc (.cells #[v] 33)) w.heap.size [v] [l] := by
  have hb := (Below.refl w.heap.size w).alloc (Nat.le_refl _) (.cells #[v] 33)
  have hh : (w.alloc (.cells #[v] 33)).heap[w.heap.size]? = some (.cells #[v] 33 (0, 0)) := by
    show (w.heap.push _)[w.heap.size]? = _; simp
  refine ⟨rfl, fun j x hx => ?_, fun j x y hx hy => ?_⟩
  · rw [Lib.cell_of_heap hh]; simpa using hx
  · match j, hx, hy with
    | 0, hx, hy => cases hx; cases hy; exact h.below hb (Nat.le_refl _)
theorem few2 {w : World} {v u : Value} {l m : List ByteArray} {b : Bool} (h : StrsB w v l) (h' : StrsB w u m) (hb : fewL [l, m] = b) :
    Calls Try.prog 13 #[.slice (some ⟨w.heap.size, 0, none⟩) 2 2] (w.alloc (.cells #[v, u] 33)) fun e w' => e = .returned (.bool b) ∧ Below w.heap.size w w' :=
  (few_any _ _ _ _ (lists2 h h') (by simp)).mono fun _ _ ⟨e, hw⟩ => ⟨by rw [e, hb], by rw [← hw]; exact (Below.refl w.heap.size w).alloc (Nat.le_refl _) _⟩
theorem few1 {w : World} {v : Value} {l : List ByteArray} {b : Bool} (h : StrsB w v l) (hb : fewL [l] = b) :
    Calls Try.prog 13 #[.slice (some ⟨w.heap.size, 0, none⟩) 1 1] (w.alloc (.cells #[v] 33)) fun e w' => e = .returned (.bool b) ∧ Below w.heap.size w w' :=
  (few_any _ _ _ _ (lists1 h) (by simp)).mono fun _ _ ⟨e, hw⟩ => ⟨by rw [e, hb], by rw [← hw]; exact (Below.refl w.heap.size w).alloc (Nat.le_refl _) _⟩
theorem few2_len {l m : List ByteArray} (h : fewL [l, m] = true) : l.length ≤ 200 ∧ m.length ≤ 200 := by
  simp [fewL] at h; exact ⟨h.1.1, h.2.1⟩
theorem few1_len {l : List ByteArray} (h : fewL [l] = true) : l.length ≤ 200 := by
  simp [fewL] at h; exact h.1
/-- behind a guard that holds -/
theorem wpList_append_strs_g {w : World} {ops : Array Oper} {rest : List Oper} {o : Oper} {a : Act} {Q : Exit → Act → World → Prop} (hgd : Region.wanted o (yielded ops a.tmps) = true) (s x : Operand) (t : TypeId)
    (ho : o.op = .call { callee := .builtin .append, args := #[s, x], argTypes := #[t, t] }) (ht : Try.prog.underlying t = some (.slice 9))
    (base : Nat) (v : Value) (xs : List ByteArray) (hs : a.eval s = v) (hown : w.ownsRow base 9 1 v xs.length (xs.map .string))
    (u : Value) (ys : List ByteArray) (hx : a.eval x = u) (hu : StrsN w u ys) (hle : xs.length + ys.length ≤ 1000000000) (hbase : base ≤ w.heap.size)
    (h : ∀ v' w', w'.ownsRow base 9 1 v' (xs ++ ys).length ((xs ++ ys).map .string) → w.grownBy w' v.ownBlock → wpList Try.prog ops Q rest (a.put o.dst v') w') : wpList Try.prog ops Q (o :: rest) a w :=
  wpList_step fun K hK => by
    rw [if_pos hgd]
    exact wp_append_strs s x t ho ht base v xs hs hown u ys hx hu hle hbase fun v' w' h1 h2 => hK _ _ (h v' w' h1 h2)
end Go.Proofs.Ytjbnkheghafgoaa
