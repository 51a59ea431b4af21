/- append of one text onto a row of the call's own; of a whole list onto nil. -/
import Derived.Test.YtlikmdmdmljiaaaDoorStrsApp
namespace Go.Proofs.YtlikmdmdmljiaaaDoor
open Go.RowKit
set_option linter.unusedVariables false
theorem StrsB.cells {w : World} {A : Option Addr} {n c : Nat} {l : List ByteArray} (h : StrsB w (.slice A n c) l) (hl : 0 < l.length) :
    ∃ b off, A = some ⟨b, off, none⟩ ∧ b < w.heap.size ∧ ∀ j (hj : j < l.length), w.cell? ⟨b, off + j, none⟩ = some (.string l[j]) := by
  obtain ⟨A', c', e, h2, h3, h4⟩ := h
  obtain ⟨b, off, e1, e2, e3⟩ := h4 hl
  cases e
  exact ⟨b, off, e1, e2, fun j hj => by rw [e3 j hj]; simp [hj]⟩
theorem wp_push_str {w : World} {o : Oper} {a : Act} {K : Act → World → Prop} {Q : Exit → Act → World → Prop} (s x : Operand) (t : TypeId)
    (ho : o.op = .call { callee := .builtin .append, args := #[s, x], argTypes := #[t, t] }) (ht : Tryd.prog.underlying t = some (.slice 9))
    (base : Nat) (v : Value) (xs : List ByteArray) (hs : a.eval s = v) (hown : w.ownsRow base 9 1 v xs.length (xs.map .string))
    (ad : Addr) (c : Nat) (y : ByteArray) (hx : a.eval x = .slice (some ad) 1 c) (hc : w.cell? ad = some (.string y)) (hle : xs.length + 1 ≤ 1000000000) (hbase : base ≤ w.heap.size)
    (h : ∀ v' w', w'.ownsRow base 9 1 v' (xs ++ [y]).length ((xs ++ [y]).map .string) → w.grownBy w' v.ownBlock → K (a.put o.dst v') w') : o.wp Tryd.prog a w K Q := by
  obtain ⟨i0, hi, hz0, hz1, hz2⟩ := info_parts strInfo
  refine wp_append_own w s x t ho base 9 i0 (.string ByteArray.empty) 1 16 ht hi hz0 hz1 hz2 rfl (by decide) v _ _ hs hown ad 1 c [.string y] hx rfl ?_ ?_ (by unfold maxLen; omega) (by omega) hbase ?_
  · intro j u' hj
    match j, hj with
    | 0, hj =>
      simp at hj; subst hj
      rw [← hc]; congr 1
  · intro u' hu'
    simp at hu'; subst hu'; rfl
  · intro v' w' h1 h2 _
    exact h v' w' (by simpa using h1) h2
theorem wpList_push_str {w : World} {ops : Array Oper} {rest : List Oper} {o : Oper} {a : Act} {Q : Exit → Act → World → Prop} (hgd : o.guard = none) (s x : Operand) (t : TypeId)
    (ho : o.op = .call { callee := .builtin .append, args := #[s, x], argTypes := #[t, t] }) (ht : Tryd.prog.underlying t = some (.slice 9))
    (base : Nat) (v : Value) (xs : List ByteArray) (hs : a.eval s = v) (hown : w.ownsRow base 9 1 v xs.length (xs.map .string))
    (ad : Addr) (c : Nat) (y : ByteArray) (hx : a.eval x = .slice (some ad) 1 c) (hc : w.cell? ad = some (.string y)) (hle : xs.length + 1 ≤ 1000000000) (hbase : base ≤ w.heap.size)
    (h : ∀ v' w', w'.ownsRow base 9 1 v' (xs ++ [y]).length ((xs ++ [y]).map .string) → w.grownBy w' v.ownBlock → wpList Tryd.prog ops Q rest (a.put o.dst v') w') : wpList Tryd.prog ops Q (o :: rest) a w :=
  wpList_plain hgd fun K hK => wp_push_str s x t ho ht base v xs hs hown ad c y hx hc hle hbase fun v' w' h1 h2 => hK _ _ (h v' w' h1 h2)
/-- a list of texts that may be appended whole: nil means nil -/
def StrsN (w : World) (v : Value) (l : List ByteArray) : Prop := StrsB w v l ∧ ∀ n c, v = .slice none n c → c = 0
theorem StrsN.below {w w' : World} {v : Value} {l : List ByteArray} {B : Nat} (h : StrsN w v l) (hb : Below B w w') (hB : w.heap.size ≤ B) : StrsN w' v l := ⟨h.1.below hb hB, h.2⟩
theorem StrsN.of_owns {w : World} {v : Value} {l : List ByteArray} {B : Nat} (h : w.ownsRow B 9 1 v l.length (l.map .string)) : StrsN w v l := by
  refine ⟨StrsB.of_owns h, fun n c e => ?_⟩
  rcases h.2 with ⟨hv, h0⟩ | ⟨g, cap, cur, hv, _⟩
  · rw [hv] at e; cases e; rfl
  · rw [hv] at e; cases e
theorem StrsN.of_sl {w : World} {A : Option Addr} {n c : Nat} {l : List ByteArray} (h : Sl w A n c 1 (l.flatMap EStr)) (hn : l.length = n) (h0 : A = none → c = 0) : StrsN w (.slice A n c) l :=
  ⟨StrsB.of_sl h hn, fun n' c' e => by cases e; exact h0 rfl⟩
theorem wp_append_strs {w : World} {o : Oper} {a : Act} {K : Act → World → Prop} {Q : Exit → Act → World → Prop} (s x : Operand) (t : TypeId)
    (ho : o.op = .call { callee := .builtin .append, args := #[s, x], argTypes := #[t, t] }) (ht : Tryd.prog.underlying t = some (.slice 9))
    (base : Nat) (v : Value) (xs : List ByteArray) (hs : a.eval s = v) (hown : w.ownsRow base 9 1 v xs.length (xs.map .string))
    (u : Value) (ys : List ByteArray) (hx : a.eval x = u) (hu : StrsN w u ys) (hle : xs.length + ys.length ≤ 1000000000) (hbase : base ≤ w.heap.size)
    (h : ∀ v' w', w'.ownsRow base 9 1 v' (xs ++ ys).length ((xs ++ ys).map .string) → w.grownBy w' v.ownBlock → K (a.put o.dst v') w') : o.wp Tryd.prog a w K Q := by
  obtain ⟨i0, hi, hz0, hz1, hz2⟩ := info_parts strInfo
  obtain ⟨⟨A, c, e, h2, h3, h4⟩, h5⟩ := hu
  subst e
  cases A with
  | none =>
    have hc := h5 _ _ rfl
    subst hc
    have hl : ys = [] := List.length_eq_zero_iff.1 (by omega)
    subst hl
    have hrun := run_append_owned_none (P := Tryd.prog) (w := w) base t o.type 9 i0 1 ht hi v _ _ hown
    unfold Oper.wp
    simp [execOp, ho, resolve, invoke, builtin, hs, hx, hrun, Result.andThen]
    exact h _ _ (by simpa using hown) (World.grownBy.refl w _)
  | some ad =>
    refine wp_append_own w s x t ho base 9 i0 (.string ByteArray.empty) 1 16 ht hi hz0 hz1 hz2 rfl (by decide) v _ _ hs hown ad ys.length c (ys.map .string) hx (by simp) ?_ ?_ (by unfold maxLen; omega) (by omega) hbase ?_
    · intro j u' hj
      have hj' : j < ys.length := by
        have := (List.getElem?_eq_some_iff.1 hj).1
        simpa using this
      obtain ⟨b, off, e1, e2, e3⟩ := h4 (by omega)
      cases e1
      rw [add_eq, e3 j hj', ← hj]
      simp
    · intro u' hu'
      simp at hu'
      obtain ⟨y, _, rfl⟩ := hu'
      rfl
    · intro v' w' h1 h2 _
      exact h v' w' (by simpa using h1) h2
theorem wpList_append_strs {w : World} {ops : Array Oper} {rest : List Oper} {o : Oper} {a : Act} {Q : Exit → Act → World → Prop} (hgd : o.guard = none) (s x : Operand) (t : TypeId)
    (ho : o.op = .call { callee := .builtin .append, args := #[s, x], argTypes := #[t, t] }) (ht : Tryd.prog.underlying t = some (.slice 9))
    (base : Nat) (v : Value) (xs : List ByteArray) (hs : a.eval s = v) (hown : w.ownsRow base 9 1 v xs.length (xs.map .string))
    (u : Value) (ys : List ByteArray) (hx : a.eval x = u) (hu : StrsN w u ys) (hle : xs.length + ys.length ≤ 1000000000) (hbase : base ≤ w.heap.size)
    (h : ∀ v' w', w'.ownsRow base 9 1 v' (xs ++ ys).length ((xs ++ ys).map .string) → w.grownBy w' v.ownBlock → wpList Tryd.prog ops Q rest (a.put o.dst v') w') : wpList Tryd.prog ops Q (o :: rest) a w :=
  wpList_plain hgd fun K hK => wp_append_strs s x t ho ht base v xs hs hown u ys hx hu hle hbase fun v' w' h1 h2 => hK _ _ (h v' w' h1 h2)
theorem own_grow {w0 w w' : World} {v : Value} {n : Nat} {xs : List Value} (hb : Below w0.heap.size w0 w) (hown : w.ownsRow w0.heap.size 9 1 v n xs) (hg : w.grownBy w' v.ownBlock) : Below w0.heap.size w0 w' :=
  hb.grown hg hb.size (fun k hk => (hown.lt k hk).1)
theorem own_grow_alloc {w0 w w' : World} {v : Value} {n : Nat} {xs : List Value} (o : Obj) (hb : Below w0.heap.size w0 w) (hown : w.ownsRow w0.heap.size 9 1 v n xs) (hg : (w.alloc o).grownBy w' v.ownBlock) : Below w0.heap.size w0 w' :=
  (hb.alloc hb.size o).grown hg (by have := hb.size; simp; omega) (fun k hk => (hown.lt k hk).1)
end Go.Proofs.YtlikmdmdmljiaaaDoor
