/- append of a list of texts, whole, onto a row of the call's own: the source nil or not. -/
import Derived.Test.YtlikmdmdmljiaaaDoorStrs
import Derived.Laws.AppendOwnNone
namespace Go.Proofs.YtlikmdmdmljiaaaDoor
open Go.RowKit
set_option linter.unusedVariables false
/-- what may be appended whole: nil, or a slice at an address -/
def Src (w : World) (u : Value) (ys : List ByteArray) : Prop :=
  (u = .slice none 0 0 ∧ ys = []) ∨ ∃ b off c, u = .slice (some ⟨b, off, none⟩) ys.length c ∧ (ys ≠ [] → b < w.heap.size) ∧ ∀ j (hj : j < ys.length), w.cell? ⟨b, off + j, none⟩ = some (.string ys[j])
theorem Src.of_owns {w : World} {v : Value} {l : List ByteArray} {B : Nat} (h : w.ownsRow B 9 1 v l.length (l.map .string)) : Src w v l := by
  rcases h.2 with ⟨hv, h0⟩ | ⟨g, cap, cur, hv, hb, hg, hn, hm, hc, ht⟩
  · exact .inl ⟨hv, List.length_eq_zero_iff.1 h0⟩
  · refine .inr ⟨g, 0, cap, hv, fun _ => (Array.getElem?_eq_some_iff.1 hg).1, fun j hj => ?_⟩
    have := h.cells (g := g) (by rw [hv]; rfl) j (.string l[j]) (by simp [hj])
    rw [add_eq] at this
    exact this
theorem Src.of_sl {w : World} {A : Option Addr} {n c : Nat} {l : List ByteArray} (h : Sl w A n c 1 (l.flatMap EStr)) (hn : l.length = n) (h0 : A = none → c = 0) (hA : ∀ a, A = some a → a.spot = none) : Src w (.slice A n c) l := by
  subst hn
  cases A with
  | none =>
    have hc := h0 rfl
    have := h.le
    subst hc
    have hl : l.length = 0 := by omega
    exact .inl ⟨by rw [hl], List.length_eq_zero_iff.1 hl⟩
  | some a =>
    by_cases hl : 0 < l.length
    · obtain ⟨b, off, c, e, _, _, e2, e3⟩ := (StrsB.of_sl h rfl).at hl
      cases e
      exact .inr ⟨b, off, _, rfl, fun _ => e2, e3⟩
    · obtain ⟨b, off, sp⟩ := a
      have := hA _ rfl
      simp only at this; subst this
      exact .inr ⟨b, off, c, rfl, fun hne => absurd (List.length_pos_iff.2 hne) hl, fun j hj => absurd hj (by omega)⟩
theorem Src.below {w w' : World} {u : Value} {ys : List ByteArray} {B : Nat} (h : Src w u ys) (hb : Below B w w') (hB : w.heap.size ≤ B) : Src w' u ys := by
  rcases h with h | ⟨b, off, c, hu, hlt, hc⟩
  · exact .inl h
  · refine .inr ⟨b, off, c, hu, fun hne => Nat.lt_of_lt_of_le (hlt hne) hb.size, fun j hj => ?_⟩
    have hne : ys ≠ [] := by intro e; subst e; simp at hj
    exact (hb.cell (p := ⟨b, off + j, none⟩) (Nat.lt_of_lt_of_le (hlt hne) hB)).trans (hc j hj)
theorem Src.drewN {w : World} {u : Value} {ys : List ByteArray} (h : Src w u ys) (n : Nat) : Src (w.drewN n) u ys := h
theorem wp_append_src {w : World} {o : Oper} {a : Act} {K : Act → World → Prop} {Q : Exit → Act → World → Prop} (s x : Operand) (t : TypeId)
    (ho : o.op = .call { callee := .builtin .append, args := #[s, x], argTypes := #[t, t] }) (ht : Tryd.prog.underlying t = some (.slice 9))
    (base : Nat) (v : Value) (xs : List ByteArray) (hs : a.eval s = v) (hown : w.ownsRow base 9 1 v xs.length (xs.map .string))
    (u : Value) (ys : List ByteArray) (hx : a.eval x = u) (hu : Src w u ys) (hle : xs.length + ys.length ≤ 1000000000) (hbase : base ≤ w.heap.size)
    (h : ∀ v' w', w'.ownsRow base 9 1 v' (xs ++ ys).length ((xs ++ ys).map .string) → w.grownBy w' v.ownBlock → K (a.put o.dst v') w') : o.wp Tryd.prog a w K Q := by
  obtain ⟨i0, hi, hz0, hz1, hz2⟩ := info_parts strInfo
  rcases hu with ⟨rfl, rfl⟩ | ⟨b, off, c, rfl, _, hc⟩
  · have hrun := run_append_owned_none (P := Tryd.prog) (w := w) base t o.type 9 i0 1 ht hi v _ _ hown
    unfold Oper.wp
    simp [execOp, ho, resolve, invoke, builtin, hs, hx, hrun, Result.andThen]
    exact h _ _ (by simpa using hown) (World.grownBy.refl w _)
  · refine wp_append_own w s x t ho base 9 i0 (.string ByteArray.empty) 1 16 ht hi hz0 hz1 hz2 rfl (by decide) v _ _ hs hown ⟨b, off, none⟩ ys.length c (ys.map .string) hx (by simp) ?_ ?_ (by unfold maxLen; omega) (by omega) hbase ?_
    · intro j u' hj
      have hj' : j < ys.length := by
        have := (List.getElem?_eq_some_iff.1 hj).1
        simpa using this
      rw [add_eq, hc j hj']
      simp [hj'] at hj
      rw [← hj]
    · intro u' hu'
      simp at hu'
      obtain ⟨y, _, rfl⟩ := hu'
      rfl
    · intro v' w' h1 h2 _
      exact h v' w' (by simpa using h1) h2
theorem wpList_append_src {w : World} {ops : Array Oper} {rest : List Oper} {o : Oper} {a : Act} {Q : Exit → Act → World → Prop} (hgd : Region.wanted o (yielded ops a.tmps) = true) (s x : Operand) (t : TypeId)
    (ho : o.op = .call { callee := .builtin .append, args := #[s, x], argTypes := #[t, t] }) (ht : Tryd.prog.underlying t = some (.slice 9))
    (base : Nat) (v : Value) (xs : List ByteArray) (hs : a.eval s = v) (hown : w.ownsRow base 9 1 v xs.length (xs.map .string))
    (u : Value) (ys : List ByteArray) (hx : a.eval x = u) (hu : Src w u ys) (hle : xs.length + ys.length ≤ 1000000000) (hbase : base ≤ w.heap.size)
    (h : ∀ v' w', w'.ownsRow base 9 1 v' (xs ++ ys).length ((xs ++ ys).map .string) → w.grownBy w' v.ownBlock → wpList Tryd.prog ops Q rest (a.put o.dst v') w') : wpList Tryd.prog ops Q (o :: rest) a w :=
  wpList_step fun K hK => by
    rw [if_pos hgd]
    exact wp_append_src s x t ho ht base v xs hs hown u ys hx hu hle hbase fun v' w' h1 h2 => hK _ _ (h v' w' h1 h2)
/-- a slice without elements that was just laid -/
theorem owns_empty {w : World} {B : Nat} (hB : B ≤ w.heap.size) : (w.alloc (.cells #[] 9)).ownsRow B 9 1 (.slice (some ⟨w.heap.size, 0, none⟩) 0 0) 0 [] :=
  ⟨rfl, .inr ⟨w.heap.size, 0, #[], rfl, hB, (by show (w.heap.push _)[w.heap.size]? = _; simp), Nat.le_refl _, by unfold maxLen; omega, rfl, rfl⟩⟩
end Go.Proofs.YtlikmdmdmljiaaaDoor
