/- Rows of objects: appended whole; sums of slots. -/
import Derived.Test.YtkbpkodakfknoaaPackMore
import Derived.Test.YtkbpkodakfknoaaInsert
import Derived.Laws.AppendOwnNone
import Derived.Test.YtkbpkodakfknoaaStructs
namespace Go.Proofs.Ytkbpkodakfknoaa
open Go.RowKit
set_option linter.unusedVariables false
set_option linter.unusedSimpArgs false
theorem obs_get : ∀ (l : List Ob) (i : Nat) (h : i < l.length), (l.flatMap (ES2 EStr EStr))[i * 2]? = some (.string l[i].1) ∧ (l.flatMap (ES2 EStr EStr))[i * 2 + 1]? = some (.string l[i].2)
  | o :: l, 0, _ => ⟨rfl, rfl⟩
  | o :: l, i + 1, h => by
    have ih := obs_get l i (by simpa using h)
    constructor
    · show ([Value.string o.1, .string o.2] ++ l.flatMap (ES2 EStr EStr))[(i + 1) * 2]? = _
      rw [List.getElem?_append_right (by simp; omega), show (i + 1) * 2 - [Value.string o.1, .string o.2].length = i * 2 by simp; omega]
      exact ih.1
    · show ([Value.string o.1, .string o.2] ++ l.flatMap (ES2 EStr EStr))[(i + 1) * 2 + 1]? = _
      rw [List.getElem?_append_right (by simp; omega), show (i + 1) * 2 + 1 - [Value.string o.1, .string o.2].length = i * 2 + 1 by simp; omega]
      exact ih.2
theorem objs_of_sl {w : World} {A : Option Addr} {n c : Nat} {l : List Ob} (h : Sl w A n c 2 (l.flatMap (ES2 EStr EStr))) (hn : l.length = n) : ObjsB w (.slice A n c) l := by
  refine ⟨A, c, by rw [hn], by rw [hn]; exact h.le, h.cap, fun hl => ?_⟩
  obtain ⟨b, off, e1, e2, e3⟩ := h.cells (by omega)
  refine ⟨b, off, e1, e2, fun i hi => ?_⟩
  obtain ⟨g1, g2⟩ := obs_get l i hi
  exact ⟨(e3 (i * 2) (by omega)).trans g1, by rw [Nat.add_assoc]; exact (e3 (i * 2 + 1) (by omega)).trans g2⟩
theorem objInfo : (Try.prog.info? 45).map (fun i => (i.zero, i.size, i.bytes)) = some (some (.agg #[.string ByteArray.empty, .string ByteArray.empty]), 2, 32) := by kernel_rfl
abbrev obCells (l : List Ob) : List Value := l.flatMap (ES2 EStr EStr)
theorem obCells_len (l : List Ob) : (obCells l).length = l.length * 2 := by
  induction l with
  | nil => rfl
  | cons o l ih => show ([Value.string o.1, .string o.2] ++ obCells l).length = _; rw [List.length_append, ih, List.length_cons]; simp; omega
theorem obCells_mem {l : List Ob} {u : Value} (h : u ∈ obCells l) : u.oneCell' = true := by
  obtain ⟨o, _, h2⟩ := List.mem_flatMap.1 h
  simp [ES2, EStr] at h2
  rcases h2 with rfl | rfl <;> rfl
theorem ObjsB.of_owns {w : World} {v : Value} {l : List Ob} {B : Nat} (h : w.ownsRow B 45 2 v l.length (obCells l)) : ObjsB w v l := by
  have h0 := h
  rcases h.2 with ⟨hv, h0⟩ | ⟨g, cap, cur, hv, hb, hg, hn, hm, hc, ht⟩
  · exact ⟨none, 0, by rw [hv, h0], by omega, by unfold maxLen; omega, fun hl => by omega⟩
  · refine ⟨some ⟨g, 0, none⟩, cap, hv, hn, hm, fun hl => ⟨g, 0, rfl, (Array.getElem?_eq_some_iff.1 hg).1, fun i hi => ?_⟩⟩
    obtain ⟨g1, g2⟩ := obs_get l i hi
    have c1 := h.cells (g := g) (by rw [hv]; rfl) (i * 2) _ g1
    have c2 := h.cells (g := g) (by rw [hv]; rfl) (i * 2 + 1) _ g2
    rw [add_eq] at c1 c2
    exact ⟨c1, by rw [Nat.add_assoc]; exact c2⟩
def ObjsN (w : World) (v : Value) (l : List Ob) : Prop := ObjsB w v l ∧ ∀ n c, v = .slice none n c → c = 0
theorem ObjsN.below {w w' : World} {v : Value} {l : List Ob} {B : Nat} (h : ObjsN w v l) (hb : Below B w w') (hB : w.heap.size ≤ B) : ObjsN w' v l := ⟨h.1.below hb hB, h.2⟩
theorem obs_cell {w : World} {b off : Nat} {l : List Ob} (h : ∀ i (h : i < l.length), w.cell? ⟨b, off + i * 2, none⟩ = some (.string l[i].1) ∧ w.cell? ⟨b, off + i * 2 + 1, none⟩ = some (.string l[i].2)) (j : Nat) (u : Value) (hj : (obCells l)[j]? = some u) : w.cell? ((⟨b, off, none⟩ : Addr).add j) = some u := by
  have hlt := (List.getElem?_eq_some_iff.1 hj).1
  rw [obCells_len] at hlt
  have hi : j / 2 < l.length := by omega
  obtain ⟨g1, g2⟩ := obs_get l (j / 2) hi
  obtain ⟨c1, c2⟩ := h (j / 2) hi
  rw [add_eq]
  rcases Nat.mod_two_eq_zero_or_one j with e | e
  · have ej : j / 2 * 2 = j := by omega
    rw [ej] at g1 c1
    rw [show (l.flatMap (ES2 EStr EStr))[j]? = some u from hj] at g1
    cases g1; exact c1
  · have ej : j / 2 * 2 + 1 = j := by omega
    rw [Nat.add_assoc, ej] at c2
    rw [ej, show (l.flatMap (ES2 EStr EStr))[j]? = some u from hj] at g2
    cases g2; exact c2
theorem wp_append_objs {w : World} {o : Oper} {a : Act} {K : Act → World → Prop} {Q : Exit → Act → World → Prop} (s x : Operand) (t : TypeId)
    (ho : o.op = .call { callee := .builtin .append, args := #[s, x], argTypes := #[t, t] }) (ht : Try.prog.underlying t = some (.slice 45))
    (base : Nat) (v : Value) (xs : List Ob) (hs : a.eval s = v) (hown : w.ownsRow base 45 2 v xs.length (obCells xs))
    (u : Value) (ys : List Ob) (hx : a.eval x = u) (hu : ObjsN w u ys) (hle : xs.length + ys.length ≤ 1000000000) (hbase : base ≤ w.heap.size)
    (h : ∀ v' w', w'.ownsRow base 45 2 v' (xs ++ ys).length (obCells (xs ++ ys)) → w.grownBy w' v.ownBlock → K (a.put o.dst v') w') : o.wp Try.prog a w K Q := by
  obtain ⟨i0, hi, hz0, hz1, hz2⟩ := info_parts objInfo
  obtain ⟨⟨A, c, e, h2, h3, h4⟩, h5⟩ := hu
  subst e
  cases A with
  | none =>
    have hc := h5 _ _ rfl
    subst hc
    have hl : ys = [] := List.length_eq_zero_iff.1 (by omega)
    subst hl
    have hrun := run_append_owned_none (P := Try.prog) (w := w) base t o.type 45 i0 2 ht hi v _ _ hown
    unfold Oper.wp
    simp [execOp, ho, resolve, invoke, builtin, hs, hx, hrun, Result.andThen]
    exact h _ _ (by simpa using hown) (World.grownBy.refl w _)
  | some ad =>
    refine wp_append_own w s x t ho base 45 i0 (.agg #[.string ByteArray.empty, .string ByteArray.empty]) 2 32 ht hi hz0 hz1 hz2 rfl (by decide) v _ _ hs hown ad ys.length c (obCells ys) hx (obCells_len ys) ?_ (fun u hu => obCells_mem hu) (by unfold maxLen; omega) (by omega) hbase ?_
    · intro j u' hj
      have hj' : j < ys.length * 2 := by
        have := (List.getElem?_eq_some_iff.1 hj).1
        rw [obCells_len] at this; exact this
      obtain ⟨b, off, e1, e2, e3⟩ := h4 (by omega)
      cases e1
      exact obs_cell e3 j u' hj
    · intro v' w' h1 h2 _
      exact h v' w' (by simpa [obCells] using h1) h2
theorem wpList_append_objs {w : World} {ops : Array Oper} {rest : List Oper} {o : Oper} {a : Act} {Q : Exit → Act → World → Prop} (hgd : o.guard = none) (s x : Operand) (t : TypeId)
    (ho : o.op = .call { callee := .builtin .append, args := #[s, x], argTypes := #[t, t] }) (ht : Try.prog.underlying t = some (.slice 45))
    (base : Nat) (v : Value) (xs : List Ob) (hs : a.eval s = v) (hown : w.ownsRow base 45 2 v xs.length (obCells xs))
    (u : Value) (ys : List Ob) (hx : a.eval x = u) (hu : ObjsN w u ys) (hle : xs.length + ys.length ≤ 1000000000) (hbase : base ≤ w.heap.size)
    (h : ∀ v' w', w'.ownsRow base 45 2 v' (xs ++ ys).length (obCells (xs ++ ys)) → w.grownBy w' v.ownBlock → wpList Try.prog ops Q rest (a.put o.dst v') w') : wpList Try.prog ops Q (o :: rest) a w :=
  wpList_plain hgd fun K hK => wp_append_objs s x t ho ht base v xs hs hown u ys hx hu hle hbase fun v' w' h1 h2 => hK _ _ (h v' w' h1 h2)
theorem own_growO {w0 w w' : World} {e : TypeId} {k : Nat} {v : Value} {n : Nat} {xs : List Value} (hb : Below w0.heap.size w0 w) (hown : w.ownsRow w0.heap.size e k v n xs) (hg : w.grownBy w' v.ownBlock) : Below w0.heap.size w0 w' :=
  hb.grown hg hb.size (fun k hk => (hown.lt k hk).1)
theorem owns_emptyO {w : World} {B : Nat} (hB : B ≤ w.heap.size) : (w.alloc (.cells #[] 45)).ownsRow B 45 2 (.slice (some ⟨w.heap.size, 0, none⟩) 0 0) 0 [] :=
  ⟨rfl, .inr ⟨w.heap.size, 0, #[], rfl, hB, (by show (w.heap.push _)[w.heap.size]? = _; simp), Nat.le_refl _, by unfold maxLen; omega, rfl, rfl⟩⟩
/- plain -/
theorem pWrap_append (l m : List Ob) : pWrap (l ++ m) = pWrap l ++ pWrap m := by simp [pWrap]
theorem smallO_append {l m : List Ob} (h1 : smallO l) (h2 : smallO m) : smallO (l ++ m) := fun o ho => by
  rcases List.mem_append.1 ho with h | h
  · exact h1 o h
  · exact h2 o h
theorem sizeS_pos (l : List Slt) (h : ∀ y ∈ l, 0 ≤ y.2.2) : 0 ≤ sizeS l := by
  induction l with
  | nil => simp [sizeS]
  | cons x l ih =>
    have := sizeS_append [x] l
    rw [sizeS_one] at this
    have h1 := ih (fun y hy => h y (by simp [hy]))
    have h2 := h x (by simp)
    rw [show x :: l = [x] ++ l from rfl]
    omega
theorem sizeS_take (l : List Slt) (h : ∀ y ∈ l, 0 ≤ y.2.2) (j : Nat) : 0 ≤ sizeS (l.take j) ∧ sizeS (l.take j) ≤ sizeS l := by
  have h1 := sizeS_pos (l.take j) (fun y hy => h y (List.mem_of_mem_take hy))
  have h2 := sizeS_pos (l.drop j) (fun y hy => h y (List.mem_of_mem_drop hy))
  have h3 := sizeS_append (l.take j) (l.drop j)
  rw [List.take_append_drop] at h3
  omega
theorem sizeS_succ (l : List Slt) (j : Nat) (h : j < l.length) : sizeS (l.take (j + 1)) = sizeS (l.take j) + l[j].2.2 := by
  rw [List.take_succ_eq_append_getElem h, sizeS_append, sizeS_one]
end Go.Proofs.Ytkbpkodakfknoaa
