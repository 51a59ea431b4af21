/- Rows of marks and of reasons: how they are read; appended; sorted. -/
import Derived.Test.YtlikmdmdmljiaaaDoorRetOrder
import Derived.Test.YtlikmdmdmljiaaaDoorStructs
import Derived.Test.YtlikmdmdmljiaaaDoorStrsPush
import Derived.Laws.AppendOwnNone
import Derived.WalkLawsBesides
import Derived.Deep.QuietTactic
import Derived.BigQuiet
import Derived.Shelf.GgSortFunc.InsertionK
namespace Go.Proofs.YtlikmdmdmljiaaaDoor
open Go.RowKit Go.Shelf Go.Lib Go.Sort
set_option linter.unusedVariables false
set_option linter.unusedSimpArgs false
/-- a row of marks, readable -/
def MkB (w : World) (v : Value) (l : List Mk) : Prop :=
  ∃ A c, v = .slice A l.length c ∧ l.length ≤ c ∧ c ≤ maxLen ∧ (0 < l.length → ∃ b off, A = some ⟨b, off, none⟩ ∧ b < w.heap.size ∧ ∀ i (h : i < l.length), w.cell? ⟨b, off + i * 2, none⟩ = some (.string l[i].1) ∧ w.cell? ⟨b, off + i * 2 + 1, none⟩ = some (.int .i64 l[i].2))
theorem MkB.below {w w' : World} {v : Value} {l : List Mk} {B : Nat} (h : MkB w v l) (hb : Below B w w') (hB : w.heap.size ≤ B) : MkB w' v l := by
  obtain ⟨A, c, h1, h2, h3, h4⟩ := h
  refine ⟨A, c, h1, h2, h3, fun hl => ?_⟩
  obtain ⟨b, off, e1, e2, e3⟩ := h4 hl
  refine ⟨b, off, e1, Nat.lt_of_lt_of_le e2 hb.size, fun i hi => ?_⟩
  obtain ⟨c1, c2⟩ := e3 i hi
  have hlt : b < B := Nat.lt_of_lt_of_le e2 hB
  exact ⟨(hb.cell (p := ⟨b, off + i * 2, none⟩) hlt).trans c1, (hb.cell (p := ⟨b, off + i * 2 + 1, none⟩) hlt).trans c2⟩
theorem mk_get : ∀ (l : List Mk) (i : Nat) (h : i < l.length), (l.flatMap (ES2 EStr (EInt .i64)))[i * 2]? = some (.string l[i].1) ∧ (l.flatMap (ES2 EStr (EInt .i64)))[i * 2 + 1]? = some (.int .i64 l[i].2)
  | o :: l, 0, _ => ⟨rfl, rfl⟩
  | o :: l, i + 1, h => by
    have ih := mk_get l i (by simpa using h)
    constructor
    · show ([Value.string o.1, .int .i64 o.2] ++ l.flatMap (ES2 EStr (EInt .i64)))[(i + 1) * 2]? = _
      rw [List.getElem?_append_right (by simp; omega), show (i + 1) * 2 - [Value.string o.1, .int .i64 o.2].length = i * 2 by simp; omega]
      exact ih.1
    · show ([Value.string o.1, .int .i64 o.2] ++ l.flatMap (ES2 EStr (EInt .i64)))[(i + 1) * 2 + 1]? = _
      rw [List.getElem?_append_right (by simp; omega), show (i + 1) * 2 + 1 - [Value.string o.1, .int .i64 o.2].length = i * 2 + 1 by simp; omega]
      exact ih.2
theorem mk_of_sl {w : World} {A : Option Addr} {n c : Nat} {l : List Mk} (h : Sl w A n c 2 (l.flatMap (ES2 EStr (EInt .i64)))) (hn : l.length = n) : MkB w (.slice A n c) l := by
  refine ⟨A, c, by rw [hn], by rw [hn]; exact h.le, h.cap, fun hl => ?_⟩
  obtain ⟨b, off, e1, e2, e3⟩ := h.cells (by omega)
  refine ⟨b, off, e1, e2, fun i hi => ?_⟩
  obtain ⟨g1, g2⟩ := mk_get l i hi
  exact ⟨(e3 (i * 2) (by omega)).trans g1, by rw [Nat.add_assoc]; exact (e3 (i * 2 + 1) (by omega)).trans g2⟩
abbrev mkC (l : List Mk) : List Value := l.flatMap (ES2 EStr (EInt .i64))
theorem mkC_len (l : List Mk) : (mkC l).length = l.length * 2 := by
  induction l with
  | nil => rfl
  | cons o l ih => show ([Value.string o.1, .int .i64 o.2] ++ mkC l).length = _; rw [List.length_append, ih, List.length_cons]; simp; omega
theorem mkC_mem {l : List Mk} {u : Value} (h : u ∈ mkC l) : u.oneCell' = true := by
  obtain ⟨o, _, h2⟩ := List.mem_flatMap.1 h
  simp [ES2, EStr, EInt] at h2
  rcases h2 with rfl | rfl <;> rfl
theorem MkB.of_owns {T : TypeId} {w : World} {v : Value} {l : List Mk} {B : Nat} (h : w.ownsRow B T 2 v l.length (mkC l)) : MkB w v l := by
  have h0 := h
  rcases h.2 with ⟨hv, h0⟩ | ⟨g, cap, cur, hv, hb, hg, hn, hm, hc, ht⟩
  · exact ⟨none, 0, by rw [hv, h0], by omega, by unfold maxLen; omega, fun hl => by omega⟩
  · refine ⟨some ⟨g, 0, none⟩, cap, hv, hn, hm, fun hl => ⟨g, 0, rfl, (Array.getElem?_eq_some_iff.1 hg).1, fun i hi => ?_⟩⟩
    obtain ⟨g1, g2⟩ := mk_get l i hi
    have c1 := h.cells (g := g) (by rw [hv]; rfl) (i * 2) _ g1
    have c2 := h.cells (g := g) (by rw [hv]; rfl) (i * 2 + 1) _ g2
    rw [add_eq] at c1 c2
    exact ⟨c1, by rw [Nat.add_assoc]; exact c2⟩
def MkN (w : World) (v : Value) (l : List Mk) : Prop := MkB w v l ∧ ∀ n c, v = .slice none n c → c = 0
theorem MkN.below {w w' : World} {v : Value} {l : List Mk} {B : Nat} (h : MkN w v l) (hb : Below B w w') (hB : w.heap.size ≤ B) : MkN w' v l := ⟨h.1.below hb hB, h.2⟩
theorem mk_cell {w : World} {b off : Nat} {l : List Mk} (h : ∀ i (h : i < l.length), w.cell? ⟨b, off + i * 2, none⟩ = some (.string l[i].1) ∧ w.cell? ⟨b, off + i * 2 + 1, none⟩ = some (.int .i64 l[i].2)) (j : Nat) (u : Value) (hj : (mkC l)[j]? = some u) : w.cell? ((⟨b, off, none⟩ : Addr).add j) = some u := by
  have hlt := (List.getElem?_eq_some_iff.1 hj).1
  rw [mkC_len] at hlt
  have hi : j / 2 < l.length := by omega
  obtain ⟨g1, g2⟩ := mk_get l (j / 2) hi
  obtain ⟨c1, c2⟩ := h (j / 2) hi
  rw [add_eq]
  rcases Nat.mod_two_eq_zero_or_one j with e | e
  · have ej : j / 2 * 2 = j := by omega
    rw [ej] at g1 c1
    rw [show (l.flatMap (ES2 EStr (EInt .i64)))[j]? = some u from hj] at g1
    cases g1; exact c1
  · have ej : j / 2 * 2 + 1 = j := by omega
    rw [Nat.add_assoc, ej] at c2
    rw [ej, show (l.flatMap (ES2 EStr (EInt .i64)))[j]? = some u from hj] at g2
    cases g2; exact c2
theorem MkB.nil (w : World) : MkB w (.slice none 0 0) [] := ⟨none, 0, rfl, Nat.le_refl _, Nat.zero_le _, fun h => absurd h (Nat.lt_irrefl _)⟩
theorem MkN.nil (w : World) : MkN w (.slice none 0 0) [] := ⟨MkB.nil w, fun n c e => by cases e; rfl⟩
theorem MkN.of_owns {T : TypeId} {w : World} {v : Value} {l : List Mk} {B : Nat} (h : w.ownsRow B T 2 v l.length (mkC l)) : MkN w v l := by
  refine ⟨MkB.of_owns h, fun n c e => ?_⟩
  rcases h.2 with ⟨hv, h0⟩ | ⟨g, cap, cur, hv, _⟩
  · rw [hv] at e; cases e; rfl
  · rw [hv] at e; cases e
theorem new_mk (T : TypeId) (w : World) (x : Mk) (b : Nat) (hb : b = w.heap.size) : MkN (w.alloc (.cells #[.string x.1, .int .i64 x.2] T)) (.slice (some ⟨b, 0, none⟩) 1 1) [x] := by
  subst hb
  refine ⟨⟨_, 1, rfl, Nat.le_refl _, by unfold maxLen; omega, fun _ => ⟨w.heap.size, 0, rfl, by simp, fun i hi => ?_⟩⟩, fun n c e => by cases e⟩
  have : i = 0 := by simpa using hi
  subst this
  have hh : (w.alloc (.cells #[.string x.1, .int .i64 x.2] T)).heap[w.heap.size]? = some (.cells #[.string x.1, .int .i64 x.2] T) := by show (w.heap.push _)[w.heap.size]? = _; simp
  constructor <;> (unfold World.cell?; rw [hh]; rfl)
theorem own_growC {w0 w w' : World} {e : TypeId} {k : Nat} {v : Value} {n : Nat} {xs : List Value} (hb : Below w0.heap.size w0 w) (hown : w.ownsRow w0.heap.size e k v n xs) (hg : w.grownBy w' v.ownBlock) : Below w0.heap.size w0 w' :=
  hb.grown hg hb.size (fun k hk => (hown.lt k hk).1)
theorem mksInfo : (Tryd.prog.info? 29).map (fun i => (i.zero, i.size, i.bytes)) = some (some (.agg #[.string ByteArray.empty, .int .i64 0]), 2, 24) := by kernel_rfl
theorem wp_append_mks {w : World} {o : Oper} {a : Act} {K : Act → World → Prop} {Q : Exit → Act → World → Prop} (s x : Operand) (t : TypeId)
    (ho : o.op = .call { callee := .builtin .append, args := #[s, x], argTypes := #[t, t] }) (ht : Tryd.prog.underlying t = some (.slice 29))
    (base : Nat) (v : Value) (xs : List Mk) (hs : a.eval s = v) (hown : w.ownsRow base 29 2 v xs.length (mkC xs))
    (u : Value) (ys : List Mk) (hx : a.eval x = u) (hu : MkN w u ys) (hle : xs.length + ys.length ≤ 1000000000) (hbase : base ≤ w.heap.size)
    (h : ∀ v' w', w'.ownsRow base 29 2 v' (xs ++ ys).length (mkC (xs ++ ys)) → w.grownBy w' v.ownBlock → K (a.put o.dst v') w') : o.wp Tryd.prog a w K Q := by
  obtain ⟨i0, hi, hz0, hz1, hz2⟩ := info_parts mksInfo
  obtain ⟨⟨A, c, e, h2, h3, h4⟩, h5⟩ := hu
  subst e
  cases A with
  | none =>
    have hc := h5 _ _ rfl
    subst hc
    have hl : ys = [] := List.length_eq_zero_iff.1 (by omega)
    subst hl
    have hrun := run_append_owned_none (P := Tryd.prog) (w := w) base t o.type 29 i0 2 ht hi v _ _ hown
    unfold Oper.wp
    simp [execOp, ho, resolve, invoke, builtin, hs, hx, hrun, Result.andThen]
    exact h _ _ (by simpa using hown) (World.grownBy.refl w _)
  | some ad =>
    refine wp_append_own w s x t ho base 29 i0 (.agg #[.string ByteArray.empty, .int .i64 0]) 2 24 ht hi hz0 hz1 hz2 rfl (by decide) v _ _ hs hown ad ys.length c (mkC ys) hx (mkC_len ys) ?_ (fun u hu => mkC_mem hu) (by unfold maxLen; omega) (by omega) hbase ?_
    · intro j u' hj
      have hj' : j < ys.length * 2 := by
        have := (List.getElem?_eq_some_iff.1 hj).1
        rw [mkC_len] at this; exact this
      obtain ⟨b, off, e1, e2, e3⟩ := h4 (by omega)
      cases e1
      exact mk_cell e3 j u' hj
    · intro v' w' h1 h2 _
      exact h v' w' (by simpa [mkC] using h1) h2
theorem wpList_append_mks {w : World} {ops : Array Oper} {rest : List Oper} {o : Oper} {a : Act} {Q : Exit → Act → World → Prop} (hgd : o.guard = none) (s x : Operand) (t : TypeId)
    (ho : o.op = .call { callee := .builtin .append, args := #[s, x], argTypes := #[t, t] }) (ht : Tryd.prog.underlying t = some (.slice 29))
    (base : Nat) (v : Value) (xs : List Mk) (hs : a.eval s = v) (hown : w.ownsRow base 29 2 v xs.length (mkC xs))
    (u : Value) (ys : List Mk) (hx : a.eval x = u) (hu : MkN w u ys) (hle : xs.length + ys.length ≤ 1000000000) (hbase : base ≤ w.heap.size)
    (h : ∀ v' w', w'.ownsRow base 29 2 v' (xs ++ ys).length (mkC (xs ++ ys)) → w.grownBy w' v.ownBlock → wpList Tryd.prog ops Q rest (a.put o.dst v') w') : wpList Tryd.prog ops Q (o :: rest) a w :=
  wpList_plain hgd fun K hK => wp_append_mks s x t ho ht base v xs hs hown u ys hx hu hle hbase fun v' w' h1 h2 => hK _ _ (h v' w' h1 h2)
theorem rsnsInfo : (Tryd.prog.info? 37).map (fun i => (i.zero, i.size, i.bytes)) = some (some (.agg #[.string ByteArray.empty, .int .i64 0]), 2, 24) := by kernel_rfl
theorem wp_append_rsns {w : World} {o : Oper} {a : Act} {K : Act → World → Prop} {Q : Exit → Act → World → Prop} (s x : Operand) (t : TypeId)
    (ho : o.op = .call { callee := .builtin .append, args := #[s, x], argTypes := #[t, t] }) (ht : Tryd.prog.underlying t = some (.slice 37))
    (base : Nat) (v : Value) (xs : List Mk) (hs : a.eval s = v) (hown : w.ownsRow base 37 2 v xs.length (mkC xs))
    (u : Value) (ys : List Mk) (hx : a.eval x = u) (hu : MkN w u ys) (hle : xs.length + ys.length ≤ 1000000000) (hbase : base ≤ w.heap.size)
    (h : ∀ v' w', w'.ownsRow base 37 2 v' (xs ++ ys).length (mkC (xs ++ ys)) → w.grownBy w' v.ownBlock → K (a.put o.dst v') w') : o.wp Tryd.prog a w K Q := by
  obtain ⟨i0, hi, hz0, hz1, hz2⟩ := info_parts rsnsInfo
  obtain ⟨⟨A, c, e, h2, h3, h4⟩, h5⟩ := hu
  subst e
  cases A with
  | none =>
    have hc := h5 _ _ rfl
    subst hc
    have hl : ys = [] := List.length_eq_zero_iff.1 (by omega)
    subst hl
    have hrun := run_append_owned_none (P := Tryd.prog) (w := w) base t o.type 37 i0 2 ht hi v _ _ hown
    unfold Oper.wp
    simp [execOp, ho, resolve, invoke, builtin, hs, hx, hrun, Result.andThen]
    exact h _ _ (by simpa using hown) (World.grownBy.refl w _)
  | some ad =>
    refine wp_append_own w s x t ho base 37 i0 (.agg #[.string ByteArray.empty, .int .i64 0]) 2 24 ht hi hz0 hz1 hz2 rfl (by decide) v _ _ hs hown ad ys.length c (mkC ys) hx (mkC_len ys) ?_ (fun u hu => mkC_mem hu) (by unfold maxLen; omega) (by omega) hbase ?_
    · intro j u' hj
      have hj' : j < ys.length * 2 := by
        have := (List.getElem?_eq_some_iff.1 hj).1
        rw [mkC_len] at this; exact this
      obtain ⟨b, off, e1, e2, e3⟩ := h4 (by omega)
      cases e1
      exact mk_cell e3 j u' hj
    · intro v' w' h1 h2 _
      exact h v' w' (by simpa [mkC] using h1) h2
theorem wpList_append_rsns {w : World} {ops : Array Oper} {rest : List Oper} {o : Oper} {a : Act} {Q : Exit → Act → World → Prop} (hgd : o.guard = none) (s x : Operand) (t : TypeId)
    (ho : o.op = .call { callee := .builtin .append, args := #[s, x], argTypes := #[t, t] }) (ht : Tryd.prog.underlying t = some (.slice 37))
    (base : Nat) (v : Value) (xs : List Mk) (hs : a.eval s = v) (hown : w.ownsRow base 37 2 v xs.length (mkC xs))
    (u : Value) (ys : List Mk) (hx : a.eval x = u) (hu : MkN w u ys) (hle : xs.length + ys.length ≤ 1000000000) (hbase : base ≤ w.heap.size)
    (h : ∀ v' w', w'.ownsRow base 37 2 v' (xs ++ ys).length (mkC (xs ++ ys)) → w.grownBy w' v.ownBlock → wpList Tryd.prog ops Q rest (a.put o.dst v') w') : wpList Tryd.prog ops Q (o :: rest) a w :=
  wpList_plain hgd fun K hK => wp_append_rsns s x t ho ht base v xs hs hown u ys hx hu hle hbase fun v' w' h1 h2 => hK _ _ (h v' w' h1 h2)
/-- a mark's cells -/
def encM (x : Mk) : List Value := [.string x.1, .int .i64 x.2]
theorem mk_holds {T : TypeId} {w : World} {g : Nat} {cur : Array Value} {l : List Mk} (hb : w.heap[g]? = some (.cells cur T (0, 0))) (ht : cur.toList.take (l.length * 2) = mkC l) : HoldsK encM 2 w g 0 l.toArray := by
  intro j hj
  have hj' : j < l.length * 2 := by simpa using hj
  refine ⟨?_, by simp [World.frozen?, hb]⟩
  have h1 : (cur.toList.take (l.length * 2))[j]? = (mkC l)[j]? := by rw [ht]
  rw [List.getElem?_take_of_lt hj'] at h1
  have hi : j / 2 < l.length := by omega
  obtain ⟨g1, g2⟩ := mk_get l (j / 2) hi
  have h2 : (mkC l)[j]? = some ((flatK encM 2 l.toArray)[j]!) := by
    rw [get_flatK _ _ _ _ (by simpa using hj')]
    have e0 : l.toArray[j / 2]! = l[j / 2] := by simp [hi]
    rw [e0]
    rcases Nat.mod_two_eq_zero_or_one j with e | e
    · have ej : j / 2 * 2 = j := by omega
      rw [ej] at g1
      rw [e]; exact g1
    · have ej : j / 2 * 2 + 1 = j := by omega
      rw [ej] at g2
      rw [e]; exact g2
  rw [h2] at h1
  simp only [World.cell?, hb, Nat.zero_add]
  simp only [Option.isSome_none, Bool.false_eq_true, if_false]
  rw [← Array.getElem?_toList, h1]
  rfl
theorem mkN_holds {w : World} {g cap : Nat} {l : List Mk} (h : HoldsK encM 2 w g 0 l.toArray) (hg : g < w.heap.size) (h1 : l.length ≤ cap) (h2 : cap ≤ maxLen) : MkN w (.slice (some ⟨g, 0, none⟩) l.length cap) l := by
  refine ⟨⟨_, cap, rfl, h1, h2, fun _ => ⟨g, 0, rfl, hg, fun i hi => ?_⟩⟩, fun n c e => by cases e⟩
  have c0 := (h.cell (i := i) (c := 0) (by simpa using hi) (by decide)).1
  have c1 := (h.cell (i := i) (c := 1) (by simpa using hi) (by decide)).1
  have e0 : l.toArray[i]! = l[i] := by simp [hi]
  rw [e0] at c0 c1
  exact ⟨c0, c1⟩
theorem grownBy_sortK {w : World} {g n : Nat} {os : Array Obj} (d : Array Mk) : w.grownBy (sortWorldK encM 2 w g 0 n d os) (some g) := by
  refine ⟨rfl, rfl, rfl, by simp [sortWorldK, putRowK], fun k hk hne => ?_⟩
  unfold sortWorldK
  rw [heap_grow_old _ _ (by simpa [putRowK] using hk)]
  have : g ≠ k := fun e => hne (by rw [e])
  simp [putRowK, putRow, mapBlock, Sort.ahead, Array.getElem?_modify, this]
end Go.Proofs.YtlikmdmdmljiaaaDoor
