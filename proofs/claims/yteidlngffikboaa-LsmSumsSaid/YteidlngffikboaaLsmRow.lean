/- Rows of counts: how they are read; appended. (cut from PackOc and PackWrap by program) -/
import Derived.Test.YteidlngffikboaaLsmP2
import Derived.Test.YteidlngffikboaaStructs
import Derived.Test.YteidlngffikboaaStrsPush
import Derived.Laws.AppendOwnNone
import Derived.WalkLawsBesides
import Derived.Deep.QuietTactic
import Derived.BigQuiet
namespace Go.Proofs.Yteidlngffikboaa
open Go.RowKit
set_option linter.unusedVariables false
set_option linter.unusedSimpArgs false
/-- a row of counts, readable -/
def CntB (w : World) (v : Value) (l : List Cnt) : Prop :=
  ∃ A c, v = .slice A l.length c ∧ l.length ≤ c ∧ c ≤ maxLen ∧ (0 < l.length → ∃ b off, A = some ⟨b, off, none⟩ ∧ b < w.heap.size ∧ ∀ i (h : i < l.length), w.cell? ⟨b, off + i * 2, none⟩ = some (.string l[i].1) ∧ w.cell? ⟨b, off + i * 2 + 1, none⟩ = some (.int .i64 l[i].2))
theorem CntB.below {w w' : World} {v : Value} {l : List Cnt} {B : Nat} (h : CntB w v l) (hb : Below B w w') (hB : w.heap.size ≤ B) : CntB w' v l := by
  obtain ⟨A, c, h1, h2, h3, h4⟩ := h
  refine ⟨A, c, h1, h2, h3, fun hl => ?_⟩
  obtain ⟨b, off, e1, e2, e3⟩ := h4 hl
  refine ⟨b, off, e1, Nat.lt_of_lt_of_le e2 hb.size, fun i hi => ?_⟩
  obtain ⟨c1, c2⟩ := e3 i hi
  have hlt : b < B := Nat.lt_of_lt_of_le e2 hB
  exact ⟨(hb.cell (p := ⟨b, off + i * 2, none⟩) hlt).trans c1, (hb.cell (p := ⟨b, off + i * 2 + 1, none⟩) hlt).trans c2⟩
theorem cn_get : ∀ (l : List Cnt) (i : Nat) (h : i < l.length), (l.flatMap (ES2 EStr (EInt .i64)))[i * 2]? = some (.string l[i].1) ∧ (l.flatMap (ES2 EStr (EInt .i64)))[i * 2 + 1]? = some (.int .i64 l[i].2)
  | o :: l, 0, _ => ⟨rfl, rfl⟩
  | o :: l, i + 1, h => by
    have ih := cn_get l i (by simpa using h)
    constructor
    · show ([Value.string o.1, .int .i64 o.2] ++ l.flatMap (ES2 EStr (EInt .i64)))[(i + 1) * 2]? = _
      rw [List.getElem?_append_right (by simp; omega), show (i + 1) * 2 - [Value.string o.1, .int .i64 o.2].length = i * 2 by simp; omega]
      exact ih.1
    · show ([Value.string o.1, .int .i64 o.2] ++ l.flatMap (ES2 EStr (EInt .i64)))[(i + 1) * 2 + 1]? = _
      rw [List.getElem?_append_right (by simp; omega), show (i + 1) * 2 + 1 - [Value.string o.1, .int .i64 o.2].length = i * 2 + 1 by simp; omega]
      exact ih.2
theorem cnt_of_sl {w : World} {A : Option Addr} {n c : Nat} {l : List Cnt} (h : Sl w A n c 2 (l.flatMap (ES2 EStr (EInt .i64)))) (hn : l.length = n) : CntB w (.slice A n c) l := by
  refine ⟨A, c, by rw [hn], by rw [hn]; exact h.le, h.cap, fun hl => ?_⟩
  obtain ⟨b, off, e1, e2, e3⟩ := h.cells (by omega)
  refine ⟨b, off, e1, e2, fun i hi => ?_⟩
  obtain ⟨g1, g2⟩ := cn_get l i hi
  exact ⟨(e3 (i * 2) (by omega)).trans g1, by rw [Nat.add_assoc]; exact (e3 (i * 2 + 1) (by omega)).trans g2⟩
theorem cntInfo : (Try.prog.info? 51).map (fun i => (i.zero, i.size, i.bytes)) = some (some (.agg #[.string ByteArray.empty, .int .i64 0]), 2, 24) := by kernel_rfl
abbrev cnC (l : List Cnt) : List Value := l.flatMap (ES2 EStr (EInt .i64))
theorem cnC_len (l : List Cnt) : (cnC l).length = l.length * 2 := by
  induction l with
  | nil => rfl
  | cons o l ih => show ([Value.string o.1, .int .i64 o.2] ++ cnC l).length = _; rw [List.length_append, ih, List.length_cons]; simp; omega
theorem cnC_mem {l : List Cnt} {u : Value} (h : u ∈ cnC l) : u.oneCell' = true := by
  obtain ⟨o, _, h2⟩ := List.mem_flatMap.1 h
  simp [ES2, EStr, EInt] at h2
  rcases h2 with rfl | rfl <;> rfl
theorem CntB.of_owns {w : World} {v : Value} {l : List Cnt} {B : Nat} (h : w.ownsRow B 51 2 v l.length (cnC l)) : CntB w v l := by
  have h0 := h
  rcases h.2 with ⟨hv, h0⟩ | ⟨g, cap, cur, hv, hb, hg, hn, hm, hc, ht⟩
  · exact ⟨none, 0, by rw [hv, h0], by omega, by unfold maxLen; omega, fun hl => by omega⟩
  · refine ⟨some ⟨g, 0, none⟩, cap, hv, hn, hm, fun hl => ⟨g, 0, rfl, (Array.getElem?_eq_some_iff.1 hg).1, fun i hi => ?_⟩⟩
    obtain ⟨g1, g2⟩ := cn_get l i hi
    have c1 := h.cells (g := g) (by rw [hv]; rfl) (i * 2) _ g1
    have c2 := h.cells (g := g) (by rw [hv]; rfl) (i * 2 + 1) _ g2
    rw [add_eq] at c1 c2
    exact ⟨c1, by rw [Nat.add_assoc]; exact c2⟩
def CntN (w : World) (v : Value) (l : List Cnt) : Prop := CntB w v l ∧ ∀ n c, v = .slice none n c → c = 0
theorem CntN.below {w w' : World} {v : Value} {l : List Cnt} {B : Nat} (h : CntN w v l) (hb : Below B w w') (hB : w.heap.size ≤ B) : CntN w' v l := ⟨h.1.below hb hB, h.2⟩
theorem cn_cell {w : World} {b off : Nat} {l : List Cnt} (h : ∀ i (h : i < l.length), w.cell? ⟨b, off + i * 2, none⟩ = some (.string l[i].1) ∧ w.cell? ⟨b, off + i * 2 + 1, none⟩ = some (.int .i64 l[i].2)) (j : Nat) (u : Value) (hj : (cnC l)[j]? = some u) : w.cell? ((⟨b, off, none⟩ : Addr).add j) = some u := by
  have hlt := (List.getElem?_eq_some_iff.1 hj).1
  rw [cnC_len] at hlt
  have hi : j / 2 < l.length := by omega
  obtain ⟨g1, g2⟩ := cn_get l (j / 2) hi
  obtain ⟨c1, c2⟩ := h (j / 2) hi
  rw [add_eq]
  rcases Nat.mod_two_eq_zero_or_one j with e | e
  · have ej : j / 2 * 2 = j := by omega
    rw [ej] at g1 c1
    rw [show (l.flatMap (ES2 EStr (EInt .i64)))[j]? = some u from hj] at g1
    cases g1; exact c1
  · have ej : j / 2 * 2 + 1 = j := by omega
    rw [Nat.add_assoc, ej] at c2
    rw [ej, show (l.flatMap (ES2 EStr (EInt .i64)))[j]? = some u from hj] at g2
    cases g2; exact c2
theorem wp_append_cnts {w : World} {o : Oper} {a : Act} {K : Act → World → Prop} {Q : Exit → Act → World → Prop} (s x : Operand) (t : TypeId)
    (ho : o.op = .call { callee := .builtin .append, args := #[s, x], argTypes := #[t, t] }) (ht : Try.prog.underlying t = some (.slice 51))
    (base : Nat) (v : Value) (xs : List Cnt) (hs : a.eval s = v) (hown : w.ownsRow base 51 2 v xs.length (cnC xs))
    (u : Value) (ys : List Cnt) (hx : a.eval x = u) (hu : CntN w u ys) (hle : xs.length + ys.length ≤ 1000000000) (hbase : base ≤ w.heap.size)
    (h : ∀ v' w', w'.ownsRow base 51 2 v' (xs ++ ys).length (cnC (xs ++ ys)) → w.grownBy w' v.ownBlock → K (a.put o.dst v') w') : o.wp Try.prog a w K Q := by
  obtain ⟨i0, hi, hz0, hz1, hz2⟩ := info_parts cntInfo
  obtain ⟨⟨A, c, e, h2, h3, h4⟩, h5⟩ := hu
  subst e
  cases A with
  | none =>
    have hc := h5 _ _ rfl
    subst hc
    have hl : ys = [] := List.length_eq_zero_iff.1 (by omega)
    subst hl
    have hrun := run_append_owned_none (P := Try.prog) (w := w) base t o.type 51 i0 2 ht hi v _ _ hown
    unfold Oper.wp
    simp [execOp, ho, resolve, invoke, builtin, hs, hx, hrun, Result.andThen]
    exact h _ _ (by simpa using hown) (World.grownBy.refl w _)
  | some ad =>
    refine wp_append_own w s x t ho base 51 i0 (.agg #[.string ByteArray.empty, .int .i64 0]) 2 24 ht hi hz0 hz1 hz2 rfl (by decide) v _ _ hs hown ad ys.length c (cnC ys) hx (cnC_len ys) ?_ (fun u hu => cnC_mem hu) (by unfold maxLen; omega) (by omega) hbase ?_
    · intro j u' hj
      have hj' : j < ys.length * 2 := by
        have := (List.getElem?_eq_some_iff.1 hj).1
        rw [cnC_len] at this; exact this
      obtain ⟨b, off, e1, e2, e3⟩ := h4 (by omega)
      cases e1
      exact cn_cell e3 j u' hj
    · intro v' w' h1 h2 _
      exact h v' w' (by simpa [cnC] using h1) h2
theorem wpList_append_cnts {w : World} {ops : Array Oper} {rest : List Oper} {o : Oper} {a : Act} {Q : Exit → Act → World → Prop} (hgd : o.guard = none) (s x : Operand) (t : TypeId)
    (ho : o.op = .call { callee := .builtin .append, args := #[s, x], argTypes := #[t, t] }) (ht : Try.prog.underlying t = some (.slice 51))
    (base : Nat) (v : Value) (xs : List Cnt) (hs : a.eval s = v) (hown : w.ownsRow base 51 2 v xs.length (cnC xs))
    (u : Value) (ys : List Cnt) (hx : a.eval x = u) (hu : CntN w u ys) (hle : xs.length + ys.length ≤ 1000000000) (hbase : base ≤ w.heap.size)
    (h : ∀ v' w', w'.ownsRow base 51 2 v' (xs ++ ys).length (cnC (xs ++ ys)) → w.grownBy w' v.ownBlock → wpList Try.prog ops Q rest (a.put o.dst v') w') : wpList Try.prog ops Q (o :: rest) a w :=
  wpList_plain hgd fun K hK => wp_append_cnts s x t ho ht base v xs hs hown u ys hx hu hle hbase fun v' w' h1 h2 => hK _ _ (h v' w' h1 h2)
theorem own_growC {w0 w w' : World} {e : TypeId} {k : Nat} {v : Value} {n : Nat} {xs : List Value} (hb : Below w0.heap.size w0 w) (hown : w.ownsRow w0.heap.size e k v n xs) (hg : w.grownBy w' v.ownBlock) : Below w0.heap.size w0 w' :=
  hb.grown hg hb.size (fun k hk => (hown.lt k hk).1)
theorem owns_emptyC {w : World} {B : Nat} (hB : B ≤ w.heap.size) : (w.alloc (.cells #[] 51)).ownsRow B 51 2 (.slice (some ⟨w.heap.size, 0, none⟩) 0 0) 0 [] :=
  ⟨rfl, .inr ⟨w.heap.size, 0, #[], rfl, hB, (by show (w.heap.push _)[w.heap.size]? = _; simp), Nat.le_refl _, by unfold maxLen; omega, rfl, rfl⟩⟩
/- plain -/
/-- a row of rows, readable -/
def RunsB (w : World) (v : Value) (l : List (List Cnt)) : Prop :=
  ∃ A c, v = .slice A l.length c ∧ l.length ≤ c ∧ c ≤ maxLen ∧ (0 < l.length → ∃ b off, A = some ⟨b, off, none⟩ ∧ b < w.heap.size ∧ ∀ i (h : i < l.length), ∃ u, w.cell? ⟨b, off + i, none⟩ = some u ∧ CntN w u l[i])
def RunsN (w : World) (v : Value) (l : List (List Cnt)) : Prop := RunsB w v l ∧ ∀ n c, v = .slice none n c → c = 0
theorem RunsB.below {w w' : World} {v : Value} {l : List (List Cnt)} {B : Nat} (h : RunsB w v l) (hb : Below B w w') (hB : w.heap.size ≤ B) : RunsB w' v l := by
  obtain ⟨A, c, h1, h2, h3, h4⟩ := h
  refine ⟨A, c, h1, h2, h3, fun hl => ?_⟩
  obtain ⟨b, off, e1, e2, e3⟩ := h4 hl
  refine ⟨b, off, e1, Nat.lt_of_lt_of_le e2 hb.size, fun i hi => ?_⟩
  obtain ⟨u, c1, c2⟩ := e3 i hi
  exact ⟨u, (hb.cell (p := ⟨b, off + i, none⟩) (Nat.lt_of_lt_of_le e2 hB)).trans c1, c2.below hb hB⟩
theorem RunsN.below {w w' : World} {v : Value} {l : List (List Cnt)} {B : Nat} (h : RunsN w v l) (hb : Below B w w') (hB : w.heap.size ≤ B) : RunsN w' v l := ⟨h.1.below hb hB, h.2⟩
theorem CntB.nil (w : World) : CntB w (.slice none 0 0) [] := ⟨none, 0, rfl, Nat.le_refl _, Nat.zero_le _, fun h => absurd h (Nat.lt_irrefl _)⟩
theorem CntN.nil (w : World) : CntN w (.slice none 0 0) [] := ⟨CntB.nil w, fun n c e => by cases e; rfl⟩
theorem CntN.of_owns {w : World} {v : Value} {l : List Cnt} {B : Nat} (h : w.ownsRow B 51 2 v l.length (cnC l)) : CntN w v l := by
  refine ⟨CntB.of_owns h, fun n c e => ?_⟩
  rcases h.2 with ⟨hv, h0⟩ | ⟨g, cap, cur, hv, _⟩
  · rw [hv] at e; cases e; rfl
  · rw [hv] at e; cases e
/-- a row's slice, and what is known of it in a walk -/
theorem CntB.shape {w : World} {v : Value} {l : List Cnt} (h : CntB w v l) : ∃ A c, v = .slice A l.length c ∧ (0 < l.length → ∃ b off, A = some ⟨b, off, none⟩ ∧ b < w.heap.size ∧ ∀ i (h : i < l.length), w.cell? ⟨b, off + i * 2, none⟩ = some (.string l[i].1) ∧ w.cell? ⟨b, off + i * 2 + 1, none⟩ = some (.int .i64 l[i].2)) := by
  obtain ⟨A, c, h1, _, _, h4⟩ := h
  exact ⟨A, c, h1, h4⟩
end Go.Proofs.Yteidlngffikboaa
