/- Rows of frames: how they are read, appended, cloned and searched. -/
import Derived.Test.YtjgjhjecgdndjaaLoIns
import Derived.Test.YtjgjhjecgdndjaaLinkSame
import Derived.Test.YtjgjhjecgdndjaaLinkFill
import Derived.WalkLawsBesides
import Derived.Deep.QuietTactic
import Derived.BigQuiet
namespace Go.Proofs.Ytjgjhjecgdndjaa
open Go.RowKit
set_option linter.unusedVariables false
set_option linter.unusedSimpArgs false
abbrev OwnF (w : World) (B : Nat) (v : Value) (n : Nat) (xs : List Value) : Prop := w.ownsRow B 24 4 v n xs
def Fc (x : Frm4) : List Value := [.int .u64 x.1.toNat, .int .i64 x.2.1, .int .i64 x.2.2.1, .string x.2.2.2]
/-- .. a nil one has no room -/
def FrsN (w : World) (v : Value) (l : List Frm4) : Prop := FrsB w v l ∧ ∀ n c, v = .slice none n c → c = 0
def frC (l : List Frm4) : List Value := l.flatMap Fc
theorem frC_len (l : List Frm4) : (frC l).length = l.length * 4 := by
  induction l with
  | nil => rfl
  | cons x l ih => simp only [frC, List.flatMap_cons, List.length_append, List.length_cons] at *; rw [ih]; simp [Fc]; omega
theorem frC_cons (x : Frm4) (l : List Frm4) : frC (x :: l) = Value.int .u64 x.1.toNat :: .int .i64 x.2.1 :: .int .i64 x.2.2.1 :: .string x.2.2.2 :: frC l := by simp [frC, Fc]
theorem frC_append (a b : List Frm4) : frC (a ++ b) = frC a ++ frC b := by simp [frC]
theorem frC_take (l : List Frm4) (i : Nat) : (frC l).take (i * 4) = frC (l.take i) := by
  induction l generalizing i with
  | nil => simp [frC]
  | cons x l ih =>
    cases i with
    | zero => simp [frC]
    | succ i =>
      rw [frC_cons, List.take_succ_cons, frC_cons, show (i + 1) * 4 = i * 4 + 1 + 1 + 1 + 1 by omega, List.take_succ_cons, List.take_succ_cons, List.take_succ_cons, List.take_succ_cons, ih]
theorem frC_drop (l : List Frm4) (i : Nat) : (frC l).drop (i * 4) = frC (l.drop i) := by
  induction l generalizing i with
  | nil => simp [frC]
  | cons x l ih =>
    cases i with
    | zero => simp
    | succ i =>
      rw [frC_cons, List.drop_succ_cons, show (i + 1) * 4 = i * 4 + 1 + 1 + 1 + 1 by omega, List.drop_succ_cons, List.drop_succ_cons, List.drop_succ_cons, List.drop_succ_cons, ih]
theorem frC_get (l : List Frm4) (i : Nat) (h : i < l.length) : (frC l)[i * 4]? = some (.int .u64 l[i].1.toNat) ∧ (frC l)[i * 4 + 1]? = some (.int .i64 l[i].2.1) ∧ (frC l)[i * 4 + 2]? = some (.int .i64 l[i].2.2.1) ∧ (frC l)[i * 4 + 3]? = some (.string l[i].2.2.2) := by
  induction l generalizing i with
  | nil => simp at h
  | cons x l ih =>
    rw [frC_cons]
    cases i with
    | zero => exact ⟨rfl, rfl, rfl, rfl⟩
    | succ i =>
      rw [show (i + 1) * 4 = i * 4 + 1 + 1 + 1 + 1 by omega]
      exact ih i (by simpa using h)
theorem frC_one (l : List Frm4) : ∀ v ∈ frC l, v.oneCell' = true := by
  induction l with
  | nil => simp [frC]
  | cons x l ih =>
    intro v hv
    rw [frC_cons] at hv
    simp only [List.mem_cons] at hv
    rcases hv with rfl | rfl | rfl | rfl | hv
    · rfl
    · rfl
    · rfl
    · rfl
    · exact ih v hv
theorem FrsN.below {w w' : World} {v : Value} {l : List Frm4} {B : Nat} (h : FrsN w v l) (hb : Below B w w') (hB : w.heap.size ≤ B) : FrsN w' v l := ⟨h.1.below hb hB, h.2⟩
theorem FrsB.of_owns {w : World} {v : Value} {l : List Frm4} {B : Nat} (h : OwnF w B v l.length (frC l)) : FrsB w v l := by
  rcases h.2 with ⟨hv, h0⟩ | ⟨g, cap, cur, hv, hb, hg, h1, h2, h3, h4⟩
  · exact ⟨none, 0, by rw [hv, h0], by omega, by unfold maxLen; omega, fun hl => by omega⟩
  · refine ⟨_, cap, hv, h1, h2, fun hl => ⟨g, 0, rfl, (Array.getElem?_eq_some_iff.1 hg).1, fun i hi => ?_⟩⟩
    have hc : ∀ j u, (frC l)[j]? = some u → w.cell? ⟨g, 0 + j, none⟩ = some u := fun j u hj => by
      rw [← h4] at hj
      have hlt : j < l.length * 4 := by
        refine Decidable.byContradiction fun hh => ?_
        rw [List.getElem?_eq_none (by rw [List.length_take]; omega)] at hj
        cases hj
      rw [List.getElem?_take_of_lt hlt] at hj
      simp only [World.cell?, hg]
      simpa using hj
    obtain ⟨s1, s2, s3, s4⟩ := frC_get l i hi
    exact ⟨hc _ _ s1, by rw [Nat.add_assoc]; exact hc _ _ s2, by rw [Nat.add_assoc]; exact hc _ _ s3, by rw [Nat.add_assoc]; exact hc _ _ s4⟩
theorem FrsN.of_owns {w : World} {v : Value} {l : List Frm4} {B : Nat} (h : OwnF w B v l.length (frC l)) : FrsN w v l := by
  refine ⟨FrsB.of_owns h, fun n c e => ?_⟩
  rcases h.2 with ⟨hv, h0⟩ | ⟨g, cap, cur, hv, hb, hg, h1, h2, h3, h4⟩
  · rw [hv] at e; cases e; rfl
  · rw [hv] at e; cases e
theorem FrsN.nil (w : World) : FrsN w (.slice none 0 0) [] := ⟨⟨none, 0, rfl, by simp, by unfold maxLen; omega, fun h => absurd h (by simp)⟩, fun n c e => by cases e; rfl⟩
theorem FrsN.len {w : World} {v : Value} {l : List Frm4} (h : FrsN w v l) : ∃ A c, v = .slice A l.length c ∧ l.length ≤ c ∧ c ≤ maxLen := by
  obtain ⟨⟨A, c, h1, h2, h3, _⟩, _⟩ := h
  exact ⟨A, c, h1, h2, h3⟩
/-- the cells that a row's reader meets -/
theorem FrsB.src {w : World} {A : Option Addr} {n c : Nat} {l : List Frm4} (h : FrsB w (.slice A n c) l) (ad : Addr) (hA : A = some ad) : ∀ j u, (frC l)[j]? = some u → w.cell? (ad.add j) = some u := by
  intro j u hj
  obtain ⟨A', c', e, h2, h3, h4⟩ := h
  cases e
  have hjl : j < l.length * 4 := by
    refine Decidable.byContradiction fun hh => ?_
    rw [List.getElem?_eq_none (by rw [frC_len]; omega)] at hj
    cases hj
  obtain ⟨b, off, e1, e2, e3⟩ := h4 (by omega)
  rw [hA] at e1
  cases e1
  rw [Addr.add_lit]
  have hi : j / 4 < l.length := by omega
  obtain ⟨g1, g2, g3, g4⟩ := e3 _ hi
  obtain ⟨s1, s2, s3, s4⟩ := frC_get l _ hi
  have hm : j = j / 4 * 4 ∨ j = j / 4 * 4 + 1 ∨ j = j / 4 * 4 + 2 ∨ j = j / 4 * 4 + 3 := by omega
  rcases hm with hm | hm | hm | hm
  · rw [hm] at hj; rw [s1] at hj; rw [hm, ← hj]; simpa using g1
  · rw [hm] at hj; rw [s2] at hj; rw [hm, ← hj, ← Nat.add_assoc]; simpa using g2
  · rw [hm] at hj; rw [s3] at hj; rw [hm, ← hj, ← Nat.add_assoc]; simpa using g3
  · rw [hm] at hj; rw [s4] at hj; rw [hm, ← hj, ← Nat.add_assoc]; simpa using g4
theorem FrsN.drop {w : World} {A : Option Addr} {n c : Nat} {l : List Frm4} (h : FrsN w (.slice A n c) l) (k : Nat) (hk : k ≤ l.length) : FrsN w (sliced A k n c 4) (l.drop k) := by
  obtain ⟨⟨A', c', e, h2, h3, h4⟩, h5⟩ := h
  cases e
  have hl : (l.drop k).length = l.length - k := by simp
  unfold sliced
  by_cases hc : c = k
  · rw [if_pos hc]
    refine ⟨⟨A, c - k, by rw [hl], by omega, by omega, fun hp => by omega⟩, fun n' c' e => by cases e; omega⟩
  · rw [if_neg hc]
    refine ⟨⟨_, c - k, by rw [hl], by omega, by omega, fun hp => ?_⟩, fun n' c' e => ?_⟩
    · obtain ⟨b, off, e1, e2, e3⟩ := h4 (by omega)
      subst e1
      refine ⟨b, off + k * 4, by simp [Addr.add], e2, fun j hj => ?_⟩
      obtain ⟨g1, g2, g3, g4⟩ := e3 (k + j) (by omega)
      simp only [List.getElem_drop]
      rw [show off + k * 4 + j * 4 = off + (k + j) * 4 by omega]
      exact ⟨g1, g2, g3, g4⟩
    · cases A with
      | none => have := h5 _ _ rfl; simp at e; omega
      | some a => simp at e
theorem wpList_append_fN {w : World} {ops : Array Oper} {rest : List Oper} {o : Oper} {a : Act} {Q : Exit → Act → World → Prop} (hgd : o.guard = none) (s x : Operand)
    (ho : o.op = .call { callee := .builtin .append, args := #[s, x], argTypes := #[35, 35] })
    (base : Nat) (v : Value) (hs : a.eval s = v) (l0 : List Frm4) (hown : OwnF w base v l0.length (frC l0)) (ad : Addr) (n c : Nat) (l : List Frm4) (hx : a.eval x = .slice (some ad) n c) (hn : l.length = n) (hc : ∀ j u, (frC l)[j]? = some u → w.cell? (ad.add j) = some u) (hl : l0.length + n ≤ 1000000000) (hbase : base ≤ w.heap.size)
    (h : ∀ v' w', OwnF w' base v' (l0 ++ l).length (frC (l0 ++ l)) → w.grownBy w' v.ownBlock → wpList Try.prog ops Q rest (a.put o.dst v') w') : wpList Try.prog ops Q (o :: rest) a w := by
  obtain ⟨i0, hi, hz0, hz1, hz2⟩ := info_parts frmInfo
  refine wpList_append_own_at w hgd s x 35 ho base 24 i0 (.agg #[.int .u64 0, .int .i64 0, .int .i64 0, .string ByteArray.empty]) 4 40 Try.underlying35 hi hz0 hz1 hz2 rfl (by decide) v l0.length (frC l0) hs hown ad n c (frC l) hx (by rw [frC_len, hn]) hc (frC_one l) (by unfold maxLen; omega) (by omega) hbase ?_
  intro v' w' h1 h2 _ h4
  refine h v' w' ?_ h2
  rw [List.length_append, frC_append, hn]
  exact h1
theorem own_emptyF (w : World) : OwnF (w.alloc (.cells #[] 24)) w.heap.size (.slice (some ⟨w.heap.size, 0, none⟩) 0 0) ([] : List Frm4).length (frC []) := by
  refine ⟨rfl, .inr ⟨w.heap.size, 0, #[], rfl, Nat.le_refl _, World.alloc_heap_new w _, Nat.le_refl _, by unfold maxLen; omega, by simp, by simp [frC]⟩⟩
set_option maxRecDepth 20000 in
set_option maxHeartbeats 1000000 in
theorem cloneF_any (v : Value) (l : List Frm4) (w : World) (h : FrsN w v l) (hl : l.length ≤ 1000000000) : Calls Try.prog 55 #[v] w fun e w' => ∃ v', e = .returned v' ∧ OwnF w' w.heap.size v' l.length (frC l) ∧ Below w.heap.size w w' := by
  obtain ⟨A, c, rfl, h2, h3, h4⟩ := h.1
  have H := Lib.hid h
  cases A with
  | none =>
    have hl0 : l = [] := by
      refine List.eq_nil_of_length_eq_zero ?_
      refine Decidable.byContradiction fun hh => ?_
      obtain ⟨b, off, e, _⟩ := h4 (by omega)
      cases e
    subst hl0
    obtain rfl := h.2 _ _ rfl
    have hnil : ∀ W, (binOp .eql 35 (.slice none 0 0) (.slice none 0 0)).run Try.prog W = .ok (.bool true) W := fun W => Lib.run_eql_slice_nil_nil W _ _ Try.underlying35
    clear h h2 h3 h4 hl
    go_enter Try.func55, Try.ntmps55
    go_wp2_with fail
    go_ret
    exact ⟨_, rfl, World.ownsRow_nil _ _ _ _, Below.refl _ _⟩
  | some ad =>
    have hnil : ∀ W, (binOp .eql 35 (.slice (some ad) l.length c) (.slice none 0 0)).run Try.prog W = .ok (.bool false) W := fun W => Lib.run_eql_slice_some_nil W _ _ _ Try.underlying35
    have HL := Lib.hid hl
    obtain ⟨n, hn⟩ : ∃ n, n = l.length := ⟨_, rfl⟩
    have HN := Lib.hid hn.symm
    rw [← hn] at hnil ⊢
    have hSRC : ∀ W, FrsB W (.slice (some ad) l.length c) l → ∀ j u, (frC l)[j]? = some u → W.cell? (ad.add j) = some u := fun W hW => hW.src ad rfl
    have HSRC := Lib.hid hSRC
    clear h h2 h3 h4 hl hn hSRC
    go_enter Try.func55, Try.ntmps55
    go_wp2_with (at_builtin; refine wpList_append_fN rfl _ _ rfl w.heap.size (.slice (some ⟨w.heap.size, 0, none⟩) 0 0) rfl [] (own_emptyF w) ad n c l rfl HN.out (HSRC.out _ (H.out.1.below ((Below.refl _ _).alloc (Nat.le_refl _) _) (Nat.le_refl _))) (by have := HL.out; have := HN.out; simp; omega) (by simp) ?_)
    intro v' w' h1 h2
    rw [HN.out] at h1
    have hb : Below w.heap.size w w' := ((Below.refl _ _).alloc (Nat.le_refl _) _).grown h2 (by simp) (fun k hk => by cases hk; exact Nat.le_refl _)
    have H1 := Lib.hid h1
    clear h2 h1
    go_wp2_with fail
    go_ret
    exact ⟨_, rfl, H1.out, hb⟩
end Go.Proofs.Ytjgjhjecgdndjaa
