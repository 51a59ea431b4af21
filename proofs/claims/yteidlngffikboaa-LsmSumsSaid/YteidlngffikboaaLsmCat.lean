/- slices.Grow at nil, slices.Concat of two rows of rows (as in Concat). -/
import Derived.Test.YteidlngffikboaaLsmRow
import Derived.Lib.AppendZeros
import Derived.Maps.AppendAt
namespace Go.Proofs.Yteidlngffikboaa
open Go.RowKit
set_option linter.unusedVariables false
set_option linter.unusedSimpArgs false
/-- a row of one-cell values, readable; nil is of no capacity -/
def RowV (w : World) (v : Value) (us : List Value) : Prop :=
  ∃ A c, v = .slice A us.length c ∧ us.length ≤ c ∧ c ≤ maxLen ∧ (A = none → c = 0) ∧ (∀ u ∈ us, u.oneCell' = true) ∧ (0 < us.length → ∃ b off, A = some ⟨b, off, none⟩ ∧ b < w.heap.size ∧ ∀ i (h : i < us.length), w.cell? ⟨b, off + i, none⟩ = some us[i])
def RowsV (w : World) : List Value → List (List Cnt) → Prop
  | [], [] => True
  | u :: us, r :: rs => CntN w u r ∧ RowsV w us rs
  | _, _ => False
theorem RowsV.len {w : World} : ∀ {us : List Value} {l : List (List Cnt)}, RowsV w us l → us.length = l.length
  | [], [], _ => rfl
  | u :: us, r :: rs, h => by simp [RowsV.len h.2]
  | [], _ :: _, h => h.elim
  | _ :: _, [], h => h.elim
theorem RowsV.get {w : World} : ∀ {us : List Value} {l : List (List Cnt)}, RowsV w us l → ∀ i (h : i < l.length), ∃ u, us[i]? = some u ∧ CntN w u l[i]
  | [], [], _, i, h => absurd h (Nat.not_lt_zero _)
  | u :: us, r :: rs, h, 0, _ => ⟨u, rfl, h.1⟩
  | u :: us, r :: rs, h, i + 1, hi => by
    obtain ⟨x, h1, h2⟩ := h.2.get i (by simpa using hi)
    exact ⟨x, by simpa using h1, h2⟩
  | [], _ :: _, h, _, _ => h.elim
  | _ :: _, [], h, _, _ => h.elim
theorem RowsV.app {w : World} : ∀ {us vs : List Value} {l m : List (List Cnt)}, RowsV w us l → RowsV w vs m → RowsV w (us ++ vs) (l ++ m)
  | [], _, [], _, _, h' => h'
  | u :: us, _, r :: rs, _, h, h' => ⟨h.1, h.2.app h'⟩
  | [], _, _ :: _, _, h, _ => h.elim
  | _ :: _, _, [], _, h, _ => h.elim
theorem RowsV.below {w w' : World} {B : Nat} (hb : Below B w w') (hB : w.heap.size ≤ B) : ∀ {us : List Value} {l : List (List Cnt)}, RowsV w us l → RowsV w' us l
  | [], [], _ => trivial
  | u :: us, r :: rs, h => ⟨h.1.below hb hB, RowsV.below hb hB h.2⟩
  | [], _ :: _, h => h.elim
  | _ :: _, [], h => h.elim
theorem CntN.one {w : World} {u : Value} {l : List Cnt} (h : CntN w u l) : u.oneCell' = true := by
  obtain ⟨⟨A, c, rfl, _⟩, _⟩ := h
  rfl
theorem RowsV.one {w : World} : ∀ {us : List Value} {l : List (List Cnt)}, RowsV w us l → ∀ u ∈ us, u.oneCell' = true
  | [], [], _, u, h => by simp at h
  | v :: us, r :: rs, h, u, hu => by
    rcases List.mem_cons.1 hu with rfl | hu
    · exact h.1.one
    · exact h.2.one u hu
  | [], _ :: _, h, _, _ => h.elim
  | _ :: _, [], h, _, _ => h.elim
theorem vals_of {w : World} : ∀ (l : List (List Cnt)) (P : Nat → Value → Prop), (∀ i (h : i < l.length), ∃ u, P i u ∧ CntN w u l[i]) → ∃ us : List Value, RowsV w us l ∧ ∀ i (h : i < us.length), P i us[i]
  | [], _, _ => ⟨[], trivial, fun i h => absurd h (Nat.not_lt_zero _)⟩
  | r :: rs, P, h => by
    obtain ⟨u, h1, h2⟩ := h 0 (by simp)
    obtain ⟨us, h3, h4⟩ := vals_of rs (fun i => P (i + 1)) (fun i hi => by
      obtain ⟨v, k1, k2⟩ := h (i + 1) (by simpa using hi)
      exact ⟨v, k1, k2⟩)
    refine ⟨u :: us, ⟨h2, h3⟩, fun i hi => ?_⟩
    cases i with
    | zero => exact h1
    | succ i => exact h4 i (by simpa using hi)
theorem RunsN.vals {w : World} {v : Value} {l : List (List Cnt)} (h : RunsN w v l) : ∃ us, RowV w v us ∧ RowsV w us l := by
  obtain ⟨⟨A, c, rfl, h2, h3, h4⟩, h5⟩ := h
  by_cases hl : 0 < l.length
  · obtain ⟨b, off, rfl, e2, e3⟩ := h4 hl
    obtain ⟨us, k1, k2⟩ := vals_of (w := w) l (fun i u => w.cell? ⟨b, off + i, none⟩ = some u) e3
    have hn := k1.len
    exact ⟨us, ⟨_, c, by rw [hn], by omega, h3, by simp, k1.one, fun _ => ⟨b, off, rfl, e2, k2⟩⟩, k1⟩
  · have h0 : l = [] := List.length_eq_zero_iff.1 (by omega)
    subst h0
    exact ⟨[], ⟨A, c, rfl, h2, h3, fun e => h5 _ _ (by rw [e]), by simp, fun h => absurd h (by simp)⟩, trivial⟩
theorem RunsN.of_vals {w : World} {v : Value} {us : List Value} {l : List (List Cnt)} (h : RowV w v us) (h' : RowsV w us l) : RunsN w v l := by
  obtain ⟨A, c, rfl, h2, h3, h5, _, h4⟩ := h
  have hn := h'.len
  refine ⟨⟨A, c, by rw [hn], by omega, h3, fun hl => ?_⟩, fun n c' e => ?_⟩
  · obtain ⟨b, off, e1, e2, e3⟩ := h4 (by omega)
    refine ⟨b, off, e1, e2, fun i hi => ?_⟩
    obtain ⟨u, k1, k2⟩ := h'.get i hi
    refine ⟨u, ?_, k2⟩
    rw [e3 i (by omega)]
    exact (List.getElem?_eq_getElem (by omega)).symm.trans k1
  · cases e
    exact h5 rfl
theorem RowV.below {w w' : World} {v : Value} {us : List Value} {B : Nat} (h : RowV w v us) (hb : Below B w w') (hB : w.heap.size ≤ B) : RowV w' v us := by
  obtain ⟨A, c, h1, h2, h3, h5, h6, h4⟩ := h
  refine ⟨A, c, h1, h2, h3, h5, h6, fun hl => ?_⟩
  obtain ⟨b, off, e1, e2, e3⟩ := h4 hl
  exact ⟨b, off, e1, Nat.lt_of_lt_of_le e2 hb.size, fun i hi => (hb.cell (p := ⟨b, off + i, none⟩) (Nat.lt_of_lt_of_le e2 hB)).trans (e3 i hi)⟩
theorem runInfo : (Try.prog.info? 22).map (fun i => (i.zero, i.size, i.bytes)) = some (some (.slice none 0 0), 1, 24) := by kernel_rfl
theorem RowV.of_owns {w : World} {v : Value} {us : List Value} {B : Nat} (h : w.ownsRow B 22 1 v us.length us) (h1 : ∀ u ∈ us, u.oneCell' = true) : RowV w v us := by
  have h0 := h
  rcases h.2 with ⟨hv, h0⟩ | ⟨g, cap, cur, hv, hb, hg, hn, hm, hc, ht⟩
  · exact ⟨none, 0, by rw [hv, h0], by omega, by unfold maxLen; omega, fun _ => rfl, h1, fun hl => by omega⟩
  · refine ⟨some ⟨g, 0, none⟩, cap, hv, hn, hm, by simp, h1, fun hl => ⟨g, 0, rfl, (Array.getElem?_eq_some_iff.1 hg).1, fun i hi => ?_⟩⟩
    have c1 := h.cells (g := g) (by rw [hv]; rfl) i _ (List.getElem?_eq_getElem hi)
    rw [add_eq] at c1
    exact c1
/-- a row ahead of others, in an array of its own: what comes of the append -/
theorem runs_ahead {w w' : World} {u v' : Value} {us : List Value} {q : List Cnt} {rs : List (List Cnt)} (hq : CntN w u q) (hU : RowsV w us rs)
    (ho : w'.ownsRow w.heap.size 22 1 v' (us.length + 1) (u :: us)) (hg : (w.alloc (.cells #[u] 22)).grownBy w' (some w.heap.size)) : RunsN w' v' (q :: rs) ∧ Below w.heap.size w w' := by
  have hB : Below w.heap.size w w' := ((Below.refl _ _).alloc (Nat.le_refl _) _).grown hg (by simp) (fun k hk => by cases hk; exact Nat.le_refl _)
  have hR : RowsV w (u :: us) (q :: rs) := ⟨hq, hU⟩
  exact ⟨RunsN.of_vals (RowV.of_owns ho hR.one) (hR.below hB (Nat.le_refl _)), hB⟩
theorem wp_append_rows {w : World} {o : Oper} {a : Act} {K : Act → World → Prop} {Q : Exit → Act → World → Prop} (s x : Operand) (t : TypeId)
    (ho : o.op = .call { callee := .builtin .append, args := #[s, x], argTypes := #[t, t] }) (ht : Try.prog.underlying t = some (.slice 22))
    (base : Nat) (v : Value) (us : List Value) (hs : a.eval s = v) (hown : w.ownsRow base 22 1 v us.length us)
    (u : Value) (zs : List Value) (hx : a.eval x = u) (hu : RowV w u zs) (hle : us.length + zs.length ≤ 1000000000) (hbase : base ≤ w.heap.size)
    (h : ∀ v' w', w'.ownsRow base 22 1 v' (us ++ zs).length (us ++ zs) → w.grownBy w' v.ownBlock → K (a.put o.dst v') w') : o.wp Try.prog a w K Q := by
  obtain ⟨i0, hi, hz0, hz1, hz2⟩ := info_parts runInfo
  obtain ⟨A, c, e, h2, h3, h5, h6, h4⟩ := hu
  subst e
  cases A with
  | none =>
    have hc := h5 rfl
    subst hc
    have hl : zs = [] := List.length_eq_zero_iff.1 (by omega)
    subst hl
    have hrun := run_append_owned_none (P := Try.prog) (w := w) base t o.type 22 i0 1 ht hi v _ _ hown
    unfold Oper.wp
    simp [execOp, ho, resolve, invoke, builtin, hs, hx, hrun, Result.andThen]
    exact h _ _ (by simpa using hown) (World.grownBy.refl w _)
  | some ad =>
    refine wp_append_own w s x t ho base 22 i0 (.slice none 0 0) 1 24 ht hi hz0 hz1 hz2 rfl (by decide) v _ _ hs hown ad zs.length c zs hx (by simp) ?_ h6 (by unfold maxLen; omega) (by omega) hbase ?_
    · intro j u' hj
      have hj' : j < zs.length := (List.getElem?_eq_some_iff.1 hj).1
      obtain ⟨b, off, e1, e2, e3⟩ := h4 (by omega)
      cases e1
      rw [add_eq, e3 j hj']
      exact (List.getElem?_eq_getElem hj').symm.trans hj
    · intro v' w' h1 h2 _
      exact h v' w' (by simpa using h1) h2
theorem wpList_append_rows {w : World} {ops : Array Oper} {rest : List Oper} {o : Oper} {a : Act} {Q : Exit → Act → World → Prop} (hgd : o.guard = none) (s x : Operand) (t : TypeId)
    (ho : o.op = .call { callee := .builtin .append, args := #[s, x], argTypes := #[t, t] }) (ht : Try.prog.underlying t = some (.slice 22))
    (base : Nat) (v : Value) (us : List Value) (hs : a.eval s = v) (hown : w.ownsRow base 22 1 v us.length us)
    (u : Value) (zs : List Value) (hx : a.eval x = u) (hu : RowV w u zs) (hle : us.length + zs.length ≤ 1000000000) (hbase : base ≤ w.heap.size)
    (h : ∀ v' w', w'.ownsRow base 22 1 v' (us ++ zs).length (us ++ zs) → w.grownBy w' v.ownBlock → wpList Try.prog ops Q rest (a.put o.dst v') w') : wpList Try.prog ops Q (o :: rest) a w :=
  wpList_plain hgd fun K hK => wp_append_rows s x t ho ht base v us hs hown u zs hx hu hle hbase fun v' w' h1 h2 => hK _ _ (h v' w' h1 h2)
/-- one row, in an array of its own -/
theorem owns_one {w : World} (u : Value) : (w.alloc (.cells #[u] 22)).ownsRow w.heap.size 22 1 (.slice (some ⟨w.heap.size, 0, none⟩) 1 1) 1 [u] :=
  ⟨rfl, .inr ⟨w.heap.size, 1, #[u], rfl, Nat.le_refl _, (by show (w.heap.push _)[w.heap.size]? = _; simp), Nat.le_refl _, by unfold maxLen; omega, rfl, rfl⟩⟩
/-- what is behind the first row -/
theorem RunsN.cons {w : World} {v : Value} {x : List Cnt} {l : List (List Cnt)} (h : RunsN w v (x :: l)) :
    ∃ b off c u, v = .slice (some ⟨b, off, none⟩) (l.length + 1) c ∧ l.length + 1 ≤ c ∧ c ≤ maxLen ∧ b < w.heap.size ∧ w.cell? ⟨b, off, none⟩ = some u ∧ CntN w u x ∧ RunsN w (.slice (some ⟨b, off + 1, none⟩) l.length (c - 1)) l := by
  obtain ⟨⟨A, c, rfl, h2, h3, h4⟩, h5⟩ := h
  obtain ⟨b, off, rfl, e2, e3⟩ := h4 (by simp)
  obtain ⟨u, c1, c2⟩ := e3 0 (by simp)
  refine ⟨b, off, c, u, rfl, h2, h3, e2, c1, c2, ⟨_, _, rfl, by simp at h2; omega, by omega, fun hl => ⟨b, off + 1, rfl, e2, fun i hi => ?_⟩⟩, fun n c' e => by cases e⟩
  obtain ⟨u', d1, d2⟩ := e3 (i + 1) (by simpa using hi)
  exact ⟨u', by rw [show off + 1 + i = off + (i + 1) by omega]; exact d1, d2⟩
theorem RunsN.tail0 {w : World} {b off : Nat} {l : List (List Cnt)} (h : l = []) : RunsN w (.slice (some ⟨b, off, none⟩) l.length 0) l := by
  subst h
  exact ⟨⟨_, 0, rfl, by simp, by unfold maxLen; omega, fun h => by simp at h⟩, fun n c e => by cases e⟩
theorem RunsN.shape {w : World} {v : Value} {l : List (List Cnt)} (h : RunsN w v l) : ∃ A c, v = .slice A l.length c ∧ l.length ≤ c ∧ c ≤ maxLen := by
  obtain ⟨⟨A, c, h1, h2, h3, _⟩, _⟩ := h
  exact ⟨A, c, h1, h2, h3⟩
end Go.Proofs.Yteidlngffikboaa

/- Here ends the text LsmRuns; here begins LsmCat. -/
namespace Go.Proofs.Yteidlngffikboaa
open Go.RowKit
set_option linter.unusedVariables false
set_option linter.unusedSimpArgs false
/-- append(nil, make([]string, n)...) -/
theorem zerosR_any (w : World) (t tn ty : TypeId) (ht : Try.prog.underlying t = some (.slice 22)) (htn : Try.prog.underlying tn = some (.int .i64)) (n : Nat) (h0 : 0 < n) (hn : n ≤ 1000000000) :
    ∃ c w', (Builtin.append_ #[t, tn] ty #[.slice none 0 0, .int .i64 n]).run Try.prog w = .ok (.slice (some ⟨w.heap.size, 0, none⟩) n c) w' ∧ w'.ownsRow w.heap.size 22 1 (.slice (some ⟨w.heap.size, 0, none⟩) 0 c) 0 [] ∧ Below w.heap.size w w' ∧ c ≤ maxLen ∧ n ≤ c := by
  obtain ⟨i0, hi, hz0, hz1, hz2⟩ := info_parts runInfo
  have hr := Lib.run_append_nil_zeros (P := Try.prog) w t tn ty 22 i0 (.slice none 0 0) .i64 .i64 ht htn hi hz0 n h0 (by omega) (by omega) (by rw [hz2]; omega)
  have hge := grownCap_ge w n 0 22
  have hmx := grownCap_le_maxLen w n 0 22 (by unfold maxLen; omega)
  refine ⟨_, _, hr, ?_, ?_, hmx, hge⟩
  · have := World.ownsRow_made (base := w.heap.size) (e := 22) (size := 1) w.drew (Builtin.zeroCells (Value.slice none 0 0).cells n ++ Builtin.zeroCells (Value.slice none 0 0).cells (grownCap w n 0 22 - n)) (grownCap w n 0 22) (Nat.le_refl _) hmx (by
      have h1 : (Value.slice none 0 0).cells.size = 1 := rfl
      rw [Array.size_append, size_zeroCells, size_zeroCells, h1]; omega)
    exact this
  · exact (Below.refl _ _).drew.alloc (Nat.le_refl _) _
set_option maxRecDepth 20000 in
set_option maxHeartbeats 1000000 in
theorem growR_nil (n : Nat) (w : World) (hn : n ≤ 1000000000) :
    Calls Try.prog 86 #[.slice none 0 0, .int .i64 n] w fun e w' => ∃ v, e = .returned v ∧ w'.ownsRow w.heap.size 22 1 v 0 [] ∧ Below w.heap.size w w' := by
  by_cases h0 : 0 < n
  · have hd : decide (0 < (n : Int)) = true := by simp; omega
    have hd2 : decide ((n : Int) < 0) = false := by simp
    obtain ⟨c, w', hr, ho, hb, hc1, hc2⟩ := zerosR_any w 23 3 23 Try.underlying23 Try.underlying3 n h0 hn
    have HO := Lib.hid ho
    have HB := Lib.hid hb
    clear ho hb
    have hcI : c ≤ 9223372036854775807 := by unfold maxLen at hc1; omega
    go_enter Try.func86, Try.ntmps86
    go_wp2_with (at_builtin; refine Lib.wpList_append_run _ rfl _ _ _ _ rfl _ _ rfl rfl _ _ hr ?_)
    go_wp2_with fail
    go_ret
    exact ⟨_, rfl, HO.out, HB.out⟩
  · obtain rfl : n = 0 := by omega
    go_enter Try.func86, Try.ntmps86
    go_wp2_with fail
    go_ret
    exact ⟨_, rfl, World.ownsRow_nil _ _ _ _, Below.refl _ _⟩
theorem RowV.len {w : World} {v : Value} {us : List Value} (h : RowV w v us) : ∃ A c, v = .slice A us.length c ∧ us.length ≤ c ∧ c ≤ maxLen := by
  obtain ⟨A, c, h1, h2, h3, _⟩ := h
  exact ⟨A, c, h1, h2, h3⟩
set_option maxRecDepth 20000 in
set_option maxHeartbeats 2000000 in
theorem concatR2 (w : World) (g : Nat) (va vb : Value) (la lb : List Value) (c0 : w.cell? ⟨g, 0, none⟩ = some va) (c1 : w.cell? ⟨g, 1, none⟩ = some vb) (ha : RowV w va la) (hb : RowV w vb lb) (h1 : la.length ≤ 1000000) (h2 : lb.length ≤ 1000000) (hg : g < w.heap.size) :
    Calls Try.prog 61 #[.slice (some ⟨g, 0, none⟩) 2 2] w fun e w' => ∃ v, e = .returned v ∧ w'.ownsRow w.heap.size 22 1 v (la ++ lb).length (la ++ lb) ∧ Below w.heap.size w w' := by
  have HA := Lib.hid ha
  have HB := Lib.hid hb
  have HG := Lib.hid (growR_nil (la.length + lb.length) w (by omega))
  have C0 := Lib.hid c0
  have C1 := Lib.hid c1
  obtain ⟨A, ca, rfl, _, _⟩ := ha.len
  obtain ⟨A2, cb, rfl, _, _⟩ := hb.len
  clear ha hb
  have hz1 : decide (((la.length : Int)) < 0) = false := by simp
  have hz2 : decide (((la.length : Int) + (lb.length : Int)) < 0) = false := by simp; omega
  have hsum : ((la.length + lb.length : Nat) : Int) = (la.length : Int) + (lb.length : Int) := by omega
  rw [hsum] at HG
  clear hsum
  go_enter Try.func61, Try.ntmps61
  go_wp2_with fail
  refine wp_loop_rounds 3 ?_
  rw [rounds_succ]
  go_wp2_with fail
  rw [rounds_succ]
  go_wp2_with fail
  rw [rounds_succ]
  go_wp2_with fail
  refine HG.out.mono ?_
  rintro e w1 ⟨v1, rfl, o1, b1⟩
  have HO := Lib.hid o1
  have HW := Lib.hid b1
  have d0 : w1.cell? ⟨g, 0, none⟩ = some (.slice A la.length ca) := (b1.cell (p := ⟨g, 0, none⟩) hg).trans C0.out
  have d1 : w1.cell? ⟨g, 1, none⟩ = some (.slice A2 lb.length cb) := (b1.cell (p := ⟨g, 1, none⟩) hg).trans C1.out
  have HA1 := Lib.hid (HA.out.below b1 (Nat.le_refl _))
  have hs1 := b1.size
  clear c0 c1 o1 b1 HA HG d1
  go_wp2_with fail
  refine wp_loop_rounds 3 ?_
  rw [rounds_succ]
  go_wp2_with (at_builtin; refine wpList_append_rows rfl _ _ 23 rfl Try.underlying23 w.heap.size v1 [] rfl HO.out _ la rfl HA1.out (by simp; omega) hs1 ?_)
  intro v2 w2 o2 g2
  have HO2 := Lib.hid o2
  have HW2 : Hid (Below w.heap.size w w2) := HW.out.grown g2 hs1 (fun k hk => (HO.out.lt k hk).1)
  have d1 : w2.cell? ⟨g, 1, none⟩ = some (.slice A2 lb.length cb) := (HW2.out.cell (p := ⟨g, 1, none⟩) hg).trans C1.out
  have HB2 := Lib.hid (HB.out.below HW2.out (Nat.le_refl _))
  have hs2 := HW2.out.size
  clear o2 g2 HO HW HA1 HB d0 hs1
  go_wp2_with fail
  rw [rounds_succ]
  go_wp2_with (at_builtin; refine wpList_append_rows rfl _ _ 23 rfl Try.underlying23 w.heap.size v2 la rfl HO2.out _ lb rfl HB2.out (by omega) hs2 ?_)
  intro v3 w3 o3 g3
  have HO3 : Hid (w3.ownsRow w.heap.size 22 1 v3 (la ++ lb).length (la ++ lb)) := by unfold Hid; simpa using o3
  have HW3 : Hid (Below w.heap.size w w3) := HW2.out.grown g3 hs2 (fun k hk => (HO2.out.lt k hk).1)
  clear o3 g3 HO2 HW2 HB2 d1 hs2
  go_wp2_with fail
  rw [rounds_succ]
  go_wp2_with fail
  go_ret
  exact ⟨_, rfl, HO3.out, HW3.out⟩
end Go.Proofs.Yteidlngffikboaa
