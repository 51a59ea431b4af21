/- lease: cloning, putting in a first lock, asking. -/
import Derived.Test.YtffnkgfpbjmkbaaLea2
import Derived.Lib.BufferMore
namespace Go.Proofs.Ytffnkgfpbjmkbaa
open Go.RowKit
set_option linter.unusedVariables false
set_option linter.unusedSimpArgs false
theorem lkInfo : (Try.prog.info? 62).map (fun i => (i.zero, i.size, i.bytes)) = some (some (.agg #[.int .u64 0, .bool false, .int .i64 0]), 3, 24) := by kernel_rfl
def Lk.c (x : Lk) : List Value := [.int .u64 x.o.toNat, .bool x.s, .int .i64 x.u]
/-- a row of the call's own with these cells -/
def OwnL (w : World) (B : Nat) (v : Value) (n : Nat) (xs : List Value) : Prop := w.ownsRow B 62 3 v n xs
theorem OwnL.zero {w : World} {B : Nat} {v : Value} (h : OwnL w B v 0 []) : Zero v := by
  rcases h.2 with ⟨h1, _⟩ | ⟨g, cap, cur, hv, hb, hg, hn, hm, hc, ht⟩
  · exact ⟨none, 0, h1, Nat.zero_le _, fun _ => rfl⟩
  · exact ⟨_, cap, hv, hm, fun e => by (cases e)⟩
theorem OwnL.one {w : World} {B : Nat} {v : Value} {x : Lk} (h : OwnL w B v 1 x.c) : One w v x := by
  rcases h.2 with ⟨_, h1⟩ | ⟨g, cap, cur, hv, hb, hg, hn, hm, hc, ht⟩
  · omega
  · subst hv
    have e := fun i u hi => h.cells (g := g) rfl i u hi
    have e0 := e 0 _ rfl
    have e1 := e 1 _ rfl
    have e2 := e 2 _ rfl
    exact ⟨g, cap, rfl, hn, hm, (Array.getElem?_eq_some_iff.1 hg).1, by simpa [Addr.add] using e0, by simpa [Addr.add] using e1, by simpa [Addr.add] using e2⟩
theorem OwnL.free {w : World} {B g c : Nat} {x : Lk} (h : OwnL w B (.slice (some ⟨g, 0, none⟩) 1 c) 1 x.c) : B ≤ g ∧ ∀ j, w.frozen? ⟨g, j, none⟩ = false := by
  rcases h.2 with ⟨h1, _⟩ | ⟨g', cap', cur, hv, hb, hg, hn, hm, hc, ht⟩
  · cases h1
  · cases hv
    exact ⟨hb, fun j => frozen_of_row w g j cur _ hg⟩
theorem own_emptyL (w : World) : OwnL (w.alloc (.cells #[] 62)) w.heap.size (.slice (some ⟨w.heap.size, 0, none⟩) 0 0) 0 [] :=
  ⟨rfl, .inr ⟨w.heap.size, 0, #[], rfl, Nat.le_refl _, heap_alloc_new w _, Nat.le_refl _, Nat.zero_le _, rfl, rfl⟩⟩
theorem wpList_append_l {w : World} {ops : Array Oper} {rest : List Oper} {o : Oper} {a : Act} {Q : Exit → Act → World → Prop} (hgd : o.guard = none) (s x : Operand)
    (ho : o.op = .call { callee := .builtin .append, args := #[s, x], argTypes := #[25, 25] })
    (base : Nat) (v : Value) (hs : a.eval s = v) (hown : OwnL w base v 0 []) (u : Value) (y : Lk) (hx : a.eval x = u) (hu : One w u y) (hbase : base ≤ w.heap.size)
    (h : ∀ v' w', OwnL w' base v' 1 y.c → w.grownBy w' v.ownBlock → wpList Try.prog ops Q rest (a.put o.dst v') w') : wpList Try.prog ops Q (o :: rest) a w := by
  obtain ⟨i0, hi, hz0, hz1, hz2⟩ := info_parts lkInfo
  obtain ⟨g, c, rfl, h1, h2, h3, h4, h5, h6⟩ := hu
  refine wpList_append_own_at w hgd s x 25 ho base 62 i0 (.agg #[.int .u64 0, .bool false, .int .i64 0]) 3 24 Try.underlying25 hi hz0 hz1 hz2 rfl (by decide) v 0 [] hs hown ⟨g, 0, none⟩ 1 c y.c hx rfl ?_ ?_ (by unfold maxLen; omega) (by omega) hbase ?_
  · intro j u' hj
    match j, hj with
    | 0, hj => simp [Lk.c] at hj; subst hj; simpa [Addr.add] using h4
    | 1, hj => simp [Lk.c] at hj; subst hj; simpa [Addr.add] using h5
    | 2, hj => simp [Lk.c] at hj; subst hj; simpa [Addr.add] using h6
    | j + 3, hj => simp [Lk.c] at hj
  · intro u' hu'
    simp [Lk.c] at hu'
    rcases hu' with rfl | rfl | rfl <;> rfl
  · intro v' w' h1 h2 _ h4
    exact h v' w' (by unfold OwnL; simpa using h1) h2
theorem wpList_append_z {w : World} {ops : Array Oper} {rest : List Oper} {o : Oper} {a : Act} {Q : Exit → Act → World → Prop} (hgd : o.guard = none) (s x : Operand)
    (ho : o.op = .call { callee := .builtin .append, args := #[s, x], argTypes := #[25, 25] })
    (base : Nat) (v : Value) (hs : a.eval s = v) (hown : OwnL w base v 0 []) (ad : Addr) (c : Nat) (hx : a.eval x = .slice (some ad) 0 c) (hbase : base ≤ w.heap.size)
    (h : ∀ v' w', OwnL w' base v' 0 [] → w.grownBy w' v.ownBlock → wpList Try.prog ops Q rest (a.put o.dst v') w') : wpList Try.prog ops Q (o :: rest) a w := by
  obtain ⟨i0, hi, hz0, hz1, hz2⟩ := info_parts lkInfo
  refine wpList_append_own_at w hgd s x 25 ho base 62 i0 (.agg #[.int .u64 0, .bool false, .int .i64 0]) 3 24 Try.underlying25 hi hz0 hz1 hz2 rfl (by decide) v 0 [] hs hown ad 0 c [] hx rfl (by simp) (by simp) (by unfold maxLen; omega) (by omega) hbase ?_
  intro v' w' h1 h2 _ h4
  exact h v' w' (by unfold OwnL; simpa using h1) h2
set_option maxRecDepth 20000 in
set_option maxHeartbeats 1000000 in
theorem clone_zero (v : Value) (w : World) (h : Zero v) : Calls Try.prog 30 #[v] w fun e w' => ∃ v', e = .returned v' ∧ OwnL w' w.heap.size v' 0 [] ∧ Below w.heap.size w w' := by
  obtain ⟨A, c, rfl, h2, h3⟩ := h
  cases A with
  | none =>
    obtain rfl := h3 rfl
    have hnil : ∀ W, (binOp .eql 25 (.slice none 0 0) (.slice none 0 0)).run Try.prog W = .ok (.bool true) W := fun W => Lib.run_eql_slice_nil_nil W _ _ Try.underlying25
    go_enter Try.func30, Try.ntmps30
    go_wp2_with fail
    go_ret
    exact ⟨_, rfl, World.ownsRow_nil _ _ _ _, Below.refl _ _⟩
  | some ad =>
    clear h3
    have hnil : ∀ W, (binOp .eql 25 (.slice (some ad) 0 c) (.slice none 0 0)).run Try.prog W = .ok (.bool false) W := fun W => Lib.run_eql_slice_some_nil W _ _ _ Try.underlying25
    go_enter Try.func30, Try.ntmps30
    go_wp2_with (at_builtin; refine wpList_append_z rfl _ _ rfl w.heap.size (.slice (some ⟨w.heap.size, 0, none⟩) 0 0) rfl (own_emptyL w) ad c rfl (by simp) ?_)
    intro v' w' h1 h2
    have hb : Below w.heap.size w w' := ((Below.refl _ _).alloc (Nat.le_refl _) _).grown h2 (by simp) (fun k hk => by cases hk; exact Nat.le_refl _)
    clear h2
    go_wp2_with fail
    go_ret
    exact ⟨_, rfl, h1, hb⟩
set_option maxRecDepth 20000 in
set_option maxHeartbeats 1000000 in
theorem clone_one (v : Value) (x : Lk) (w : World) (h : One w v x) : Calls Try.prog 30 #[v] w fun e w' => ∃ v', e = .returned v' ∧ OwnL w' w.heap.size v' 1 x.c ∧ Below w.heap.size w w' := by
  have H := Lib.hid h
  obtain ⟨g, c, rfl, h1, h2, h3, h4, h5, h6⟩ := h
  clear h1 h2 h3 h4 h5 h6
  have hnil : ∀ W, (binOp .eql 25 (.slice (some ⟨g, 0, none⟩) 1 c) (.slice none 0 0)).run Try.prog W = .ok (.bool false) W := fun W => Lib.run_eql_slice_some_nil W _ _ _ Try.underlying25
  go_enter Try.func30, Try.ntmps30
  go_wp2_with (at_builtin; refine wpList_append_l rfl _ _ rfl w.heap.size (.slice (some ⟨w.heap.size, 0, none⟩) 0 0) rfl (own_emptyL w) _ x rfl (H.out.below ((Below.refl _ _).alloc (Nat.le_refl _) _) (Nat.le_refl _)) (by simp) ?_)
  intro v' w' h1 h2
  have hb : Below w.heap.size w w' := ((Below.refl _ _).alloc (Nat.le_refl _) _).grown h2 (by simp) (fun k hk => by cases hk; exact Nat.le_refl _)
  have H1 := Lib.hid h1
  clear h2 h1
  go_wp2_with fail
  go_ret
  exact ⟨_, rfl, H1.out, hb⟩
set_option maxRecDepth 20000 in
set_option maxHeartbeats 2000000 in
theorem insert_first (B : Nat) (v u : Value) (x : Lk) (w : World) (h : OwnL w B v 0 []) (hu : One w u x) (hB : B ≤ w.heap.size) : Calls Try.prog 29 #[v, .int .i64 0, u] w fun e w' => ∃ v', e = .returned v' ∧ OwnL w' B v' 1 x.c ∧ Below B w w' := by
  have H := Lib.hid h
  have HU := Lib.hid hu
  obtain ⟨g, c, rfl, h1, h2, h3, h4, h5, h6⟩ := hu
  have hc9 : c ≤ 9223372036854775807 := by unfold maxLen at h2; omega
  clear h2 h3 h4 h5 h6
  rcases h.2 with ⟨rfl, _⟩ | ⟨g2, cap, cur, rfl, hb, hg, hn, hm, hc, ht⟩
  · clear h
    go_enter Try.func29, Try.ntmps29
    go_wp2_with (at_builtin; refine wpList_append_l rfl _ _ rfl B (.slice none 0 0) rfl H.out _ x rfl HU.out hB ?_)
    intro v' w' h1 h2
    have hb : Below B w w' := (Below.refl _ _).grown h2 hB (fun k hk => by cases hk)
    have H1 := Lib.hid h1
    clear h2 h1
    go_wp2_with fail
    go_ret
    exact ⟨_, rfl, H1.out, hb⟩
  · have hm9 : cap ≤ 9223372036854775807 := by unfold maxLen at hm; omega
    clear h hg hn hm hc ht
    go_enter Try.func29, Try.ntmps29
    go_wp2_with (at_builtin; refine wpList_append_l rfl _ _ rfl B (.slice (some ⟨g2, 0, none⟩) 0 cap) rfl H.out _ x rfl HU.out hB ?_)
    intro v' w' h1 h2
    have hb : Below B w w' := (Below.refl _ _).grown h2 hB (fun k hk => by cases hk; exact hb)
    have H1 := Lib.hid h1
    clear h2 h1
    go_wp2_with fail
    go_ret
    exact ⟨_, rfl, H1.out, hb⟩
end Go.Proofs.Ytffnkgfpbjmkbaa
