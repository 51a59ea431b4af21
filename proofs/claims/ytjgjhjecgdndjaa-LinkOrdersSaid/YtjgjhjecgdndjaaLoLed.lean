/- A ledger: rows of the law's own, pairwise apart; ends that lie away from them. -/
import Derived.Test.YtjgjhjecgdndjaaLoWhole
import Derived.Maps.AppendAt
namespace Go.Proofs.Ytjgjhjecgdndjaa
open Go.RowKit
set_option linter.unusedVariables false
set_option linter.unusedSimpArgs false
theorem wp_append_sAt {w : World} {o : Oper} {a : Act} {K : Act → World → Prop} {Q : Exit → Act → World → Prop} (s x : Operand) (t : TypeId)
    (ho : o.op = .call { callee := .builtin .append, args := #[s, x], argTypes := #[t, t] }) (ht : Try.prog.underlying t = some (.slice 9))
    (base : Nat) (v : Value) (xs : List ByteArray) (hs : a.eval s = v) (hown : w.ownsRow base 9 1 v xs.length (xs.map .string))
    (u : Value) (ys : List ByteArray) (hx : a.eval x = u) (hu : StrsN w u ys) (hle : xs.length + ys.length ≤ 1000000000) (hbase : base ≤ w.heap.size)
    (h : ∀ v' w', w'.ownsRow base 9 1 v' (xs ++ ys).length ((xs ++ ys).map .string) → w.grownBy w' v.ownBlock → (v'.ownBlock = v.ownBlock ∨ v'.ownBlock = some w.heap.size) → K (a.put o.dst v') w') : o.wp Try.prog a w K Q := by
  obtain ⟨i0, hi, hz0, hz1, hz2⟩ := info_parts strInfo
  obtain ⟨⟨A, c, e, h2, h3, h4⟩, h5⟩ := hu
  subst e
  cases A with
  | none =>
    have hc := h5 _ _ rfl
    subst hc
    have hl : ys = [] := List.length_eq_zero_iff.1 (by omega)
    subst hl
    have hrun := run_append_owned_none (P := Try.prog) (w := w) base t o.type 9 i0 1 ht hi v _ _ hown
    unfold Oper.wp
    simp [execOp, ho, resolve, invoke, builtin, hs, hx, hrun, Result.andThen]
    exact h _ _ (by simpa using hown) (World.grownBy.refl w _) (.inl rfl)
  | some ad =>
    obtain ⟨v', w', hr, h2', h3', _, h5'⟩ := run_append_own_at (P := Try.prog) w base t o.type 9 i0 (.string ByteArray.empty) 1 16 ht hi hz0 hz1 hz2 rfl (by decide) v _ _ hown ad ys.length c (ys.map .string) (by simp) (fun j u' hj => by
      have hj' : j < ys.length := by
        have := (List.getElem?_eq_some_iff.1 hj).1
        simpa using this
      obtain ⟨b, off, e1, e2, e3⟩ := h4 (by omega)
      cases e1
      rw [add_eq, e3 j hj', ← hj]
      simp) (fun u' hu' => by
      simp at hu'
      obtain ⟨y, _, rfl⟩ := hu'
      rfl) (by unfold maxLen; omega) (by omega) hbase
    unfold Oper.wp execOp
    simp only [ho, resolve, invoke, builtin, Sem.run_bind, Sem.run_pure, Result.andThen_ok, List.map_toArray, List.map_cons, List.map_nil, hs, hx, hr]
    exact h v' w' (by simpa using h2') h3' h5'
theorem wpList_append_sAt {w : World} {ops : Array Oper} {rest : List Oper} {o : Oper} {a : Act} {Q : Exit → Act → World → Prop} (hgd : o.guard = none) (s x : Operand) (t : TypeId)
    (ho : o.op = .call { callee := .builtin .append, args := #[s, x], argTypes := #[t, t] }) (ht : Try.prog.underlying t = some (.slice 9))
    (base : Nat) (v : Value) (xs : List ByteArray) (hs : a.eval s = v) (hown : w.ownsRow base 9 1 v xs.length (xs.map .string))
    (u : Value) (ys : List ByteArray) (hx : a.eval x = u) (hu : StrsN w u ys) (hle : xs.length + ys.length ≤ 1000000000) (hbase : base ≤ w.heap.size)
    (h : ∀ v' w', w'.ownsRow base 9 1 v' (xs ++ ys).length ((xs ++ ys).map .string) → w.grownBy w' v.ownBlock → (v'.ownBlock = v.ownBlock ∨ v'.ownBlock = some w.heap.size) → wpList Try.prog ops Q rest (a.put o.dst v') w') : wpList Try.prog ops Q (o :: rest) a w :=
  wpList_plain hgd fun K hK => wp_append_sAt s x t ho ht base v xs hs hown u ys hx hu hle hbase fun v' w' h1 h2 h3 => hK _ _ (h v' w' h1 h2 h3)
def updV {α : Type} (v : Nat → α) (i : Nat) (x : α) (j : Nat) : α := if j = i then x else v j
theorem updV_same {α : Type} (v : Nat → α) (i : Nat) (x : α) : updV v i x i = x := if_pos rfl
theorem updV_other {α : Type} (v : Nat → α) {i j : Nat} (x : α) (h : j ≠ i) : updV v i x j = v j := if_neg h
structure Led (B n : Nat) (v : Nat → Value) (l : Nat → List ByteArray) (W : World) : Prop where
  base : B ≤ W.heap.size
  own : ∀ i, i < n → W.ownsRow B 9 1 (v i) (l i).length ((l i).map .string)
  apart : ∀ i j, i < n → j < n → i ≠ j → ∀ g, (v i).ownBlock = some g → (v j).ownBlock ≠ some g
theorem grown_below {W W' : World} (h : Below W.heap.size W W') (r : Option Nat) : W.grownBy W' r := ⟨h.os, h.tape, h.output, h.size, fun k hk _ => h.block k hk⟩
theorem grown_set (W : World) (b j : Nat) (x : Value) : W.grownBy (W.setCell ⟨b, j, none⟩ x) (some b) := ⟨rfl, rfl, rfl, by rw [World.size_setCell]; exact Nat.le_refl _, fun k hk hne => Below.heap_setCell _ _ _ _ (by dsimp only; exact fun e => hne (by rw [e]))⟩
theorem Led.below {B n : Nat} {v : Nat → Value} {l : Nat → List ByteArray} {W W' : World} (h : Led B n v l W) (hb : Below W.heap.size W W') : Led B n v l W' :=
  ⟨Nat.le_trans h.base hb.size, fun i hi => (h.own i hi).kept (grown_below hb none) (own_or _), h.apart⟩
theorem Led.setCell {B n : Nat} {v : Nat → Value} {l : Nat → List ByteArray} {W : World} (h : Led B n v l W) (b j : Nat) (x : Value) (hb : b < B) : Led B n v l (W.setCell ⟨b, j, none⟩ x) :=
  ⟨by rw [World.size_setCell]; exact h.base, fun i hi => ownsRow_setCell_below (h.own i hi) (a := ⟨b, j, none⟩) hb x, h.apart⟩
theorem Led.push {B n : Nat} {v : Nat → Value} {l : Nat → List ByteArray} {W W' : World} (h : Led B n v l W) (i : Nat) (hi : i < n) (v' : Value) (l' : List ByteArray) (ho : W'.ownsRow B 9 1 v' l'.length (l'.map .string)) (hg : W.grownBy W' (v i).ownBlock) (hat : v'.ownBlock = (v i).ownBlock ∨ v'.ownBlock = some W.heap.size) :
    Led B n (updV v i v') (updV l i l') W' := by
  have hlt : ∀ j, j < n → ∀ g, (v j).ownBlock = some g → g < W.heap.size := fun j hj g hg => ((h.own j hj).lt g hg).2
  refine ⟨Nat.le_trans h.base hg.size, fun j hj => ?_, fun j k hj hk hne g hgj hgk => ?_⟩
  · by_cases e : j = i
    · subst e; rw [updV_same, updV_same]; exact ho
    · rw [updV_other _ _ e, updV_other _ _ e]
      refine (h.own j hj).kept hg ?_
      by_cases e2 : (v j).ownBlock = none
      · exact .inl e2
      · refine .inr fun e3 => ?_
        obtain ⟨g, hg2⟩ := Option.ne_none_iff_exists'.1 e2
        exact h.apart j i hj hi e g hg2 (e3 ▸ hg2)
  · by_cases e : j = i
    · subst e
      rw [updV_same] at hgj
      rw [updV_other _ _ (fun e => hne e.symm)] at hgk
      rcases hat with hat | hat
      · rw [hat] at hgj; exact h.apart j k hj hk hne g hgj hgk
      · rw [hat] at hgj; cases hgj; exact Nat.lt_irrefl _ (hlt k hk _ hgk)
    · rw [updV_other _ _ e] at hgj
      by_cases e2 : k = i
      · subst e2
        rw [updV_same] at hgk
        rcases hat with hat | hat
        · rw [hat] at hgk; exact h.apart j k hj hk hne g hgj hgk
        · rw [hat] at hgk; cases hgk; exact Nat.lt_irrefl _ (hlt j hj _ hgj)
      · rw [updV_other _ _ e2] at hgk; exact h.apart j k hj hk hne g hgj hgk
def Away (B n : Nat) (v : Nat → Value) (W : World) (x : Value) : Prop := ∀ b, x.ownBlock = some b → B ≤ b ∧ b < W.heap.size ∧ ∀ i, i < n → (v i).ownBlock ≠ some b
theorem Away.nil (B n : Nat) (v : Nat → Value) (W : World) (c : Nat) : Away B n v W (.slice none 0 c) := fun b h => by cases h
theorem Away.more {B n : Nat} {v : Nat → Value} {W W' : World} {x : Value} (h : Away B n v W x) (hs : W.heap.size ≤ W'.heap.size) : Away B n v W' x := fun b hb => ⟨(h b hb).1, Nat.lt_of_lt_of_le (h b hb).2.1 hs, (h b hb).2.2⟩
theorem Away.push {B n : Nat} {v : Nat → Value} {W W' : World} {x : Value} (h : Away B n v W x) (hs : W.heap.size ≤ W'.heap.size) (i : Nat) (v' : Value) (hat : v'.ownBlock = (v i).ownBlock ∨ v'.ownBlock = some W.heap.size) (hi : i < n) : Away B n (updV v i v') W' x := fun b hb => by
  obtain ⟨h1, h2, h3⟩ := h b hb
  refine ⟨h1, Nat.lt_of_lt_of_le h2 hs, fun j hj e => ?_⟩
  by_cases ej : j = i
  · subst ej
    rw [updV_same] at e
    rcases hat with hat | hat
    · rw [hat] at e; exact h3 j hj e
    · rw [hat] at e; cases e; exact Nat.lt_irrefl _ h2
  · rw [updV_other _ _ ej] at e; exact h3 j hj e
theorem Away.src {B n : Nat} {v : Nat → Value} {l : Nat → List ByteArray} {W W' : World} {x x' : Value} (h : Away B n v W x) (hl : Led B n v l W) (hs : SrcV W W' x x') (hz : W.heap.size ≤ W'.heap.size) : Away B n v W' x' := fun b hb => by
  rcases hs b hb with h1 | ⟨h1, h2⟩
  · exact h.more hz b h1
  · exact ⟨Nat.le_trans hl.base h1, h2, fun i hi e => by have := ((hl.own i hi).lt b e).2; omega⟩
theorem StrsN.grown {W W' : World} {x : Value} {l : List ByteArray} {r : Option Nat} (h : StrsN W x l) (hg : W.grownBy W' r) (hn : ∀ b, x.ownBlock = some b → some b ≠ r) : StrsN W' x l := by
  obtain ⟨⟨A, c, h1, h2, h3, h4⟩, h5⟩ := h
  refine ⟨⟨A, c, h1, h2, h3, fun hl => ?_⟩, h5⟩
  obtain ⟨b, off, e1, e2, e3⟩ := h4 hl
  have hk := hg.block b e2 (hn b (by rw [h1, e1]; rfl))
  exact ⟨b, off, e1, Nat.lt_of_lt_of_le e2 hg.size, fun j hj => (World.cell?_of_block (a := ⟨b, off + j, none⟩) hk).trans (e3 j hj)⟩
theorem FrsN.grown {W W' : World} {x : Value} {l : List Frm4} {r : Option Nat} (h : FrsN W x l) (hg : W.grownBy W' r) (hn : ∀ b, x.ownBlock = some b → some b ≠ r) : FrsN W' x l := by
  obtain ⟨⟨A, c, h1, h2, h3, h4⟩, h5⟩ := h
  refine ⟨⟨A, c, h1, h2, h3, fun hl => ?_⟩, h5⟩
  obtain ⟨b, off, e1, e2, e3⟩ := h4 hl
  have hk := hg.block b e2 (hn b (by rw [h1, e1]; rfl))
  refine ⟨b, off, e1, Nat.lt_of_lt_of_le e2 hg.size, fun j hj => ?_⟩
  obtain ⟨c1, c2, c3, c4⟩ := e3 j hj
  exact ⟨(World.cell?_of_block hk).trans c1, (World.cell?_of_block hk).trans c2, (World.cell?_of_block hk).trans c3, (World.cell?_of_block hk).trans c4⟩
/-- an end, as a value and as what it means -/
structure EndV where
  base : Int
  next : Int
  idle : Int
  dead : Bool
  vo : Value
  vw : Value
  ve : Value
  lo : List ByteArray
  lw : List ByteArray
  le : List Frm4
def EndV.v (e : EndV) : Value := End8 7 e.base e.vo e.vw e.next e.ve e.idle e.dead
/-- an end that sends S and is told T: what is under way and waits is the rest of S; what came too early is T's -/
structure EndOk (B n : Nat) (v : Nat → Value) (S T : List ByteArray) (e : EndV) (W : World) : Prop where
  o : StrsN W e.vo e.lo
  w : StrsN W e.vw e.lw
  f : FrsN W e.ve e.le
  ao : Away B n v W e.vo
  aw : Away B n v W e.vw
  af : Away B n v W e.ve
  b : ∃ b : Nat, e.base = b ∧ b ≤ S.length ∧ e.lo ++ e.lw = S.drop b
  k : ∃ k : Nat, e.next = k ∧ k ≤ T.length
  ol : e.lo.length ≤ 4
  g : GoodL T 7 e.le
  i : 0 ≤ e.idle ∧ e.idle ≤ 40 ∧ (e.dead = false → e.idle < 40)
theorem EndOk.below {B n : Nat} {v : Nat → Value} {S T : List ByteArray} {e : EndV} {W W' : World} (h : EndOk B n v S T e W) (hb : Below W.heap.size W W') : EndOk B n v S T e W' :=
  ⟨h.o.below hb (Nat.le_refl _), h.w.below hb (Nat.le_refl _), h.f.below hb (Nat.le_refl _), h.ao.more hb.size, h.aw.more hb.size, h.af.more hb.size, h.b, h.k, h.ol, h.g, h.i⟩
theorem EndOk.setCell {B n : Nat} {v : Nat → Value} {S T : List ByteArray} {e : EndV} {W : World} (h : EndOk B n v S T e W) (b j : Nat) (x : Value) (hb : b < B) : EndOk B n v S T e (W.setCell ⟨b, j, none⟩ x) :=
  have hz : W.heap.size ≤ (W.setCell ⟨b, j, none⟩ x).heap.size := by rw [World.size_setCell]; exact Nat.le_refl _
  have hn : ∀ y, Away B n v W y → ∀ c, y.ownBlock = some c → some c ≠ some b := fun y hy c hc e => by have := (hy c hc).1; injection e with e; omega
  ⟨h.o.grown (grown_set W b j x) (hn _ h.ao), h.w.grown (grown_set W b j x) (hn _ h.aw), h.f.grown (grown_set W b j x) (hn _ h.af), h.ao.more hz, h.aw.more hz, h.af.more hz, h.b, h.k, h.ol, h.g, h.i⟩
theorem EndOk.push {B n : Nat} {v : Nat → Value} {S T : List ByteArray} {e : EndV} {W W' : World} (h : EndOk B n v S T e W) (i : Nat) (hi : i < n) (v' : Value) (hg : W.grownBy W' (v i).ownBlock) (hat : v'.ownBlock = (v i).ownBlock ∨ v'.ownBlock = some W.heap.size) : EndOk B n (updV v i v') S T e W' :=
  have hn : ∀ y, Away B n v W y → ∀ c, y.ownBlock = some c → some c ≠ (v i).ownBlock := fun y hy c hc e => (hy c hc).2.2 i hi e.symm
  ⟨h.o.grown hg (hn _ h.ao), h.w.grown hg (hn _ h.aw), h.f.grown hg (hn _ h.af), h.ao.push hg.size i v' hat hi, h.aw.push hg.size i v' hat hi, h.af.push hg.size i v' hat hi, h.b, h.k, h.ol, h.g, h.i⟩
end Go.Proofs.Ytjgjhjecgdndjaa
