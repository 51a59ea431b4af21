/- While things go on: what each was told is a beginning of what the other one sent. -/
import Derived.Test.YtjgjhjecgdndjaaLoEnd
import Derived.Test.YtjgjhjecgdndjaaLinkRead
import Derived.Test.YtjgjhjecgdndjaaStructs
namespace Go.Proofs.Ytjgjhjecgdndjaa
open Go.RowKit
set_option linter.unusedVariables false
set_option linter.unusedSimpArgs false
theorem FrG.more {S S' : List ByteArray} {y : ByteArray} (h : FrG S y) (hp : ∀ (i : Nat) (s : ByteArray), S[i]? = some s → S'[i]? = some s) : FrG S' y := ⟨h.1, fun q a d hd => (h.2 q a d hd).imp id (hp q d)⟩
theorem EndOk.moreT {B n : Nat} {v : Nat → Value} {S T T' : List ByteArray} {e : EndV} {W : World} (h : EndOk B n v S T e W) (hl : T.length ≤ T'.length) (hp : ∀ (i : Nat) (s : ByteArray), T[i]? = some s → T'[i]? = some s) : EndOk B n v S T' e W :=
  ⟨h.o, h.w, h.f, h.ao, h.aw, h.af, h.b, by obtain ⟨k, h1, h2⟩ := h.k; exact ⟨k, h1, Nat.le_trans h2 hl⟩, h.ol, fun f hf => by obtain ⟨h1, q, h2, h3⟩ := h.g f hf; exact ⟨h1, q, h2, hp _ _ h3⟩, h.i⟩
/-- eight cells -/
def C8 (b o : Nat) (x0 x1 x2 x3 x4 x5 x6 x7 : Value) (W : World) : Prop :=
  W.cell? ⟨b, o, none⟩ = some x0 ∧ W.cell? ⟨b, o + 1, none⟩ = some x1 ∧ W.cell? ⟨b, o + 2, none⟩ = some x2 ∧ W.cell? ⟨b, o + 3, none⟩ = some x3 ∧ W.cell? ⟨b, o + 4, none⟩ = some x4 ∧ W.cell? ⟨b, o + 5, none⟩ = some x5 ∧ W.cell? ⟨b, o + 6, none⟩ = some x6 ∧ W.cell? ⟨b, o + 7, none⟩ = some x7
theorem C8.set {b o : Nat} {y0 y1 y2 y3 y4 y5 y6 y7 : Value} {W : World} (h : C8 b o y0 y1 y2 y3 y4 y5 y6 y7 W) (x0 x1 x2 x3 x4 x5 x6 x7 : Value) : C8 b o x0 x1 x2 x3 x4 x5 x6 x7 ((((((((W.setCell ⟨b, o, none⟩ x0).setCell ⟨b, o + 1, none⟩ x1).setCell ⟨b, o + 2, none⟩ x2).setCell ⟨b, o + 3, none⟩ x3).setCell ⟨b, o + 4, none⟩ x4).setCell ⟨b, o + 5, none⟩ x5).setCell ⟨b, o + 6, none⟩ x6).setCell ⟨b, o + 7, none⟩ x7) := by
  obtain ⟨h0, h1, h2, h3, h4, h5, h6, h7⟩ := h
  have ne : ∀ i j : Nat, i ≠ j → (⟨b, i, none⟩ : Addr) ≠ ⟨b, j, none⟩ := fun i j h e => by injection e with _ e; exact h e
  refine ⟨?_, ?_, ?_, ?_, ?_, ?_, ?_, ?_⟩
  · exact (World.cell?_setCell_other _ _ _ _ (ne _ _ (by omega))).trans ((World.cell?_setCell_other _ _ _ _ (ne _ _ (by omega))).trans ((World.cell?_setCell_other _ _ _ _ (ne _ _ (by omega))).trans ((World.cell?_setCell_other _ _ _ _ (ne _ _ (by omega))).trans ((World.cell?_setCell_other _ _ _ _ (ne _ _ (by omega))).trans ((World.cell?_setCell_other _ _ _ _ (ne _ _ (by omega))).trans ((World.cell?_setCell_other _ _ _ _ (ne _ _ (by omega))).trans (World.cell?_setCell_same _ _ _ (h0))))))))
  · exact (World.cell?_setCell_other _ _ _ _ (ne _ _ (by omega))).trans ((World.cell?_setCell_other _ _ _ _ (ne _ _ (by omega))).trans ((World.cell?_setCell_other _ _ _ _ (ne _ _ (by omega))).trans ((World.cell?_setCell_other _ _ _ _ (ne _ _ (by omega))).trans ((World.cell?_setCell_other _ _ _ _ (ne _ _ (by omega))).trans ((World.cell?_setCell_other _ _ _ _ (ne _ _ (by omega))).trans (World.cell?_setCell_same _ _ _ ((World.cell?_setCell_other _ _ _ _ (ne _ _ (by omega))).trans (h1))))))))
  · exact (World.cell?_setCell_other _ _ _ _ (ne _ _ (by omega))).trans ((World.cell?_setCell_other _ _ _ _ (ne _ _ (by omega))).trans ((World.cell?_setCell_other _ _ _ _ (ne _ _ (by omega))).trans ((World.cell?_setCell_other _ _ _ _ (ne _ _ (by omega))).trans ((World.cell?_setCell_other _ _ _ _ (ne _ _ (by omega))).trans (World.cell?_setCell_same _ _ _ ((World.cell?_setCell_other _ _ _ _ (ne _ _ (by omega))).trans ((World.cell?_setCell_other _ _ _ _ (ne _ _ (by omega))).trans (h2))))))))
  · exact (World.cell?_setCell_other _ _ _ _ (ne _ _ (by omega))).trans ((World.cell?_setCell_other _ _ _ _ (ne _ _ (by omega))).trans ((World.cell?_setCell_other _ _ _ _ (ne _ _ (by omega))).trans ((World.cell?_setCell_other _ _ _ _ (ne _ _ (by omega))).trans (World.cell?_setCell_same _ _ _ ((World.cell?_setCell_other _ _ _ _ (ne _ _ (by omega))).trans ((World.cell?_setCell_other _ _ _ _ (ne _ _ (by omega))).trans ((World.cell?_setCell_other _ _ _ _ (ne _ _ (by omega))).trans (h3))))))))
  · exact (World.cell?_setCell_other _ _ _ _ (ne _ _ (by omega))).trans ((World.cell?_setCell_other _ _ _ _ (ne _ _ (by omega))).trans ((World.cell?_setCell_other _ _ _ _ (ne _ _ (by omega))).trans (World.cell?_setCell_same _ _ _ ((World.cell?_setCell_other _ _ _ _ (ne _ _ (by omega))).trans ((World.cell?_setCell_other _ _ _ _ (ne _ _ (by omega))).trans ((World.cell?_setCell_other _ _ _ _ (ne _ _ (by omega))).trans ((World.cell?_setCell_other _ _ _ _ (ne _ _ (by omega))).trans (h4))))))))
  · exact (World.cell?_setCell_other _ _ _ _ (ne _ _ (by omega))).trans ((World.cell?_setCell_other _ _ _ _ (ne _ _ (by omega))).trans (World.cell?_setCell_same _ _ _ ((World.cell?_setCell_other _ _ _ _ (ne _ _ (by omega))).trans ((World.cell?_setCell_other _ _ _ _ (ne _ _ (by omega))).trans ((World.cell?_setCell_other _ _ _ _ (ne _ _ (by omega))).trans ((World.cell?_setCell_other _ _ _ _ (ne _ _ (by omega))).trans ((World.cell?_setCell_other _ _ _ _ (ne _ _ (by omega))).trans (h5))))))))
  · exact (World.cell?_setCell_other _ _ _ _ (ne _ _ (by omega))).trans (World.cell?_setCell_same _ _ _ ((World.cell?_setCell_other _ _ _ _ (ne _ _ (by omega))).trans ((World.cell?_setCell_other _ _ _ _ (ne _ _ (by omega))).trans ((World.cell?_setCell_other _ _ _ _ (ne _ _ (by omega))).trans ((World.cell?_setCell_other _ _ _ _ (ne _ _ (by omega))).trans ((World.cell?_setCell_other _ _ _ _ (ne _ _ (by omega))).trans ((World.cell?_setCell_other _ _ _ _ (ne _ _ (by omega))).trans (h6))))))))
  · exact World.cell?_setCell_same _ _ _ ((World.cell?_setCell_other _ _ _ _ (ne _ _ (by omega))).trans ((World.cell?_setCell_other _ _ _ _ (ne _ _ (by omega))).trans ((World.cell?_setCell_other _ _ _ _ (ne _ _ (by omega))).trans ((World.cell?_setCell_other _ _ _ _ (ne _ _ (by omega))).trans ((World.cell?_setCell_other _ _ _ _ (ne _ _ (by omega))).trans ((World.cell?_setCell_other _ _ _ _ (ne _ _ (by omega))).trans ((World.cell?_setCell_other _ _ _ _ (ne _ _ (by omega))).trans (h7))))))))
theorem cell_set8 {W : World} {b o : Nat} {a : Addr} (x0 x1 x2 x3 x4 x5 x6 x7 : Value) (hn : ∀ k : Nat, k < 8 → (⟨b, o + k, none⟩ : Addr) ≠ a) : ((((((((W.setCell ⟨b, o, none⟩ x0).setCell ⟨b, o + 1, none⟩ x1).setCell ⟨b, o + 2, none⟩ x2).setCell ⟨b, o + 3, none⟩ x3).setCell ⟨b, o + 4, none⟩ x4).setCell ⟨b, o + 5, none⟩ x5).setCell ⟨b, o + 6, none⟩ x6).setCell ⟨b, o + 7, none⟩ x7).cell? a = W.cell? a := by
  have h0 : (⟨b, o, none⟩ : Addr) ≠ a := hn 0 (by decide)
  have h1 := hn 1 (by decide)
  have h2 := hn 2 (by decide)
  have h3 := hn 3 (by decide)
  have h4 := hn 4 (by decide)
  have h5 := hn 5 (by decide)
  have h6 := hn 6 (by decide)
  have h7 := hn 7 (by decide)
  rw [World.cell?_setCell_other _ _ _ _ h7, World.cell?_setCell_other _ _ _ _ h6, World.cell?_setCell_other _ _ _ _ h5, World.cell?_setCell_other _ _ _ _ h4, World.cell?_setCell_other _ _ _ _ h3, World.cell?_setCell_other _ _ _ _ h2, World.cell?_setCell_other _ _ _ _ h1, World.cell?_setCell_other _ _ _ _ h0]
theorem C8.cell {b o : Nat} {x0 x1 x2 x3 x4 x5 x6 x7 : Value} {W W' : World} (h : C8 b o x0 x1 x2 x3 x4 x5 x6 x7 W) (hc : ∀ k : Nat, k < 8 → W'.cell? ⟨b, o + k, none⟩ = W.cell? ⟨b, o + k, none⟩) : C8 b o x0 x1 x2 x3 x4 x5 x6 x7 W' := by
  obtain ⟨h0, h1, h2, h3, h4, h5, h6, h7⟩ := h
  exact ⟨(hc 0 (by decide)).trans h0, (hc 1 (by decide)).trans h1, (hc 2 (by decide)).trans h2, (hc 3 (by decide)).trans h3, (hc 4 (by decide)).trans h4, (hc 5 (by decide)).trans h5, (hc 6 (by decide)).trans h6, (hc 7 (by decide)).trans h7⟩
def EC (N i : Nat) (e : EndV) (W : World) : Prop := C8 N (i * 8) (.int .u64 7) (.int .i64 e.base) e.vo e.vw (.int .i64 e.next) e.ve (.int .i64 e.idle) (.bool e.dead) W
def set8C (W : World) (b o : Nat) (x0 x1 x2 x3 x4 x5 x6 x7 : Value) : World := ((((((((W.setCell ⟨b, o, none⟩ x0).setCell ⟨b, o + 1, none⟩ x1).setCell ⟨b, o + 2, none⟩ x2).setCell ⟨b, o + 3, none⟩ x3).setCell ⟨b, o + 4, none⟩ x4).setCell ⟨b, o + 5, none⟩ x5).setCell ⟨b, o + 6, none⟩ x6).setCell ⟨b, o + 7, none⟩ x7)
structure LoS (N j : Nat) (S : Nat → List ByteArray) (v : Nat → Value) (l : Nat → List ByteArray) (E : Nat → EndV) (W : World) : Prop where
  led : Led (N + 4) 6 v l W
  ends : ∀ i, i < 2 → EndOk (N + 4) 6 v (S i) (S (1 - i)) (E i) W
  cel : ∀ i, i < 2 → EC N i (E i) W
  row : ∀ r i, r < 3 → i < 2 → W.cell? ⟨N + 1 + r, i, none⟩ = some (v (2 * r + i))
  fz : ∀ b j, N ≤ b → b < N + 4 → W.frozen? ⟨b, j, none⟩ = false
  sky : ∀ i, i < 2 → (l (4 + i)).length ≤ 4 * j ∧ ∀ y ∈ l (4 + i), FrG (S i) y
  ear : ∀ i, i < 2 → (E i).le.length ≤ j
  siz : N + 4 ≤ W.heap.size
theorem LoS.below {N j : Nat} {S : Nat → List ByteArray} {v : Nat → Value} {l : Nat → List ByteArray} {E : Nat → EndV} {W W' : World} (h : LoS N j S v l E W) (hb : Below W.heap.size W W') : LoS N j S v l E W' :=
  have hz := h.siz
  ⟨h.led.below hb, fun i hi => (h.ends i hi).below hb, fun i hi => (h.cel i hi).cell fun k hk => hb.cell (by dsimp only; omega), fun r i hr hi => (hb.cell (by dsimp only; omega)).trans (h.row r i hr hi), fun b j h1 h2 => (hb.frozen (by dsimp only; omega)).trans (h.fz b j h1 h2), h.sky, h.ear, Nat.le_trans hz hb.size⟩
theorem LoS.more {N j j' : Nat} {S : Nat → List ByteArray} {v : Nat → Value} {l : Nat → List ByteArray} {E : Nat → EndV} {W : World} (h : LoS N j S v l E W) (hj : j ≤ j') : LoS N j' S v l E W :=
  ⟨h.led, h.ends, h.cel, h.row, h.fz, fun i hi => ⟨by have := (h.sky i hi).1; omega, (h.sky i hi).2⟩, fun i hi => by have := h.ear i hi; omega, h.siz⟩
/-- an end is stored (and, as it may be, more was sent by it) -/
theorem LoS.store {N j : Nat} {S : Nat → List ByteArray} {v : Nat → Value} {l : Nat → List ByteArray} {E : Nat → EndV} {W : World} (h : LoS N j S v l E W) (i : Nat) (hi : i < 2) (e : EndV) (S' : List ByteArray) (he : EndOk (N + 4) 6 v S' (S (1 - i)) e W) (hel : e.le.length ≤ j) (hSl : (S i).length ≤ S'.length) (hSp : ∀ (q : Nat) (s : ByteArray), (S i)[q]? = some s → S'[q]? = some s) :
    LoS N j (updV S i S') v l (updV E i e) (set8C W N (i * 8) (.int .u64 7) (.int .i64 e.base) e.vo e.vw (.int .i64 e.next) e.ve (.int .i64 e.idle) (.bool e.dead)) := by
  have hz := h.siz
  have hNB : N < N + 4 := by omega
  refine ⟨?_, ?_, ?_, ?_, ?_, ?_, ?_, ?_⟩
  · unfold set8C
    exact (((((((h.led.setCell _ _ _ hNB).setCell _ _ _ hNB).setCell _ _ _ hNB).setCell _ _ _ hNB).setCell _ _ _ hNB).setCell _ _ _ hNB).setCell _ _ _ hNB).setCell _ _ _ hNB
  · intro i' hi'
    have key : EndOk (N + 4) 6 v (updV S i S' i') (updV S i S' (1 - i')) (updV E i e i') W := by
      by_cases ei : i' = i
      · subst ei
        rw [updV_same, updV_same, updV_other _ _ (by omega)]
        exact he
      · rw [updV_other _ _ ei, updV_other _ _ ei]
        have e1 : 1 - i' = i := by omega
        rw [e1, updV_same]
        have h2 := h.ends i' hi'
        rw [e1] at h2
        exact h2.moreT hSl hSp
    unfold set8C
    exact (((((((key.setCell _ _ _ hNB).setCell _ _ _ hNB).setCell _ _ _ hNB).setCell _ _ _ hNB).setCell _ _ _ hNB).setCell _ _ _ hNB).setCell _ _ _ hNB).setCell _ _ _ hNB
  · intro i' hi'
    by_cases ei : i' = i
    · subst ei
      rw [updV_same]
      exact C8.set (h.cel i' hi') _ _ _ _ _ _ _ _
    · rw [updV_other _ _ ei]
      exact (h.cel i' hi').cell fun k hk => cell_set8 _ _ _ _ _ _ _ _ (fun k' hk' e => by injection e with _ e; omega)
  · intro r i' hr hi'
    refine (cell_set8 _ _ _ _ _ _ _ _ (fun k' hk' e => by injection e with e _; omega)).trans (h.row r i' hr hi')
  · intro b k h1 h2
    unfold set8C
    simp only [World.frozen?_setCell]
    exact h.fz b k h1 h2
  · intro i' hi'
    refine ⟨(h.sky i' hi').1, fun y hy => ?_⟩
    by_cases ei : i' = i
    · subst ei; rw [updV_same]; exact ((h.sky i' hi').2 y hy).more hSp
    · rw [updV_other _ _ ei]; exact (h.sky i' hi').2 y hy
  · intro i' hi'
    by_cases ei : i' = i
    · subst ei; rw [updV_same]; exact hel
    · rw [updV_other _ _ ei]; exact h.ear i' hi'
  · unfold set8C
    simp only [World.size_setCell]
    exact hz
/-- a row of the ledger has grown, and its cell was set -/
theorem LoS.append {N j : Nat} {S : Nat → List ByteArray} {v : Nat → Value} {l : Nat → List ByteArray} {E : Nat → EndV} {W W' : World} (h : LoS N j S v l E W) (r i : Nat) (hr : r < 3) (hi : i < 2) (v' : Value) (l' : List ByteArray) (ho : W'.ownsRow (N + 4) 9 1 v' l'.length (l'.map .string)) (hg : W.grownBy W' (v (2 * r + i)).ownBlock) (hat : v'.ownBlock = (v (2 * r + i)).ownBlock ∨ v'.ownBlock = some W.heap.size) (hs : r = 2 → l'.length ≤ 4 * j ∧ ∀ y ∈ l', FrG (S i) y) :
    LoS N j S (updV v (2 * r + i) v') (updV l (2 * r + i) l') E (W'.setCell ⟨N + 1 + r, i, none⟩ v') := by
  have hz := h.siz
  have hq : 2 * r + i < 6 := by omega
  have hlow : ∀ b, b < N + 4 → W'.heap[b]? = W.heap[b]? := fun b hb => hg.block b (by omega) (fun e => by have := ((h.led.own _ hq).lt b e.symm).1; omega)
  have hcell : ∀ b k, b < N + 4 → W'.cell? ⟨b, k, none⟩ = W.cell? ⟨b, k, none⟩ := fun b k hb => World.cell?_of_block (hlow b hb)
  refine ⟨?_, ?_, ?_, ?_, ?_, ?_, ?_, ?_⟩
  · exact (h.led.push _ hq v' l' ho hg hat).setCell _ _ _ (by omega)
  · intro i' hi'
    exact ((h.ends i' hi').push _ hq v' hg hat).setCell _ _ _ (by omega)
  · intro i' hi'
    exact (h.cel i' hi').cell fun k hk => (World.cell?_setCell_other _ _ _ _ (fun e => by injection e with e _; omega)).trans (hcell N _ (by omega))
  · intro r' i' hr' hi'
    by_cases e : r' = r ∧ i' = i
    · obtain ⟨rfl, rfl⟩ := e
      rw [updV_same]
      exact World.cell?_setCell_same _ _ _ ((hcell _ _ (by omega)).trans (h.row r' i' hr' hi'))
    · rw [updV_other _ _ (by omega)]
      refine (World.cell?_setCell_other _ _ _ _ (fun e2 => ?_)).trans ((hcell _ _ (by omega)).trans (h.row r' i' hr' hi'))
      injection e2 with e2 e3
      exact e ⟨by omega, by omega⟩
  · intro b k h1 h2
    rw [World.frozen?_setCell, World.frozen?_of_block (hlow b h2)]
    exact h.fz b k h1 h2
  · intro i' hi'
    by_cases e : 4 + i' = 2 * r + i
    · have e2 : r = 2 ∧ i' = i := by omega
      obtain ⟨rfl, rfl⟩ := e2
      rw [e, updV_same]
      exact hs rfl
    · rw [updV_other _ _ e]; exact h.sky i' hi'
  · exact h.ear
  · rw [World.size_setCell]; exact Nat.le_trans hz hg.size
end Go.Proofs.Ytjgjhjecgdndjaa

/- Here ends the text LoSt; here begins LoPh. -/
namespace Go.Proofs.Ytjgjhjecgdndjaa
open Go.RowKit
set_option linter.unusedVariables false
set_option linter.unusedSimpArgs false
def initV (vw : Value) (s : List ByteArray) : EndV := ⟨0, 0, 0, false, .slice none 0 0, vw, .slice none 0 0, [], s, []⟩
theorem cells_at {w : World} {b : Nat} {cur : Array Value} {t : TypeId} (h : w.heap[b]? = some (.cells cur t)) (j : Nat) : w.cell? ⟨b, j, none⟩ = cur[j]? := by unfold World.cell?; simp [h]
structure PHd (N k j sb : Nat) (wS : World) (L S : Nat → List ByteArray) (v : Nat → Value) (l : Nat → List ByteArray) (E : Nat → EndV) (vw : Nat → Value) (W : World) : Prop where
  st : LoS N 0 S v l E W
  sent : ∀ i, i < 2 → l i = L i ∧ l (2 + i) = []
  ini : ∀ i, i < 2 → E i = initV (vw i) (S i)
  len : ∀ i, i < 2 → (S i).length ≤ 30 ∧ ∀ s ∈ S i, s.size ≤ 300
  cur : (S k).length ≤ j
  rest : ∀ i, k < i → S i = []
  aw : Away (N + 4) 6 v W (.slice (some ⟨sb, 0, none⟩) 2 2)
  sbk : W.heap[sb]? = wS.heap[sb]?
section
variable {N k j sb : Nat} {wS : World} {L S : Nat → List ByteArray} {v : Nat → Value} {l : Nat → List ByteArray} {E : Nat → EndV} {vw : Nat → Value} {W W' : World}
theorem PHd.below (h : PHd N k j sb wS L S v l E vw W) (hb : Below W.heap.size W W') : PHd N k j sb wS L S v l E vw W' :=
  ⟨h.st.below hb, h.sent, h.ini, h.len, h.cur, h.rest, h.aw.more hb.size, (hb.block sb (h.aw sb rfl).2.1).trans h.sbk⟩
theorem updV_self {α : Type} (f : Nat → α) (i : Nat) : updV f i (f i) = f := by
  funext q; by_cases e : q = i
  · subst e; exact updV_same _ _ _
  · exact updV_other _ _ e
theorem PHd.next (h : PHd N k j sb wS L S v l E vw W) : PHd N (k + 1) 0 sb wS L S v l E vw W :=
  ⟨h.st, h.sent, h.ini, h.len, by rw [h.rest (k + 1) (by omega)]; simp, fun i hi => h.rest i (by omega), h.aw, h.sbk⟩
theorem PHd.row (h : PHd N k j sb wS L S v l E vw W) (r i : Nat) (hr : r < 3) (hi : i < 2) : W.cell? ⟨N + 1 + r, i, none⟩ = some (v (2 * r + i)) := h.st.row r i hr hi
theorem PHd.cel (h : PHd N k j sb wS L S v l E vw W) (i : Nat) (hi : i < 2) : C8 N (i * 8) (.int .u64 7) (.int .i64 0) (.slice none 0 0) (vw i) (.int .i64 0) (.slice none 0 0) (.int .i64 0) (.bool false) W := by
  have h1 := h.st.cel i hi
  unfold EC at h1
  rw [h.ini i hi] at h1
  exact h1
theorem set8C_size (W : World) (b o : Nat) (x0 x1 x2 x3 x4 x5 x6 x7 : Value) : (set8C W b o x0 x1 x2 x3 x4 x5 x6 x7).heap.size = W.heap.size := by unfold set8C; simp only [World.size_setCell]
theorem set8C_block (W : World) (b o : Nat) (x0 x1 x2 x3 x4 x5 x6 x7 : Value) (q : Nat) (hq : q ≠ b) : (set8C W b o x0 x1 x2 x3 x4 x5 x6 x7).heap[q]? = W.heap[q]? := by
  unfold set8C
  rw [Below.heap_setCell _ _ _ _ (by dsimp only; exact hq), Below.heap_setCell _ _ _ _ (by dsimp only; exact hq), Below.heap_setCell _ _ _ _ (by dsimp only; exact hq), Below.heap_setCell _ _ _ _ (by dsimp only; exact hq), Below.heap_setCell _ _ _ _ (by dsimp only; exact hq), Below.heap_setCell _ _ _ _ (by dsimp only; exact hq), Below.heap_setCell _ _ _ _ (by dsimp only; exact hq), Below.heap_setCell _ _ _ _ (by dsimp only; exact hq)]
theorem init_ok {B n : Nat} {v : Nat → Value} {S T : List ByteArray} {x : Value} {W : World} (hx : StrsN W x S) (ha : Away B n v W x) : EndOk B n v S T (initV x S) W :=
  ⟨strsN_nilL _, hx, FrsN.nil _, Away.nil _ _ _ _ _, ha, Away.nil _ _ _ _ _, ⟨0, rfl, Nat.zero_le _, by simp [initV]⟩, ⟨0, rfl, Nat.zero_le _⟩, by simp [initV], fun f hf => by simp [initV] at hf, by simp [initV]⟩
theorem PHd.store (h : PHd N k j sb wS S S v l E vw W) (hk : k < 2) (hj : j < 30) (s : ByteArray) (hs : s.size ≤ 300) (x : Value) (hx : StrsN W x (S k ++ [s])) (ha : Away (N + 4) 6 v W x) :
    PHd N k (j + 1) sb wS S (updV S k (S k ++ [s])) v l (updV E k (initV x (S k ++ [s]))) (updV vw k x) (set8C W N (k * 8) (.int .u64 7) (.int .i64 0) (.slice none 0 0) x (.int .i64 0) (.slice none 0 0) (.int .i64 0) (.bool false)) := by
  have hc := h.cur
  have hl := (h.aw sb rfl)
  refine ⟨?_, h.sent, ?_, ?_, ?_, ?_, ?_, ?_⟩
  · exact h.st.store k hk (initV x (S k ++ [s])) (S k ++ [s]) (init_ok hx ha) (by simp [initV]) (by simp) (fun q t hq => by rw [List.getElem?_append_left (List.getElem?_eq_some_iff.1 hq).1]; exact hq)
  · intro i hi
    by_cases e : i = k
    · subst e; rw [updV_same, updV_same, updV_same]
    · rw [updV_other _ _ e, updV_other _ _ e, updV_other _ _ e]; exact h.ini i hi
  · intro i hi
    by_cases e : i = k
    · subst e; rw [updV_same]
      refine ⟨by simp; omega, fun t ht => ?_⟩
      rcases List.mem_append.1 ht with ht | ht
      · exact (h.len i hi).2 t ht
      · simp at ht; subst ht; exact hs
    · rw [updV_other _ _ e]; exact h.len i hi
  · rw [updV_same]; simp; omega
  · intro i hi; rw [updV_other _ _ (by omega)]; exact h.rest i hi
  · exact h.aw.more (Nat.le_of_eq (set8C_size ..).symm)
  · rw [set8C_block _ _ _ _ _ _ _ _ _ _ _ sb (by omega)]; exact h.sbk
theorem PHd.same (h : PHd N k j sb wS S S v l E vw W) (hk : k < 2) : PHd N k (j + 1) sb wS S S v l E vw (set8C W N (k * 8) (.int .u64 7) (.int .i64 0) (.slice none 0 0) (vw k) (.int .i64 0) (.slice none 0 0) (.int .i64 0) (.bool false)) := by
  have hl := (h.aw sb rfl)
  have he := h.st.ends k hk
  have h1 := h.st.store k hk (E k) (S k) he (h.st.ear k hk) (Nat.le_refl _) (fun _ _ h => h)
  rw [updV_self, updV_self, h.ini k hk] at h1
  exact ⟨h1, h.sent, h.ini, h.len, by have := h.cur; omega, h.rest, h.aw.more (Nat.le_of_eq (set8C_size ..).symm), by rw [set8C_block _ _ _ _ _ _ _ _ _ _ _ sb (by omega)]; exact h.sbk⟩
theorem PHd.append (h : PHd N k j sb wS L S v l E vw W) (hk : k < 2) (hL : ∀ i, i < 2 → i ≠ k → L i = S i) (x : Value) (ho : W'.ownsRow (N + 4) 9 1 x (S k).length ((S k).map .string)) (hg : W.grownBy W' (v k).ownBlock) (hat : x.ownBlock = (v k).ownBlock ∨ x.ownBlock = some W.heap.size) :
    PHd N k j sb wS S S (updV v k x) (updV l k (S k)) E vw (W'.setCell ⟨N + 1, k, none⟩ x) := by
  have e0 : 2 * 0 + k = k := by omega
  have h1 := h.st.append 0 k (by decide) hk x (S k) ho (by rw [e0]; exact hg) (by rw [e0]; exact hat) (fun e => by omega)
  rw [e0] at h1
  have hl := (h.aw sb rfl)
  refine ⟨h1, ?_, h.ini, h.len, h.cur, h.rest, (h.aw.push hg.size k x hat (by omega)).more (by rw [World.size_setCell]; exact Nat.le_refl _), ?_⟩
  · intro i hi
    refine ⟨?_, by rw [updV_other _ _ (by omega)]; exact (h.sent i hi).2⟩
    by_cases e : i = k
    · subst e; rw [updV_same]
    · rw [updV_other _ _ e, (h.sent i hi).1]; exact hL i hi e
  · rw [Below.heap_setCell _ _ _ _ (by dsimp only; omega)]
    exact (hg.block sb hl.2.1 (fun e => hl.2.2 k (by omega) e.symm)).trans h.sbk
end
end Go.Proofs.Ytjgjhjecgdndjaa

/- Here ends the text LoPh; here begins LoTd. -/
namespace Go.Proofs.Ytjgjhjecgdndjaa
open Go.RowKit
set_option linter.unusedVariables false
set_option linter.unusedSimpArgs false
structure TdS (N j : Nat) (S : Nat → List ByteArray) (v : Nat → Value) (l : Nat → List ByteArray) (E : Nat → EndV) (K Q : Nat → Nat) (W : World) : Prop where
  st : LoS N j S v l E W
  snt : ∀ i, i < 2 → l i = S i
  nxt : ∀ i, i < 2 → (E i).next = (Q i : Int) ∧ Q i ≤ (S (1 - i)).length
  tld : ∀ i, i < 2 → l (2 + i) = (S (1 - i)).take (K i) ∧ K i ≤ (S (1 - i)).length
  len : ∀ i, i < 2 → (S i).length ≤ 30 ∧ ∀ s ∈ S i, s.size ≤ 300
def TX (N j : Nat) (W : World) : Prop := ∃ S v l E K, TdS N j S v l E K K W
section
variable {N k j sb : Nat} {wS : World} {L S : Nat → List ByteArray} {v : Nat → Value} {l : Nat → List ByteArray} {E : Nat → EndV} {vw : Nat → Value} {K Q : Nat → Nat} {W W' : World}
theorem PHd.td (h : PHd N k j sb wS S S v l E vw W) : TdS N 0 S v l E (fun _ => 0) (fun _ => 0) W :=
  ⟨h.st, fun i hi => (h.sent i hi).1, fun i hi => ⟨by rw [h.ini i hi]; rfl, Nat.zero_le _⟩, fun i hi => ⟨by rw [(h.sent i hi).2]; rfl, Nat.zero_le _⟩, h.len⟩
theorem TdS.below (h : TdS N j S v l E K Q W) (hb : Below W.heap.size W W') : TdS N j S v l E K Q W' := ⟨h.st.below hb, h.snt, h.nxt, h.tld, h.len⟩
theorem TdS.more {j' : Nat} (h : TdS N j S v l E K Q W) (hj : j ≤ j') : TdS N j' S v l E K Q W := ⟨h.st.more hj, h.snt, h.nxt, h.tld, h.len⟩
theorem TX.below (h : TX N j W) (hb : Below W.heap.size W W') : TX N j W' := by
  obtain ⟨S, v, l, E, K, h⟩ := h
  exact ⟨S, v, l, E, K, h.below hb⟩
theorem TX.more {j' : Nat} (h : TX N j W) (hj : j ≤ j') : TX N j' W := by
  obtain ⟨S, v, l, E, K, h⟩ := h
  exact ⟨S, v, l, E, K, h.more hj⟩
theorem TdS.put (h : TdS N j S v l E K Q W) (i : Nat) (hi : i < 2) (e : EndV) (he : EndOk (N + 4) 6 v (S i) (S (1 - i)) e W) (hel : e.le.length ≤ j) (q : Nat) (hq : e.next = (q : Int)) (hqs : q ≤ (S (1 - i)).length) :
    TdS N j S v l (updV E i e) K (updV Q i q) (set8C W N (i * 8) (.int .u64 7) (.int .i64 e.base) e.vo e.vw (.int .i64 e.next) e.ve (.int .i64 e.idle) (.bool e.dead)) := by
  have h1 := h.st.store i hi e (S i) he hel (Nat.le_refl _) (fun _ _ h => h)
  rw [updV_self] at h1
  refine ⟨h1, h.snt, fun i' hi' => ?_, h.tld, h.len⟩
  by_cases e2 : i' = i
  · subst e2; rw [updV_same, updV_same]; exact ⟨hq, hqs⟩
  · rw [updV_other _ _ e2, updV_other _ _ e2]; exact h.nxt i' hi'
theorem TdS.told (h : TdS N j S v l E K Q W) (i : Nat) (hi : i < 2) (m : Nat) (hm : K i + m ≤ (S (1 - i)).length) (v' : Value) (l' : List ByteArray) (hl : l' = l (2 + i) ++ ((S (1 - i)).drop (K i)).take m) (ho : W'.ownsRow (N + 4) 9 1 v' l'.length (l'.map .string)) (hg : W.grownBy W' (v (2 + i)).ownBlock) (hat : v'.ownBlock = (v (2 + i)).ownBlock ∨ v'.ownBlock = some W.heap.size) :
    TdS N j S (updV v (2 + i) v') (updV l (2 + i) l') E (updV K i (K i + m)) Q (W'.setCell ⟨N + 1 + 1, i, none⟩ v') := by
  have h1 := h.st.append 1 i (by decide) hi v' l' ho hg hat (fun e => by cases e)
  refine ⟨h1, fun i' hi' => ?_, h.nxt, fun i' hi' => ?_, h.len⟩
  · rw [updV_other _ _ (by omega)]; exact h.snt i' hi'
  · by_cases e2 : i' = i
    · subst e2
      rw [updV_same, updV_same]
      refine ⟨?_, hm⟩
      rw [hl, (h.tld i' hi').1, ← List.take_add]
    · rw [updV_other _ _ (by omega), updV_other _ _ e2]; exact h.tld i' hi'
theorem TdS.skyA (h : TdS N j S v l E K Q W) (i : Nat) (hi : i < 2) (v' : Value) (l' out : List ByteArray) (hl : l' = l (4 + i) ++ out) (hn : (l (4 + i)).length + out.length ≤ 4 * j) (hf : ∀ y ∈ out, FrG (S i) y) (ho : W'.ownsRow (N + 4) 9 1 v' l'.length (l'.map .string)) (hg : W.grownBy W' (v (4 + i)).ownBlock) (hat : v'.ownBlock = (v (4 + i)).ownBlock ∨ v'.ownBlock = some W.heap.size) :
    TdS N j S (updV v (4 + i) v') (updV l (4 + i) l') E K Q (W'.setCell ⟨N + 1 + 2, i, none⟩ v') := by
  have h1 := h.st.append 2 i (by decide) hi v' l' ho hg hat (fun _ => ⟨by rw [hl, List.length_append]; exact hn, fun y hy => by
    rw [hl] at hy
    rcases List.mem_append.1 hy with hy | hy
    · exact (h.st.sky i hi).2 y hy
    · exact hf y hy⟩)
  refine ⟨h1, fun i' hi' => ?_, h.nxt, fun i' hi' => ?_, h.len⟩
  · rw [updV_other _ _ (by omega)]; exact h.snt i' hi'
  · rw [updV_other _ _ (by omega)]; exact h.tld i' hi'
end
/-- junk: no frame of session 7 -/
def JK (y : ByteArray) : Prop := y.size ≤ 1000 ∧ ∀ (q a : Nat) (d : ByteArray), lRead y.data.toList ≠ ((7, q, a, d.data.toList), 0)
theorem do_get (l : List (UInt8 × UInt8 × UInt8)) (i : Nat) (h : i < l.length) : (l.flatMap (ES3 EU8 EU8 EU8))[i * 3]? = some (.int .u8 l[i].1.toNat) ∧ (l.flatMap (ES3 EU8 EU8 EU8))[i * 3 + 1]? = some (.int .u8 l[i].2.1.toNat) ∧ (l.flatMap (ES3 EU8 EU8 EU8))[i * 3 + 2]? = some (.int .u8 l[i].2.2.toNat) := by
  induction l generalizing i with
  | nil => cases h
  | cons x r ih =>
    have e : (x :: r).flatMap (ES3 EU8 EU8 EU8) = .int .u8 x.1.toNat :: .int .u8 x.2.1.toNat :: .int .u8 x.2.2.toNat :: r.flatMap (ES3 EU8 EU8 EU8) := by simp [ES3, EU8]
    rw [e]
    cases i with
    | zero => exact ⟨rfl, rfl, rfl⟩
    | succ i =>
      have := ih i (by simpa using h)
      rw [show (i + 1) * 3 = i * 3 + 3 by omega]
      simpa using this
theorem do_at {w : World} {A : Option Addr} {n c : Nat} {l : List (UInt8 × UInt8 × UInt8)} (h : Sl w A n c 3 (l.flatMap (ES3 EU8 EU8 EU8))) (hl : l.length = n) {i : Nat} (hi : i < n) :
    ∃ b off, A = some ⟨b, off, none⟩ ∧ b < w.heap.size ∧ ∃ x y z : Nat, x < 256 ∧ y < 256 ∧ z < 256 ∧ w.cell? ⟨b, off + i * 3, none⟩ = some (.int .u8 x) ∧ w.cell? ⟨b, off + i * 3 + 1, none⟩ = some (.int .u8 y) ∧ w.cell? ⟨b, off + i * 3 + 2, none⟩ = some (.int .u8 z) := by
  obtain ⟨b, off, e, hb, hc⟩ := h.cells (by omega)
  obtain ⟨g0, g1, g2⟩ := do_get l i (by omega)
  refine ⟨b, off, e, hb, l[i].1.toNat, l[i].2.1.toNat, l[i].2.2.toNat, UInt8.toNat_lt _, UInt8.toNat_lt _, UInt8.toNat_lt _, ?_, ?_, ?_⟩
  · exact (hc (i * 3) (by omega)).trans g0
  · exact (hc (i * 3 + 1) (by omega)).trans g1
  · exact (hc (i * 3 + 2) (by omega)).trans g2
def NS (v : Value) : Prop := ∀ s, v ≠ .string s
theorem NS.slice {v : Value} (h : ∃ A n c, v = .slice A n c) : NS v := by
  obtain ⟨A, n, c, rfl⟩ := h
  intro s e
  cases e
theorem StrsN.setC8 {W : World} {u : Value} {out : List ByteArray} (h : StrsN W u out) {b o : Nat} {y0 y1 y2 y3 y4 y5 y6 y7 : Value} (hc : C8 b o y0 y1 y2 y3 y4 y5 y6 y7 W) (n0 : NS y0) (n1 : NS y1) (n2 : NS y2) (n3 : NS y3) (n4 : NS y4) (n5 : NS y5) (n6 : NS y6) (n7 : NS y7) (x0 x1 x2 x3 x4 x5 x6 x7 : Value) : StrsN (set8C W b o x0 x1 x2 x3 x4 x5 x6 x7) u out := by
  obtain ⟨⟨A, c, e, h1, h2, h3⟩, h4⟩ := h
  refine ⟨⟨A, c, e, h1, h2, fun hl => ?_⟩, h4⟩
  obtain ⟨b', off, e1, e2, e3⟩ := h3 hl
  refine ⟨b', off, e1, by rw [set8C_size]; exact e2, fun j hj => ?_⟩
  refine Eq.trans ?_ (e3 j hj)
  unfold set8C
  refine cell_set8 _ _ _ _ _ _ _ _ (fun k hk e4 => ?_)
  have hs := e3 j hj
  rw [← e4] at hs
  rw [List.getElem?_eq_getElem hj] at hs
  obtain ⟨c0, c1, c2, c3, c4, c5, c6, c7⟩ := hc
  have hk8 : k = 0 ∨ k = 1 ∨ k = 2 ∨ k = 3 ∨ k = 4 ∨ k = 5 ∨ k = 6 ∨ k = 7 := by omega
  rcases hk8 with rfl | rfl | rfl | rfl | rfl | rfl | rfl | rfl
  · exact n0 _ (Option.some.inj (c0.symm.trans hs))
  · exact n1 _ (Option.some.inj (c1.symm.trans hs))
  · exact n2 _ (Option.some.inj (c2.symm.trans hs))
  · exact n3 _ (Option.some.inj (c3.symm.trans hs))
  · exact n4 _ (Option.some.inj (c4.symm.trans hs))
  · exact n5 _ (Option.some.inj (c5.symm.trans hs))
  · exact n6 _ (Option.some.inj (c6.symm.trans hs))
  · exact n7 _ (Option.some.inj (c7.symm.trans hs))
theorem EndOk.shapes {B n : Nat} {v : Nat → Value} {S T : List ByteArray} {e : EndV} {W : World} (h : EndOk B n v S T e W) : (∃ A n c, e.vo = .slice A n c) ∧ (∃ A n c, e.vw = .slice A n c) ∧ ∃ A n c, e.ve = .slice A n c := by
  obtain ⟨A, c, h1, _, _⟩ := h.o.1.len
  obtain ⟨A', c', h2, _, _⟩ := h.w.1.len
  obtain ⟨A'', c'', h3, _, _⟩ := h.f.len
  exact ⟨⟨_, _, _, h1⟩, ⟨_, _, _, h2⟩, ⟨_, _, _, h3⟩⟩
theorem TdS.setStr {N j : Nat} {S : Nat → List ByteArray} {v : Nat → Value} {l : Nat → List ByteArray} {E : Nat → EndV} {K Q : Nat → Nat} {W : World} (h : TdS N j S v l E K Q W) (i : Nat) (hi : i < 2) {u : Value} {out : List ByteArray} (hu : StrsN W u out) (x0 x1 x2 x3 x4 x5 x6 x7 : Value) : StrsN (set8C W N (i * 8) x0 x1 x2 x3 x4 x5 x6 x7) u out := by
  obtain ⟨s1, s2, s3⟩ := (h.st.ends i hi).shapes
  exact hu.setC8 (h.st.cel i hi) (fun s e => by cases e) (fun s e => by cases e) (NS.slice s1) (NS.slice s2) (fun s e => by cases e) (NS.slice s3) (fun s e => by cases e) (fun s e => by cases e) _ _ _ _ _ _ _ _
theorem belowDrewN (w : World) (n : Nat) : Below w.heap.size w (w.drewN n) := by
  have h : w.drewN n = { w with drawn := w.drawn + n } := rfl
  exact ⟨rfl, rfl, rfl, Nat.le_refl _, fun _ _ => rfl⟩
set_option linter.unusedVariables false
set_option linter.unusedSimpArgs false
set_option maxRecDepth 20000 in
set_option maxHeartbeats 3000000 in
theorem rread_wide (s : ByteArray) (hs : s.size ≤ 140737488351232) (w : World) : Calls Try.prog 8 #[.string s] w fun e w' => e = .returned (.tuple #[FrV (lRead s.data.toList).1, .int .i64 ((lRead s.data.toList).2 : Nat)]) ∧ Below w.heap.size w w' := by
  have HO := Lib.hid (refOpen_any s (by omega))
  have hl : s.data.toList.length = s.size := by simp
  obtain ⟨R, hR⟩ : ∃ R, R = lRead s.data.toList := ⟨_, rfl⟩
  rw [← hR]
  unfold lRead at hR
  rw [hl] at hR
  have hsm := fOpen_len s.data.toList
  have hnle := fun h => (fOpen_back s.data.toList h).2
  rw [hl] at hsm hnle
  generalize fOpen s.data.toList = r at *
  obtain ⟨t, n, e0⟩ := r
  dsimp only at *
  have HBW : Hid (Below w.heap.size w (w.alloc (.cells #[.int .u64 0, .int .i64 0, .int .i64 0, .string ⟨#[]⟩] 24))) := (Below.refl _ _).alloc (Nat.le_refl _) _
  have HBX := Lib.hid (res0_new w)
  clear hl
  by_cases hE : e0 ≠ 0 ∨ n < s.size
  · rw [if_pos hE] at hR
    subst hR
    rw [lRead_zero]
    go_enter Try.func8, Try.ntmps8
    go_wp2_with fail
    refine (HO.out _).mono ?_
    rintro e w1 ⟨rfl, b1⟩
    replace HBX := Lib.hid (HBX.out.below b1 HBX.out.lt)
    replace HBW := Lib.hid (HBW.out.trans (b1.mono HBW.out.size))
    clear b1 HO
    by_cases h0 : e0 = 0
    · have h1 : n < s.size := by omega
      have dn : ((n : Int) != (s.size : Int)) = true := by rw [bne_iff_ne]; omega
      have dz : (((e0 : Nat) : Int) != 0) = false := by subst h0; rfl
      clear hE
      obtain ⟨d0, d1, d2, d3, gf, _⟩ := HBX.out
      have g0 := gf 0
      have g1 := gf 1
      have g2 := gf 2
      have g3 := gf 3
      clear gf HBX
      go_wp2_with fail
      (try simp only [Exit.inBlock, Exit.then])
      refine bodyPost_cell (V := .agg #[.int .u64 0, .int .i64 0, .int .i64 0, .string ⟨#[]⟩]) rfl rfl ?_ rfl ?_
      · go_simp
      · exact ⟨rfl, below_set4 HBW.out (Nat.le_refl _) _ _ _ _⟩
    · have dz : (((e0 : Nat) : Int) != 0) = true := by rw [bne_iff_ne]; omega
      clear hE
      obtain ⟨d0, d1, d2, d3, gf, _⟩ := HBX.out
      have g0 := gf 0
      have g1 := gf 1
      have g2 := gf 2
      have g3 := gf 3
      clear gf HBX
      go_wp2_with fail
      (try simp only [Exit.inBlock, Exit.then])
      refine bodyPost_cell (V := .agg #[.int .u64 0, .int .i64 0, .int .i64 0, .string ⟨#[]⟩]) rfl rfl ?_ rfl ?_
      · go_simp
      · exact ⟨rfl, below_set4 HBW.out (Nat.le_refl _) _ _ _ _⟩
  · rw [if_neg hE] at hR
    have h0 : e0 = 0 := by omega
    have h1 : ¬ n < s.size := by omega
    have h1' : n = s.size := by have := hnle h0; omega
    have dn : ((n : Int) != (s.size : Int)) = false := by rw [bne_eq_false_iff_eq]; omega
    subst h1'
    clear h1
    have dz : (((e0 : Nat) : Int) != 0) = false := by subst h0; rfl
    obtain ⟨T0, hT0⟩ : ∃ T0 : ByteArray, T0 = ⟨t.toArray⟩ := ⟨_, rfl⟩
    have hd0 : T0.data.toList = t := by rw [hT0]
    have sz0 : T0.size = t.length := by rw [hT0]; simp [ByteArray.size]
    obtain ⟨x0, k0, c0, v0⟩ : ∃ x k c, vTake t = (x, k, c) := ⟨_, _, _, rfl⟩
    obtain ⟨T1, hT1⟩ : ∃ T1, T1 = T0.extract k0 T0.size := ⟨_, rfl⟩
    have hd1 : T1.data.toList = t.drop k0 := by rw [hT1, extract_to', hd0]
    have sz1 : T1.size ≤ T0.size := by rw [hT1]; simp
    obtain ⟨x1, k1, c1, v1⟩ : ∃ x k c, vTake (t.drop k0) = (x, k, c) := ⟨_, _, _, rfl⟩
    obtain ⟨T2, hT2⟩ : ∃ T2, T2 = T1.extract k1 T1.size := ⟨_, rfl⟩
    have hd2 : T2.data.toList = (t.drop k0).drop k1 := by rw [hT2, extract_to', hd1]
    have sz2 : T2.size ≤ T1.size := by rw [hT2]; simp
    obtain ⟨x2, k2, c2, v2⟩ : ∃ x k c, vTake ((t.drop k0).drop k1) = (x, k, c) := ⟨_, _, _, rfl⟩
    obtain ⟨T3, hT3⟩ : ∃ T3, T3 = T2.extract k2 T2.size := ⟨_, rfl⟩
    have hd3 : T3.data.toList = ((t.drop k0).drop k1).drop k2 := by rw [hT3, extract_to', hd2]
    have sz3 : T3.data.toList.length = T3.size := by simp
    have hL : lTake3 t = if c0 ≠ 0 then none else if c1 ≠ 0 then none else if c2 ≠ 0 then none else some (x0, x1, x2, T3.data.toList) := by
      unfold lTake3
      rw [v0]
      dsimp only
      rw [v1]
      dsimp only
      rw [v2, hd3]
    rw [hL] at hR
    have HN0 : Hid (c0 ≠ 0 → R = (lZero, 2)) := fun h => by rw [hR, if_pos h]
    have HN1 : Hid (c0 = 0 → c1 ≠ 0 → R = (lZero, 2)) := fun h h' => by rw [hR, if_neg (by omega), if_pos h']
    have HN2 : Hid (c0 = 0 → c1 = 0 → c2 ≠ 0 → R = (lZero, 2)) := fun h h' h'' => by rw [hR, if_neg (by omega), if_neg (by omega), if_pos h'']
    have HNB : Hid (c0 = 0 → c1 = 0 → c2 = 0 → (1073741824 < x1 ∨ 1073741824 < x2 ∨ 60000 < T3.size) → R = (lZero, 2)) := fun h h' h'' hb => by
      rw [hR, if_neg (by omega), if_neg (by omega), if_neg (by omega)]; show (if _ then _ else _) = _; rw [sz3, if_pos hb]
    have HNG : Hid (c0 = 0 → c1 = 0 → c2 = 0 → ¬ (1073741824 < x1 ∨ 1073741824 < x2 ∨ 60000 < T3.size) → R = ((x0, x1, x2, T3.data.toList), 0)) := fun h h' h'' hb => by
      rw [hR, if_neg (by omega), if_neg (by omega), if_neg (by omega)]; show (if _ then _ else _) = _; rw [sz3, if_neg hb]
    have hx0 := (vTake_lt t).1
    have hx1 := (vTake_lt (t.drop k0)).1
    have hx2 := (vTake_lt ((t.drop k0).drop k1)).1
    have HOK0 : Hid (c0 = 0 → k0 ≤ T0.size) := fun h => by have := (vTake_le t (by rw [v0]; exact h)).1; rw [v0] at this; rw [sz0]; exact this
    have HOK1 : Hid (c1 = 0 → k1 ≤ T1.size) := fun h => by have := (vTake_le (t.drop k0) (by rw [v1]; exact h)).1; rw [v1, ← hd1] at this; simpa using this
    have HOK2 : Hid (c2 = 0 → k2 ≤ T2.size) := fun h => by have := (vTake_le ((t.drop k0).drop k1) (by rw [v2]; exact h)).1; rw [v2, ← hd2] at this; simpa using this
    rw [v0] at hx0
    rw [v1] at hx1
    rw [v2] at hx2
    have HT0 := Lib.hid (refTake_any T0 (by unfold maxLen; omega))
    have HT1 := Lib.hid (refTake_any T1 (by unfold maxLen; omega))
    have HT2 := Lib.hid (refTake_any T2 (by unfold maxLen; omega))
    rw [hd0, v0] at HT0
    rw [hd1, v1] at HT1
    rw [hd2, v2] at HT2
    have HE1 := Lib.hid hT1
    have HE2 := Lib.hid hT2
    have HE3 := Lib.hid hT3
    have h3 : T0.size ≤ 140737488351232 := by omega
    have h4 : T1.size ≤ 140737488351232 := by omega
    have h5 : T2.size ≤ 140737488351232 := by omega
    rw [← hT0] at HO
    clear hR hL v0 v1 v2 hd0 hd1 hd2 hd3 hT1 hT2 hT3 hT0 sz0 sz1 sz2 sz3 hsm hE
    dsimp only at hx0 hx1 hx2 HT0 HT1 HT2
    go_enter Try.func8, Try.ntmps8
    go_wp2_with fail
    refine (HO.out _).mono ?_
    rintro e w1 ⟨rfl, b1⟩
    replace HBX := Lib.hid (HBX.out.below b1 HBX.out.lt)
    replace HBW := Lib.hid (HBW.out.trans (b1.mono HBW.out.size))
    clear b1 HO
    go_wp2_with fail
    have hv := cells3u (heap_alloc_new w1 (.cells #[.int .u64 0, .int .u64 0, .int .u64 0] 55))
    have hbv : Below w1.heap.size w1 (w1.alloc (.cells #[.int .u64 0, .int .u64 0, .int .u64 0] 55)) := (Below.refl _ _).alloc (Nat.le_refl _) _
    obtain ⟨wv, hwv⟩ : ∃ wv, wv = w1.alloc (.cells #[.int .u64 0, .int .u64 0, .int .u64 0] 55) := ⟨_, rfl⟩
    obtain ⟨b, hb⟩ : ∃ b, b = w1.heap.size := ⟨_, rfl⟩
    rw [← hwv] at hv hbv
    rw [← hb] at hv
    have hbw : w.heap.size < b := by rw [hb]; exact HBX.out.lt
    have HV := Lib.hid hv
    replace HBX := Lib.hid (HBX.out.below hbv HBX.out.lt)
    replace HBW := Lib.hid (HBW.out.trans (hbv.mono HBW.out.size))
    rw [← hwv, ← hb]
    clear hv hbv hwv hb
    refine wp_loop_rounds 4 ?_
    rw [rounds_succ]
    go_wp2_with fail
    refine (HT0.out _).mono ?_
    rintro e wt ⟨rfl, rfl⟩
    clear HT0
    by_cases hc0 : c0 = 0
    case neg =>
      have hz : R = (lZero, 2) := HN0.out hc0
      subst hz
      have dz : (((c0 : Nat) : Int) != 0) = true := by rw [bne_iff_ne]; omega
      obtain ⟨d0, d1, d2, d3, gf, _⟩ := HBX.out
      have g0 := gf 0
      have g1 := gf 1
      have g2 := gf 2
      have g3 := gf 3
      clear gf HBX
      go_wp2_with fail
      (try simp only [Exit.inBlock, Exit.then])
      refine bodyPost_cell (V := .agg #[.int .u64 0, .int .i64 0, .int .i64 0, .string ⟨#[]⟩]) rfl rfl ?_ rfl ?_
      · go_simp
      · exact ⟨rfl, below_set4 HBW.out (Nat.le_refl _) _ _ _ _⟩
    have dz0 : (((c0 : Nat) : Int) != 0) = false := by rw [hc0]; rfl
    have hk0 := HOK0.out hc0
    have gk1 : ((k0 : Nat) : Int) ≤ (T0.size : Int) := by omega
    have gk2 : (0 : Int) ≤ ((k0 : Nat) : Int) := by omega
    have gk3 : (((k0 : Nat) : Int)).toNat = k0 := Int.toNat_natCast _
    have ge : T0.extract k0 T0.size = T1 := HE1.out.symm
    have vc := HV.out.c0
    have vf := HV.out.f 0
    go_wp2_with fail
    replace HV := Lib.hid (HV.out.set0 (u := x0))
    replace HBX := Lib.hid (HBX.out.set_other (j := 0) (u := .int .u64 x0) (show b ≠ w.heap.size by omega))
    replace HBW := Lib.hid (HBW.out.setCell (p := ⟨b, 0, none⟩) (Nat.le_of_lt hbw) (.int .u64 x0))
    obtain ⟨wu0, hwu⟩ : ∃ wu, wu = wv.setCell ⟨b, 0, none⟩ (.int .u64 x0) := ⟨_, rfl⟩
    rw [← hwu] at HV HBX HBW ⊢
    clear hwu vc vf gk1 gk2 gk3 ge
    rw [rounds_succ]
    go_wp2_with fail
    refine (HT1.out _).mono ?_
    rintro e wt ⟨rfl, rfl⟩
    clear HT1
    by_cases hc1 : c1 = 0
    case neg =>
      have hz : R = (lZero, 2) := HN1.out hc0 hc1
      subst hz
      have dz : (((c1 : Nat) : Int) != 0) = true := by rw [bne_iff_ne]; omega
      obtain ⟨d0, d1, d2, d3, gf, _⟩ := HBX.out
      have g0 := gf 0
      have g1 := gf 1
      have g2 := gf 2
      have g3 := gf 3
      clear gf HBX
      go_wp2_with fail
      (try simp only [Exit.inBlock, Exit.then])
      refine bodyPost_cell (V := .agg #[.int .u64 0, .int .i64 0, .int .i64 0, .string ⟨#[]⟩]) rfl rfl ?_ rfl ?_
      · go_simp
      · exact ⟨rfl, below_set4 HBW.out (Nat.le_refl _) _ _ _ _⟩
    have dz1 : (((c1 : Nat) : Int) != 0) = false := by rw [hc1]; rfl
    have hk1 := HOK1.out hc1
    have gk1 : ((k1 : Nat) : Int) ≤ (T1.size : Int) := by omega
    have gk2 : (0 : Int) ≤ ((k1 : Nat) : Int) := by omega
    have gk3 : (((k1 : Nat) : Int)).toNat = k1 := Int.toNat_natCast _
    have ge : T1.extract k1 T1.size = T2 := HE2.out.symm
    have vc := HV.out.c1
    have vf := HV.out.f 1
    go_wp2_with fail
    replace HV := Lib.hid (HV.out.set1 (u := x1))
    replace HBX := Lib.hid (HBX.out.set_other (j := 1) (u := .int .u64 x1) (show b ≠ w.heap.size by omega))
    replace HBW := Lib.hid (HBW.out.setCell (p := ⟨b, 1, none⟩) (Nat.le_of_lt hbw) (.int .u64 x1))
    obtain ⟨wu1, hwu⟩ : ∃ wu, wu = wu0.setCell ⟨b, 1, none⟩ (.int .u64 x1) := ⟨_, rfl⟩
    rw [← hwu] at HV HBX HBW ⊢
    clear hwu vc vf gk1 gk2 gk3 ge
    rw [rounds_succ]
    go_wp2_with fail
    refine (HT2.out _).mono ?_
    rintro e wt ⟨rfl, rfl⟩
    clear HT2
    by_cases hc2 : c2 = 0
    case neg =>
      have hz : R = (lZero, 2) := HN2.out hc0 hc1 hc2
      subst hz
      have dz : (((c2 : Nat) : Int) != 0) = true := by rw [bne_iff_ne]; omega
      obtain ⟨d0, d1, d2, d3, gf, _⟩ := HBX.out
      have g0 := gf 0
      have g1 := gf 1
      have g2 := gf 2
      have g3 := gf 3
      clear gf HBX
      go_wp2_with fail
      (try simp only [Exit.inBlock, Exit.then])
      refine bodyPost_cell (V := .agg #[.int .u64 0, .int .i64 0, .int .i64 0, .string ⟨#[]⟩]) rfl rfl ?_ rfl ?_
      · go_simp
      · exact ⟨rfl, below_set4 HBW.out (Nat.le_refl _) _ _ _ _⟩
    have dz2 : (((c2 : Nat) : Int) != 0) = false := by rw [hc2]; rfl
    have hk2 := HOK2.out hc2
    have gk1 : ((k2 : Nat) : Int) ≤ (T2.size : Int) := by omega
    have gk2 : (0 : Int) ≤ ((k2 : Nat) : Int) := by omega
    have gk3 : (((k2 : Nat) : Int)).toNat = k2 := Int.toNat_natCast _
    have ge : T2.extract k2 T2.size = T3 := HE3.out.symm
    have vc := HV.out.c2
    have vf := HV.out.f 2
    go_wp2_with fail
    replace HV := Lib.hid (HV.out.set2 (u := x2))
    replace HBX := Lib.hid (HBX.out.set_other (j := 2) (u := .int .u64 x2) (show b ≠ w.heap.size by omega))
    replace HBW := Lib.hid (HBW.out.setCell (p := ⟨b, 2, none⟩) (Nat.le_of_lt hbw) (.int .u64 x2))
    obtain ⟨wu2, hwu⟩ : ∃ wu, wu = wu1.setCell ⟨b, 2, none⟩ (.int .u64 x2) := ⟨_, rfl⟩
    rw [← hwu] at HV HBX HBW ⊢
    clear hwu vc vf gk1 gk2 gk3 ge
    rw [rounds_succ]
    have vv0 := HV.out.c0
    have vv1 := HV.out.c1
    have vv2 := HV.out.c2
    clear HV
    by_cases hM1 : 1073741824 < x1
    · have dm : decide ((1073741824 : Int) < (x1 : Int)) = true := by simp; omega
      have hz : R = (lZero, 2) := HNB.out hc0 hc1 hc2 (by omega)
      subst hz
      obtain ⟨d0, d1, d2, d3, gf, _⟩ := HBX.out
      have g0 := gf 0
      have g1 := gf 1
      have g2 := gf 2
      have g3 := gf 3
      clear gf HBX
      go_wp2_with fail
      (try simp only [Exit.inBlock, Exit.then])
      refine bodyPost_cell (V := .agg #[.int .u64 0, .int .i64 0, .int .i64 0, .string ⟨#[]⟩]) rfl rfl ?_ rfl ?_
      · go_simp
      · exact ⟨rfl, below_set4 HBW.out (Nat.le_refl _) _ _ _ _⟩
    · have dm : decide ((1073741824 : Int) < (x1 : Int)) = false := by simp; omega
      by_cases hM2 : 1073741824 < x2
      · have dm2 : decide ((1073741824 : Int) < (x2 : Int)) = true := by simp; omega
        have hz : R = (lZero, 2) := HNB.out hc0 hc1 hc2 (by omega)
        subst hz
        obtain ⟨d0, d1, d2, d3, gf, _⟩ := HBX.out
        have g0 := gf 0
        have g1 := gf 1
        have g2 := gf 2
        have g3 := gf 3
        clear gf HBX
        go_wp2_with fail
        (try simp only [Exit.inBlock, Exit.then])
        refine bodyPost_cell (V := .agg #[.int .u64 0, .int .i64 0, .int .i64 0, .string ⟨#[]⟩]) rfl rfl ?_ rfl ?_
        · go_simp
        · exact ⟨rfl, below_set4 HBW.out (Nat.le_refl _) _ _ _ _⟩
      · have dm2 : decide ((1073741824 : Int) < (x2 : Int)) = false := by simp; omega
        have hb1 : x1 ≤ 1073741824 := by omega
        have hb2 : x2 ≤ 1073741824 := by omega
        have HFT := Lib.hid (fun w => rfits_any (UInt64.ofNat x0) x1 x2 T3 w)
        have hx0u : (UInt64.ofNat x0).toNat = x0 := by rw [UInt64.toNat_ofNat']; exact Nat.mod_eq_of_lt hx0
        unfold Fr at HFT
        rw [hx0u] at HFT
        by_cases hT : 60000 < T3.size
        · have hlf : lFits (x1 : Int) (x2 : Int) T3.size = false := by unfold lFits; simp; omega
          rw [hlf] at HFT
          have hz : R = (lZero, 2) := HNB.out hc0 hc1 hc2 (by omega)
          subst hz
          go_wp2_with fail
          have hba : Below wu2.heap.size wu2 (wu2.alloc (.cells #[.int .u64 x0, .int .i64 x1, .int .i64 x2, .string T3] 24)) := (Below.refl _ _).alloc (Nat.le_refl _) _
          obtain ⟨q0, q1, q2, q3, _⟩ := cells4 (heap_alloc_new wu2 (.cells #[.int .u64 x0, .int .i64 x1, .int .i64 x2, .string T3] 24))
          refine (HFT.out _).mono ?_
          rintro e wf ⟨rfl, bf⟩
          have hbf : Below wu2.heap.size wu2 wf := hba.trans (bf.mono (by simp))
          replace q0 := (bf.cell (p := ⟨wu2.heap.size, 0, none⟩) (by simp)).trans q0
          replace q1 := (bf.cell (p := ⟨wu2.heap.size, 1, none⟩) (by simp)).trans q1
          replace q2 := (bf.cell (p := ⟨wu2.heap.size, 2, none⟩) (by simp)).trans q2
          replace q3 := (bf.cell (p := ⟨wu2.heap.size, 3, none⟩) (by simp)).trans q3
          replace HBX := Lib.hid (HBX.out.below hbf HBX.out.lt)
          replace HBW := Lib.hid (HBW.out.trans (hbf.mono HBW.out.size))
          clear hba bf hbf HFT
          obtain ⟨d0, d1, d2, d3, gf, _⟩ := HBX.out
          have g0 := gf 0
          have g1 := gf 1
          have g2 := gf 2
          have g3 := gf 3
          clear gf HBX
          go_wp2_with fail
          (try simp only [Exit.inBlock, Exit.then])
          refine bodyPost_cell (V := .agg #[.int .u64 0, .int .i64 0, .int .i64 0, .string ⟨#[]⟩]) rfl rfl ?_ rfl ?_
          · go_simp
          · exact ⟨rfl, below_set4 HBW.out (Nat.le_refl _) _ _ _ _⟩
        · have hlf : lFits (x1 : Int) (x2 : Int) T3.size = true := by unfold lFits; simp; omega
          rw [hlf] at HFT
          have hz : R = ((x0, x1, x2, T3.data.toList), 0) := HNG.out hc0 hc1 hc2 (by omega)
          subst hz
          go_wp2_with fail
          have hba : Below wu2.heap.size wu2 (wu2.alloc (.cells #[.int .u64 x0, .int .i64 x1, .int .i64 x2, .string T3] 24)) := (Below.refl _ _).alloc (Nat.le_refl _) _
          obtain ⟨q0, q1, q2, q3, _⟩ := cells4 (heap_alloc_new wu2 (.cells #[.int .u64 x0, .int .i64 x1, .int .i64 x2, .string T3] 24))
          refine (HFT.out _).mono ?_
          rintro e wf ⟨rfl, bf⟩
          have hbf : Below wu2.heap.size wu2 wf := hba.trans (bf.mono (by simp))
          replace q0 := (bf.cell (p := ⟨wu2.heap.size, 0, none⟩) (by simp)).trans q0
          replace q1 := (bf.cell (p := ⟨wu2.heap.size, 1, none⟩) (by simp)).trans q1
          replace q2 := (bf.cell (p := ⟨wu2.heap.size, 2, none⟩) (by simp)).trans q2
          replace q3 := (bf.cell (p := ⟨wu2.heap.size, 3, none⟩) (by simp)).trans q3
          replace HBX := Lib.hid (HBX.out.below hbf HBX.out.lt)
          replace HBW := Lib.hid (HBW.out.trans (hbf.mono HBW.out.size))
          clear hba bf hbf HFT
          obtain ⟨d0, d1, d2, d3, gf, _⟩ := HBX.out
          have g0 := gf 0
          have g1 := gf 1
          have g2 := gf 2
          have g3 := gf 3
          clear gf HBX
          go_wp2_with fail
          (try simp only [Exit.inBlock, Exit.then])
          refine bodyPost_cell (V := .agg #[.int .u64 x0, .int .i64 x1, .int .i64 x2, .string T3]) rfl rfl ?_ rfl ?_
          · go_simp
          · refine ⟨?_, below_set4 HBW.out (Nat.le_refl _) _ _ _ _⟩
            unfold FrV
            dsimp only
            rw [show (⟨T3.data.toList.toArray⟩ : ByteArray) = T3 from by apply ByteArray.ext; simp]
            rfl
theorem below_set8o {B : Nat} {w w' : World} {b : Nat} (h : Below B w w') (hB : B ≤ b) (o : Nat) (x0 x1 x2 x3 x4 x5 x6 x7 : Value) : Below B w (set8C w' b o x0 x1 x2 x3 x4 x5 x6 x7) :=
  (((((((h.setCell (p := ⟨b, o, none⟩) hB _).setCell (p := ⟨b, o + 1, none⟩) hB _).setCell (p := ⟨b, o + 2, none⟩) hB _).setCell (p := ⟨b, o + 3, none⟩) hB _).setCell (p := ⟨b, o + 4, none⟩) hB _).setCell (p := ⟨b, o + 5, none⟩) hB _).setCell (p := ⟨b, o + 6, none⟩) hB _).setCell (p := ⟨b, o + 7, none⟩) hB _
/-- the loops of a code that stand in no loop -/
def loopsOf : Code → List Code
  | .loop c => [c]
  | .seq a b => loopsOf a ++ loopsOf b
  | .block _ c => loopsOf c
  | .cond _ a b => loopsOf a ++ loopsOf b
  | _ => []
noncomputable def todoBody : Code := (((Try.f4.body.map loopsOf).getD [])[2]?).getD .skip
end Go.Proofs.Ytjgjhjecgdndjaa
