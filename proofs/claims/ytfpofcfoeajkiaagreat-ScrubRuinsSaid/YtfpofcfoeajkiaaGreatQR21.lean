/- Texts of this claim's author, packed: ScrTake. Conditions: none. -/
import Derived.Test.YtfpofcfoeajkiaaGreatQR20
import Derived.Test.YtfpofcfoeajkiaaGreatQR08
import Derived.BigRegion
/- finder.take: its state, and what it does of a frame's text. -/
namespace Go.Proofs.YtfpofcfoeajkiaaGreat
open Go.RowKit
set_option linter.unusedVariables false
set_option linter.unusedSimpArgs false
/- plain -/
def takeS (l : List Shd) (dn : Nat → Bool) (t : ByteArray) : List Shd × (Nat → Bool) :=
  match l[(vTake t.data.toList).1]? with
  | none => (l, dn)
  | some x =>
    if (vTake t.data.toList).2.2 = 0 ∧ dn (vTake t.data.toList).1 = false ∧ shaSum (t.data.toList.drop (vTake t.data.toList).2.1) = x.2.2 then
      (l.set (vTake t.data.toList).1 (x.1, t.extract (vTake t.data.toList).2.1 t.size, x.2.2), fun j => decide (j = (vTake t.data.toList).1) || dn j)
    else (l, dn)
abbrev FS := Option (Nat × Nat × Nat × List Shd × (Nat → Bool))
def stepF (st : FS) (t : ByteArray) : FS :=
  match st with
  | none => (headL t.data.toList).map fun x => (x.1, x.2.1, x.2.2.1, x.2.2.2, fun _ => false)
  | some (a, b, c, l, dn) => some (a, b, c, (takeS l dn t).1, (takeS l dn t).2)
def cntD (dn : Nat → Bool) (n : Nat) : Nat := (List.range n).countP dn
theorem cntD_le (dn : Nat → Bool) (n : Nat) : cntD dn n ≤ n := by
  unfold cntD
  have := List.countP_le_length (p := dn) (l := List.range n)
  simpa using this
theorem cntD_put (dn : Nat → Bool) (i : Nat) (h : dn i = false) : ∀ n, i < n → cntD (fun j => decide (j = i) || dn j) n = cntD dn n + 1 := by
  have h0 : ∀ n, n ≤ i → cntD (fun j => decide (j = i) || dn j) n = cntD dn n := by
    intro n hn
    unfold cntD
    refine List.countP_congr fun x hx => ?_
    have := List.mem_range.1 hx
    have : x ≠ i := by omega
    simp [this]
  intro n
  induction n with
  | zero => intro h; omega
  | succ n ih =>
    intro hi
    unfold cntD at *
    rw [List.range_succ, List.countP_append, List.countP_append]
    by_cases e : i = n
    · subst e
      rw [h0 i (Nat.le_refl _)]
      simp [h]
    · rw [ih (by omega)]
      have : n ≠ i := fun e' => e e'.symm
      simp [this]
      omega
theorem cntD_all {dn : Nat → Bool} {n : Nat} (h : cntD dn n = n) : ∀ i, i < n → dn i = true := by
  intro i hi
  unfold cntD at h
  have : (List.range n).countP dn = (List.range n).length := by simpa using h
  exact List.countP_eq_length.1 this i (List.mem_range.2 hi)
/-- a row of shards in a block of its own, that may be written -/
structure RowW (W : World) (g : Nat) (l : List Shd) : Prop where
  blk : ∃ cur, W.heap[g]? = some (.cells cur 46 (0, 0))
  cells : ∀ i (h : i < l.length), W.cell? ⟨g, i * 3, none⟩ = some (.int .i64 l[i].1) ∧ W.cell? ⟨g, i * 3 + 1, none⟩ = some (.string l[i].2.1) ∧ W.cell? ⟨g, i * 3 + 2, none⟩ = some (.string l[i].2.2)
theorem RowW.lt {W : World} {g : Nat} {l : List Shd} (h : RowW W g l) : g < W.heap.size := by
  obtain ⟨cur, hc⟩ := h.blk
  exact (Array.getElem?_eq_some_iff.1 hc).1
theorem RowW.frozen {W : World} {g : Nat} {l : List Shd} (h : RowW W g l) (o : Nat) : W.frozen? ⟨g, o, none⟩ = false := by
  obtain ⟨cur, hc⟩ := h.blk
  simp [World.frozen?, hc]
theorem RowW.same {W W' : World} {g : Nat} {l : List Shd} (h : RowW W g l) (hk : W'.heap[g]? = W.heap[g]?) : RowW W' g l := by
  obtain ⟨cur, hc⟩ := h.blk
  exact ⟨⟨cur, hk.trans hc⟩, fun i hi => ⟨(World.cell?_of_block hk).trans (h.cells i hi).1, (World.cell?_of_block hk).trans (h.cells i hi).2.1, (World.cell?_of_block hk).trans (h.cells i hi).2.2⟩⟩
theorem RowW.set {W : World} {g : Nat} {l : List Shd} (h : RowW W g l) (n : Nat) (hn : n < l.length) (d : ByteArray) : RowW (W.setCell ⟨g, n * 3 + 1, none⟩ (.string d)) g (l.set n (l[n].1, d, l[n].2.2)) := by
  obtain ⟨cur, hc⟩ := h.blk
  obtain ⟨hlt, hk⟩ := Array.getElem?_eq_some_iff.1 hc
  have hb : (W.setCell ⟨g, n * 3 + 1, none⟩ (.string d)).heap[g]? = some (.cells (cur.setIfInBounds (n * 3 + 1) (.string d)) 46 (0, 0)) := by
    show (W.heap.modify g _)[g]? = _
    rw [Array.getElem?_eq_getElem (by rw [Array.size_modify]; exact hlt), Array.getElem_modify_self, hk]
    rfl
  have ho : ∀ o, o ≠ n * 3 + 1 → (W.setCell ⟨g, n * 3 + 1, none⟩ (.string d)).cell? ⟨g, o, none⟩ = W.cell? ⟨g, o, none⟩ := fun o hne =>
    World.cell?_setCell_other _ _ _ _ (by intro e; injection e with _ e; exact hne e.symm)
  refine ⟨⟨_, hb⟩, fun i hi => ?_⟩
  have hi' : i < l.length := by rw [List.length_set] at hi; exact hi
  by_cases e : i = n
  · subst e
    rw [List.getElem_set_self]
    refine ⟨(ho _ (by omega)).trans (h.cells i hi').1, ?_, (ho _ (by omega)).trans (h.cells i hi').2.2⟩
    have h1 := (h.cells i hi').2.1
    unfold World.cell? at h1 ⊢
    rw [hc] at h1
    rw [hb]
    have hsz : i * 3 + 1 < cur.size := by
      refine Decidable.byContradiction fun hh => ?_
      have : cur[i * 3 + 1]? = none := Array.getElem?_eq_none (by omega)
      simp [this] at h1
    simp [hsz]
  · rw [List.getElem_set_ne (fun e' => e e'.symm)]
    exact ⟨(ho _ (by omega)).trans (h.cells i hi').1, (ho _ (by omega)).trans (h.cells i hi').2.1, (ho _ (by omega)).trans (h.cells i hi').2.2⟩
theorem RowW.shdB {W : World} {g cap : Nat} {l : List Shd} (h : RowW W g l) (hc : l.length ≤ cap) (hm : cap ≤ maxLen) : ShdB W (.slice (some ⟨g, 0, none⟩) l.length cap) l :=
  ⟨_, cap, rfl, hc, hm, fun _ => ⟨g, 0, rfl, h.lt, fun i hi => by simpa using h.cells i hi⟩⟩
theorem RowW.of_owns {W : World} {B : Nat} {A : Option Addr} {cap : Nat} {l : List Shd} (h : W.ownsRow B 46 3 (.slice A l.length cap) l.length (shCells l)) (hl : 0 < l.length) : ∃ g, A = some ⟨g, 0, none⟩ ∧ B ≤ g ∧ RowW W g l ∧ l.length ≤ cap ∧ cap ≤ maxLen := by
  have hB := ShdB.of_owns h
  rcases h.2 with ⟨hv, h0⟩ | ⟨g, cap', cur, hv, hb, hg, hn, hm, hc, ht⟩
  · omega
  · simp only [Value.slice.injEq] at hv
    obtain ⟨rfl, _, rfl⟩ := hv
    obtain ⟨A', c', e, h1, h2, h3⟩ := hB
    simp only [Value.slice.injEq] at e
    obtain ⟨rfl, _, rfl⟩ := e
    obtain ⟨b, off, e1, e2, e3⟩ := h3 hl
    simp only [Option.some.injEq, Addr.mk.injEq] at e1
    obtain ⟨rfl, rfl, _⟩ := e1
    exact ⟨g, rfl, hb, ⟨⟨cur, hg⟩, fun i hi => by simpa using e3 i hi⟩, hn, hm⟩
/-- the finder's block, its row, its map -/
def FinM (B0 F M : Nat) (st : FS) (W : World) : Prop :=
  match st with
  | none => ∃ (K P Z : Int) (A : Option Addr) (n c : Nat), W.heap[F]? = some (.cells #[.int .i64 K, .int .i64 P, .int .i64 Z, .slice A n c, .bool false, .map (some M)] 50 (0, 0)) ∧ SetI W M 0 (fun _ => false)
  | some (a, b, c, l, dn) => ∃ g cap, B0 ≤ g ∧ W.heap[F]? = some (.cells #[.int .i64 (a : Nat), .int .i64 (b : Nat), .int .i64 (c : Nat), .slice (some ⟨g, 0, none⟩) l.length cap, .bool true, .map (some M)] 50 (0, 0)) ∧ RowW W g l ∧ l.length ≤ cap ∧ cap ≤ maxLen ∧ g ≠ F ∧ g ≠ M ∧ SetI W M (cntD dn l.length) dn ∧ (∀ i (h : i < l.length), l[i].1 = (i : Int) ∧ l[i].2.2.size = 32) ∧ 0 < l.length ∧ l.length ≤ 32
/-- what take leaves -/
structure ChgF (B0 F M : Nat) (W W' : World) : Prop where
  os : W'.os = W.os
  tape : W'.tape = W.tape
  output : W'.output = W.output
  size : W.heap.size ≤ W'.heap.size
  same : ∀ k o, W.heap[k]? = some o → k ≠ F → k ≠ M → (B0 ≤ k → ∀ cur fl, o ≠ .cells cur 46 fl) → W'.heap[k]? = some o
theorem str_eqS {a b : ByteArray} (h : a = b) : (a.toList == b.toList) = true := by rw [h]; simp
theorem ChgF.of_below {B0 F M : Nat} {W W' : World} (h : Below W.heap.size W W') : ChgF B0 F M W W' := ⟨h.os, h.tape, h.output, h.size, fun k o hk _ _ _ => (h.block k (Array.getElem?_eq_some_iff.1 hk).1).trans hk⟩
theorem ChgF.trans {B0 F M : Nat} {U V W : World} (h : ChgF B0 F M U V) (k : ChgF B0 F M V W) : ChgF B0 F M U W := ⟨k.os.trans h.os, k.tape.trans h.tape, k.output.trans h.output, Nat.le_trans h.size k.size, fun b o hb h1 h2 h3 => k.same b o (h.same b o hb h1 h2 h3) h1 h2 h3⟩
theorem ChgF.setCell {B0 F M : Nat} {V W : World} (h : ChgF B0 F M V W) (off : Nat) (v : Value) : ChgF B0 F M V (W.setCell ⟨F, off, none⟩ v) :=
  ⟨h.os, h.tape, h.output, by rw [World.size_setCell]; exact h.size, fun k o hk h1 h2 h3 => (Below.heap_setCell _ _ _ _ (by dsimp only; exact h1)).trans (h.same k o hk h1 h2 h3)⟩
theorem ChgF.setRow {B0 F M g : Nat} {V W : World} (h : ChgF B0 F M V W) (hg : B0 ≤ g) (hb : ∃ cur, V.heap[g]? = some (.cells cur 46 (0, 0))) (off : Nat) (v : Value) : ChgF B0 F M V (W.setCell ⟨g, off, none⟩ v) :=
  ⟨h.os, h.tape, h.output, by rw [World.size_setCell]; exact h.size, fun k o hk h1 h2 h3 => by
    have hne : k ≠ g := fun e => by
      subst e
      obtain ⟨cur, hc⟩ := hb
      rw [hc] at hk
      cases hk
      exact h3 hg _ _ rfl
    exact (Below.heap_setCell _ _ _ _ (by dsimp only; exact hne)).trans (h.same k o hk h1 h2 h3)⟩
theorem ChgF.map {B0 F M : Nat} {V W W' : World} (h : ChgF B0 F M V W) (hg : W.grownBy W' (some M)) : ChgF B0 F M V W' :=
  ⟨hg.os.trans h.os, hg.tape.trans h.tape, hg.output.trans h.output, Nat.le_trans h.size hg.size, fun k o hk h1 h2 h3 => by
    have h4 := h.same k o hk h1 h2 h3
    exact (hg.block k (Array.getElem?_eq_some_iff.1 h4).1 (fun e => h2 (by injection e))).trans h4⟩
theorem cells6 {w : World} {b : Nat} {x0 x1 x2 x3 x4 x5 : Value} {t : TypeId} (h : w.heap[b]? = some (.cells #[x0, x1, x2, x3, x4, x5] t (0, 0))) : w.cell? ⟨b, 0, none⟩ = some x0 ∧ w.cell? ⟨b, 1, none⟩ = some x1 ∧ w.cell? ⟨b, 2, none⟩ = some x2 ∧ w.cell? ⟨b, 3, none⟩ = some x3 ∧ w.cell? ⟨b, 4, none⟩ = some x4 ∧ w.cell? ⟨b, 5, none⟩ = some x5 ∧ ∀ j, w.frozen? ⟨b, j, none⟩ = false := by
  refine ⟨?_, ?_, ?_, ?_, ?_, ?_, fun j => ?_⟩
  all_goals first | (unfold World.cell?; simp [h]; done) | (unfold World.frozen?; simp [h])
theorem set6 {w : World} {b : Nat} {x0 x1 x2 x3 x4 x5 : Value} {t : TypeId} (h : w.heap[b]? = some (.cells #[x0, x1, x2, x3, x4, x5] t (0, 0))) (u : Value) :
    (w.setCell ⟨b, 0, none⟩ u).heap[b]? = some (.cells #[u, x1, x2, x3, x4, x5] t (0, 0)) ∧ (w.setCell ⟨b, 1, none⟩ u).heap[b]? = some (.cells #[x0, u, x2, x3, x4, x5] t (0, 0)) ∧ (w.setCell ⟨b, 2, none⟩ u).heap[b]? = some (.cells #[x0, x1, u, x3, x4, x5] t (0, 0)) ∧ (w.setCell ⟨b, 3, none⟩ u).heap[b]? = some (.cells #[x0, x1, x2, u, x4, x5] t (0, 0)) ∧ (w.setCell ⟨b, 4, none⟩ u).heap[b]? = some (.cells #[x0, x1, x2, x3, u, x5] t (0, 0)) := by
  obtain ⟨hlt, hk⟩ := Array.getElem?_eq_some_iff.1 h
  refine ⟨?_, ?_, ?_, ?_, ?_⟩ <;> (show (w.heap.modify b _)[b]? = _; rw [Array.getElem?_eq_getElem (by rw [Array.size_modify]; exact hlt), Array.getElem_modify_self, hk]; rfl)
theorem set5at {w : World} {b : Nat} {x0 x1 x2 x3 x4 x5 : Value} {t : TypeId} (h : w.heap[b]? = some (.cells #[x0, x1, x2, x3, x4, x5] t (0, 0))) (u0 u1 u2 u3 u4 : Value) :
    (((((w.setCell ⟨b, 0, none⟩ u0).setCell ⟨b, 1, none⟩ u1).setCell ⟨b, 2, none⟩ u2).setCell ⟨b, 3, none⟩ u3).setCell ⟨b, 4, none⟩ u4).heap[b]? = some (.cells #[u0, u1, u2, u3, u4, x5] t (0, 0)) :=
  (set6 ((set6 ((set6 ((set6 ((set6 h u0).1) u1).2.1) u2).2.2.1) u3).2.2.2.1) u4).2.2.2.2
theorem set5_keep {W : World} {b k : Nat} (hk : k ≠ b) (x y z u v : Value) : (((((W.setCell ⟨b, 0, none⟩ x).setCell ⟨b, 1, none⟩ y).setCell ⟨b, 2, none⟩ z).setCell ⟨b, 3, none⟩ u).setCell ⟨b, 4, none⟩ v).heap[k]? = W.heap[k]? := by
  rw [Below.heap_setCell _ _ _ _ (by dsimp only; exact hk), set4_keep hk]
theorem headL_fit {t : List UInt8} {a b c : Nat} {l : List Shd} (h : headL t = some (a, b, c, l)) : (∀ i (h : i < l.length), l[i].1 = (i : Int) ∧ l[i].2.2.size = 32) ∧ 0 < l.length ∧ l.length ≤ 32 := by
  unfold headL at h
  split at h
  · rename_i a' b' c' r hn
    by_cases hf : r.length = (a' + b') * 32 ∧ fitW a' b' c' (shdOf (a' + b') r) = true
    · rw [if_pos hf] at h
      simp only [Option.some.injEq, Prod.mk.injEq] at h
      obtain ⟨rfl, rfl, rfl, rfl⟩ := h
      obtain ⟨⟨k1, k2⟩, ⟨p1, p2⟩, _, hl, hg⟩ := fitW_get hf.2
      exact ⟨hg, by omega, by omega⟩
    · rw [if_neg hf] at h; cases h
  · cases h
set_option maxRecDepth 20000 in
set_option maxHeartbeats 8000000 in
theorem take_none (B0 F M : Nat) (t : ByteArray) (ht : t.size ≤ 1000000) (w : World) (h : FinM B0 F M none w) (hFM : F ≠ M) (hB : B0 ≤ w.heap.size) :
    Calls Tryz.prog 18 #[.pointer (some ⟨F, 0, none⟩), .string t] w fun e w' => (∃ v, e = .returned v) ∧ FinM B0 F M (stepF none t) w' ∧ ChgF B0 F M w w' := by
  obtain ⟨K, P, Z, A, n, c, hb, hm⟩ := h
  obtain ⟨c0, c1, c2, c3, c4, c5, cf⟩ := cells6 hb
  have HB := Lib.hid hb
  have HM := Lib.hid hm
  have HH := Lib.hid (head_any t ht w)
  have hFl := (Array.getElem?_eq_some_iff.1 hb).1
  have HML := Lib.hid hm.lt
  clear hb hm cf
  go_enter Tryz.func18, Tryz.ntmps18
  go_wp2_with fail
  refine HH.out.mono ?_
  rintro e w1 ⟨hp, b1⟩
  have HB1 := Lib.hid ((b1.block F hFl).trans HB.out)
  have HM1 := Lib.hid (HM.out.same (b1.block M HML.out))
  have HC1 : Hid (ChgF B0 F M w w1) := ChgF.of_below b1
  have hs1 := b1.size
  clear b1 HB HM HH c0 c1 c2 c3 c4 c5
  obtain ⟨c0, c1, c2, c3, c4, c5, cf⟩ := cells6 HB1.out
  have f0 := cf 0
  have f1 := cf 1
  have f2 := cf 2
  have f3 := cf 3
  have f4 := cf 4
  clear cf
  have HCE : Hid (∀ x y z u v, ChgF B0 F M w (((((w1.setCell ⟨F, 0, none⟩ x).setCell ⟨F, 1, none⟩ y).setCell ⟨F, 2, none⟩ z).setCell ⟨F, 3, none⟩ u).setCell ⟨F, 4, none⟩ v)) := fun x y z u v => ((((HC1.out.setCell 0 x).setCell 1 y).setCell 2 z).setCell 3 u).setCell 4 v
  cases hd : headL t.data.toList with
  | none =>
    obtain ⟨x, y, z, A2, n2, c2', rfl⟩ := hp.1 hd
    have HS : Hid (stepF none t = none) := by unfold Hid stepF; dsimp only; rw [hd]; rfl
    clear hp hd
    go_wp2_with fail
    refine bodyPost_ret (results_none rfl _ _ _) rfl ?_
    rw [HS.out]
    exact ⟨⟨_, rfl⟩, ⟨x, y, z, A2, n2, c2', set5at HB1.out _ _ _ _ _, HM1.out.same (set5_keep (fun e => hFM e.symm) _ _ _ _ _)⟩, HCE.out _ _ _ _ _⟩
  | some x =>
    obtain ⟨a, b, c', l⟩ := x
    obtain ⟨A2, cap, rfl, ho⟩ := hp.2 a b c' l hd
    have HS : Hid (stepF none t = some (a, b, c', l, fun _ => false)) := by unfold Hid stepF; dsimp only; rw [hd]; rfl
    obtain ⟨hg1, hg2, hg3⟩ := headL_fit hd
    obtain ⟨g, rfl, hgB, hrow, hcl, hcm⟩ := RowW.of_owns ho hg2
    have HR := Lib.hid hrow
    have HG := Lib.hid hg1
    have HML1 := HML.out
    clear hp hd ho hrow hg1
    go_wp2_with fail
    refine bodyPost_ret (results_none rfl _ _ _) rfl ?_
    rw [HS.out]
    have hz : cntD (fun _ => false) l.length = 0 := by unfold cntD; simp
    refine ⟨⟨_, rfl⟩, ⟨g, cap, Nat.le_trans hB hgB, set5at HB1.out _ _ _ _ _, HR.out.same (set5_keep (by omega) _ _ _ _ _), hcl, hcm, by omega, by omega, ?_, HG.out, hg2, hg3⟩, HCE.out _ _ _ _ _⟩
    rw [hz]
    exact HM1.out.same (set5_keep (fun e => hFM e.symm) _ _ _ _ _)
set_option maxRecDepth 20000 in
set_option maxHeartbeats 8000000 in
theorem take_some (B0 F M : Nat) (a b c : Nat) (l : List Shd) (dn : Nat → Bool) (t : ByteArray) (ht : t.size ≤ 1000000) (w : World) (h : FinM B0 F M (some (a, b, c, l, dn)) w) (hFM : F ≠ M) (hB : B0 ≤ w.heap.size) :
    Calls Tryz.prog 18 #[.pointer (some ⟨F, 0, none⟩), .string t] w fun e w' => (∃ v, e = .returned v) ∧ FinM B0 F M (stepF (some (a, b, c, l, dn)) t) w' ∧ ChgF B0 F M w w' := by
  obtain ⟨g, cap, hg0, hb, hrow, hcl, hcm, hgF, hgM, hset, hfit, hl0, hl32⟩ := h
  have hc9 : cap ≤ 9223372036854775807 := by unfold maxLen at hcm; omega
  have HB := Lib.hid hb
  have HR := Lib.hid hrow
  have HM := Lib.hid hset
  have HG := Lib.hid hfit
  have HCM := Lib.hid hcm
  have HTK := Lib.hid (take_any t (by unfold maxLen; omega) w)
  obtain ⟨n, k, e', v0⟩ : ∃ n k e, vTake t.data.toList = (n, k, e) := ⟨_, _, _, rfl⟩
  have hok : e' = 0 → k ≤ t.size := fun h => by have := (vTake_le t.data.toList (by rw [v0]; exact h)).1; rw [v0] at this; simpa using this
  have hnl := (vTake_lt t.data.toList).1
  rw [v0] at HTK hnl
  have HTS : Hid (takeS l dn t = match l[n]? with | none => (l, dn) | some x => if e' = 0 ∧ dn n = false ∧ shaSum (t.data.toList.drop k) = x.2.2 then (l.set n (x.1, t.extract k t.size, x.2.2), fun j => decide (j = n) || dn j) else (l, dn)) := by unfold Hid takeS; rw [v0]
  dsimp only at HTK hnl
  obtain ⟨q, hq⟩ : ∃ q, q = l.length := ⟨_, rfl⟩
  have HQ := Lib.hid hq
  have hFl := (Array.getElem?_eq_some_iff.1 hb).1
  rw [← hq] at HB hl0 hl32 hcl
  have HSAME : Hid (takeS l dn t = (l, dn) → ∀ W, Below w.heap.size w W → FinM B0 F M (stepF (some (a, b, c, l, dn)) t) W ∧ ChgF B0 F M w W) := fun hs W hW => by
    refine ⟨?_, ChgF.of_below hW⟩
    show FinM B0 F M (some (a, b, c, (takeS l dn t).1, (takeS l dn t).2)) W
    rw [hs]
    exact ⟨g, cap, hg0, (hW.block F hFl).trans hb, hrow.same (hW.block g hrow.lt), by dsimp only; omega, hcm, hgF, hgM, hset.same (hW.block M hset.lt), hfit, by dsimp only; omega, by dsimp only; omega⟩
  have HGLT := Lib.hid hrow.lt
  have HMLT := Lib.hid hset.lt
  clear hb hrow hset hfit hcm v0 hq
  have HCE : Hid (∀ W, Below w.heap.size w W → (W.cell? ⟨F, 3, none⟩ = some (.slice (some ⟨g, 0, none⟩) q cap) ∧ W.cell? ⟨F, 4, none⟩ = some (.bool true) ∧ W.cell? ⟨F, 5, none⟩ = some (.map (some M)))) := fun W hW => by
    obtain ⟨_, _, _, c3, c4, c5, _⟩ := cells6 ((hW.block F hFl).trans HB.out)
    exact ⟨c3, c4, c5⟩
  obtain ⟨c3, c4, c5⟩ := HCE.out w (Below.refl _ _)
  go_enter Tryz.func18, Tryz.ntmps18
  go_wp2_with fail
  refine HTK.out.mono ?_
  rintro e w1 ⟨rfl, b1⟩
  have HB1 := Lib.hid b1
  obtain ⟨d3, d4, d5⟩ := HCE.out w1 b1
  clear b1 HTK c3 c4 c5
  by_cases he : e' = 0
  · subst he
    have hk := hok rfl
    by_cases hnq : n < q
    · have g1 : decide ((q : Int) ≤ (n : Int)) = false := by rw [decide_eq_false_iff_not]; omega
      have g2 : decide (q ≤ n) = false := by rw [decide_eq_false_iff_not]; omega
      have hnI : (n : Int) < (q : Int) := by omega
      have hnl' : n < l.length := by have := HQ.out; omega
      have hgt := List.getElem?_eq_getElem hnl'
      have hr := fun W (hW : Below w.heap.size w W) => (HR.out.same (hW.block g HGLT.out)).cells n hnl'
      have hx1 := (HG.out n hnl').1
      rw [hgt] at HTS
      have HRS : Hid (∀ W, RowW W g l → ∀ d, RowW (W.setCell ⟨g, n * 3 + 1, none⟩ (.string d)) g (l.set n (l[n].1, d, l[n].2.2))) := fun W h d => h.set n hnl' d
      have HFS : Hid (∀ d, ∀ i (h : i < (l.set n (l[n].1, d, l[n].2.2)).length), (l.set n (l[n].1, d, l[n].2.2))[i].1 = (i : Int) ∧ (l.set n (l[n].1, d, l[n].2.2))[i].2.2.size = 32) := fun d i hi => by
        have hi' : i < l.length := by rw [List.length_set] at hi; exact hi
        by_cases e : i = n
        · subst e; rw [List.getElem_set_self]; exact HG.out i hi'
        · rw [List.getElem_set_ne (fun e' => e e'.symm)]; exact HG.out i hi'
      generalize l[n] = x at *
      obtain ⟨xn, xd, xs⟩ := x
      dsimp only at hr hx1 HTS HRS HFS
      subst hx1
      have HRW := Lib.hid hr
      obtain ⟨T1, hT1⟩ : ∃ T1, T1 = t.extract k t.size := ⟨_, rfl⟩
      have HT1 := Lib.hid hT1
      have hd1 : T1.data.toList = t.data.toList.drop k := by rw [hT1, extract_toS]
      have hs1 : T1.size ≤ 1000000 := by rw [hT1, ByteArray.size_extract]; omega
      have HSUM := Lib.hid (fun W => shaSum_any T1 W (by omega))
      rw [hd1] at HSUM
      rw [← hT1] at HTS
      have gk1 : ((k : Nat) : Int) ≤ (t.size : Int) := by omega
      have gk2 : (0 : Int) ≤ ((k : Nat) : Int) := by omega
      clear hT1 hd1 hok hgt hr
      obtain ⟨SM, hSM⟩ : ∃ SM, SM = shaSum (t.data.toList.drop k) := ⟨_, rfl⟩
      rw [← hSM] at HSUM HTS
      clear hSM
      have HBd : Hid (Below w.heap.size w w1.drew) := HB1.out.drew
      have hh1 := HT1.out
      go_wp2_with fail
      rw [← HT1.out]
      clear hh1 d3 d4 d5
      cases hdn : dn n with
      | true =>
        have hs : takeS l dn t = (l, dn) := by rw [HTS.out]; exact if_neg (fun hh => by rw [hdn] at hh; cases hh.2.1)
        have HF := Lib.hid (HSAME.out hs)
        clear hs
        refine wp_region_noPanic ?_
        refine wp_region_held_drew (S := fun w' => Below w1.drew.heap.size w1.drew w') (by kernel_rfl) (Below.refl _ _) (fun hHeld => ?_)
        generalize w1.drew = wd at *
        have B_wd : Hid (Below wd.heap.size wd wd) := Below.refl _ _
        have GC := Lib.hid (fun W (hW : Below wd.heap.size wd W) => (HCE.out W (HBd.out.trans (hW.mono HBd.out.size))).2.2)
        have GR := Lib.hid (fun W (hW : Below wd.heap.size wd W) => HRW.out W (HBd.out.trans (hW.mono HBd.out.size)))
        have GL : Hid (∀ W, Below wd.heap.size wd W → (Instr.lookup 48 (.map (some M)) (.int .i64 (n : Int)) false).run Tryz.prog W = .ok (.bool true) W) := fun W hW => by
          have h1 := (HM.out.same ((HBd.out.trans (hW.mono HBd.out.size)).block M HMLT.out)).look n (by omega)
          rwa [hdn] at h1
        refine wpAnyH_take (i := 0) (v := .pointer (some ⟨F, 0, none⟩)) rfl (by kernel_rfl) (by kernel_rfl) (by kernel_rfl) (fun _ _ _ h => h) (Or.inl ⟨by kernel_rfl, ?_⟩) (by assumption) ?_
        · intro wz hSw
          go_simp
        try simp only [Act.put, List.getElem_toArray, List.getElem_cons_succ, List.getElem_cons_zero, List.setIfInBounds_toArray, List.set_cons_zero, List.set_cons_succ]
        refine wpAnyH_take (i := 1) (v := .pointer (some ⟨F, 0, none⟩)) rfl (by kernel_rfl) (by kernel_rfl) (by kernel_rfl) (fun _ _ _ h => h) (Or.inl ⟨by kernel_rfl, ?_⟩) (by assumption) ?_
        · intro wz hSw
          go_simp
        try simp only [Act.put, List.getElem_toArray, List.getElem_cons_succ, List.getElem_cons_zero, List.setIfInBounds_toArray, List.set_cons_zero, List.set_cons_succ]
        refine wpAnyH_take (i := 2) (v := .pointer (some ⟨F, 5, none⟩)) rfl (by kernel_rfl) (by kernel_rfl) (by kernel_rfl) (fun _ _ _ h => h) (Or.inl ⟨by kernel_rfl, ?_⟩) (by assumption) ?_
        · intro wz hSw
          go_simp
        try simp only [Act.put, List.getElem_toArray, List.getElem_cons_succ, List.getElem_cons_zero, List.setIfInBounds_toArray, List.set_cons_zero, List.set_cons_succ]
        refine wpAnyH_take (i := 3) (v := .map (some M)) rfl (by kernel_rfl) (by kernel_rfl) (by kernel_rfl) (fun _ _ _ h => h) (Or.inl ⟨by kernel_rfl, ?_⟩) (by assumption) ?_
        · intro wz hSw
          have hh := GC.out wz hSw
          go_simp
        try simp only [Act.put, List.getElem_toArray, List.getElem_cons_succ, List.getElem_cons_zero, List.setIfInBounds_toArray, List.set_cons_zero, List.set_cons_succ]
        refine wpAnyH_take (i := 4) (v := .pointer (some ⟨g, n * 3, none⟩)) rfl (by kernel_rfl) (by kernel_rfl) (by kernel_rfl) (fun _ _ _ h => h) (Or.inl ⟨by kernel_rfl, ?_⟩) (by assumption) ?_
        · intro wz hSw
          go_simp
        try simp only [Act.put, List.getElem_toArray, List.getElem_cons_succ, List.getElem_cons_zero, List.setIfInBounds_toArray, List.set_cons_zero, List.set_cons_succ]
        refine wpAnyH_take (i := 5) (v := .pointer (some ⟨g, n * 3, none⟩)) rfl (by kernel_rfl) (by kernel_rfl) (by kernel_rfl) (fun _ _ _ h => h) (Or.inl ⟨by kernel_rfl, ?_⟩) (by assumption) ?_
        · intro wz hSw
          go_simp
        try simp only [Act.put, List.getElem_toArray, List.getElem_cons_succ, List.getElem_cons_zero, List.setIfInBounds_toArray, List.set_cons_zero, List.set_cons_succ]
        refine wpAnyH_take (i := 6) (v := .pointer (some ⟨g, n * 3, none⟩)) rfl (by kernel_rfl) (by kernel_rfl) (by kernel_rfl) (fun _ _ _ h => h) (Or.inl ⟨by kernel_rfl, ?_⟩) (by assumption) ?_
        · intro wz hSw
          go_simp
        try simp only [Act.put, List.getElem_toArray, List.getElem_cons_succ, List.getElem_cons_zero, List.setIfInBounds_toArray, List.set_cons_zero, List.set_cons_succ]
        refine wpAnyH_take (i := 7) (v := .int .i64 (n : Int)) rfl (by kernel_rfl) (by kernel_rfl) (by kernel_rfl) (fun _ _ _ h => h) (Or.inl ⟨by kernel_rfl, ?_⟩) (by assumption) ?_
        · intro wz hSw
          obtain ⟨h0, h1, h2⟩ := GR.out wz hSw
          go_simp
        try simp only [Act.put, List.getElem_toArray, List.getElem_cons_succ, List.getElem_cons_zero, List.setIfInBounds_toArray, List.set_cons_zero, List.set_cons_succ]
        refine wpAnyH_take (i := 8) (v := .bool true) rfl (by kernel_rfl) (by kernel_rfl) (by kernel_rfl) (fun _ _ _ h => h) (Or.inl ⟨by kernel_rfl, ?_⟩) (by assumption) ?_
        · intro wz hSw
          have hh := GL.out wz hSw
          go_simp
        try simp only [Act.put, List.getElem_toArray, List.getElem_cons_succ, List.getElem_cons_zero, List.setIfInBounds_toArray, List.set_cons_zero, List.set_cons_succ]
        refine wpAnyH_take (i := 9) (v := .bool false) rfl (by kernel_rfl) (by kernel_rfl) (by kernel_rfl) (fun _ _ _ h => h) (Or.inl ⟨by kernel_rfl, ?_⟩) (by assumption) ?_
        · intro wz hSw
          go_simp
        try simp only [Act.put, List.getElem_toArray, List.getElem_cons_succ, List.getElem_cons_zero, List.setIfInBounds_toArray, List.set_cons_zero, List.set_cons_succ]
        refine wpAnyH_take (i := 10) (v := .bool false) rfl (by kernel_rfl) (by kernel_rfl) (by kernel_rfl) (fun _ _ _ h => h) (Or.inl ⟨by kernel_rfl, ?_⟩) (by assumption) ?_
        · intro wz hSw
          go_simp
        try simp only [Act.put, List.getElem_toArray, List.getElem_cons_succ, List.getElem_cons_zero, List.setIfInBounds_toArray, List.set_cons_zero, List.set_cons_succ]
        refine wpAnyH_take (i := 11) (v := undef) rfl (by kernel_rfl) (by kernel_rfl) (by kernel_rfl) (fun _ _ _ h => h) (Or.inr ⟨by kernel_rfl, rfl⟩) (by assumption) ?_
        try simp only [Act.put, List.getElem_toArray, List.getElem_cons_succ, List.getElem_cons_zero, List.setIfInBounds_toArray, List.set_cons_zero, List.set_cons_succ]
        refine wpAnyH_take (i := 12) (v := undef) rfl (by kernel_rfl) (by kernel_rfl) (by kernel_rfl) (fun _ _ _ h => h) (Or.inr ⟨by kernel_rfl, rfl⟩) (by assumption) ?_
        try simp only [Act.put, List.getElem_toArray, List.getElem_cons_succ, List.getElem_cons_zero, List.setIfInBounds_toArray, List.set_cons_zero, List.set_cons_succ]
        refine wpAnyH_take (i := 13) (v := undef) rfl (by kernel_rfl) (by kernel_rfl) (by kernel_rfl) (fun _ _ _ h => h) (Or.inr ⟨by kernel_rfl, rfl⟩) (by assumption) ?_
        try simp only [Act.put, List.getElem_toArray, List.getElem_cons_succ, List.getElem_cons_zero, List.setIfInBounds_toArray, List.set_cons_zero, List.set_cons_succ]
        refine wpAnyH_take (i := 14) (v := undef) rfl (by kernel_rfl) (by kernel_rfl) (by kernel_rfl) (fun _ _ _ h => h) (Or.inr ⟨by kernel_rfl, rfl⟩) (by assumption) ?_
        try simp only [Act.put, List.getElem_toArray, List.getElem_cons_succ, List.getElem_cons_zero, List.setIfInBounds_toArray, List.set_cons_zero, List.set_cons_succ]
        refine wpAnyH_take (i := 15) (v := undef) rfl (by kernel_rfl) (by kernel_rfl) (by kernel_rfl) (fun _ _ _ h => h) (Or.inr ⟨by kernel_rfl, rfl⟩) (by assumption) ?_
        try simp only [Act.put, List.getElem_toArray, List.getElem_cons_succ, List.getElem_cons_zero, List.setIfInBounds_toArray, List.set_cons_zero, List.set_cons_succ]
        refine wpAnyH_take (i := 16) (v := undef) rfl (by kernel_rfl) (by kernel_rfl) (by kernel_rfl) (fun _ _ _ h => h) (Or.inr ⟨by kernel_rfl, rfl⟩) (by assumption) ?_
        try simp only [Act.put, List.getElem_toArray, List.getElem_cons_succ, List.getElem_cons_zero, List.setIfInBounds_toArray, List.set_cons_zero, List.set_cons_succ]
        refine wpAnyH_take (i := 17) (v := undef) rfl (by kernel_rfl) (by kernel_rfl) (by kernel_rfl) (fun _ _ _ h => h) (Or.inr ⟨by kernel_rfl, rfl⟩) (by assumption) ?_
        try simp only [Act.put, List.getElem_toArray, List.getElem_cons_succ, List.getElem_cons_zero, List.setIfInBounds_toArray, List.set_cons_zero, List.set_cons_succ]
        refine wpAnyH_take (i := 18) (v := .bool false) rfl (by kernel_rfl) (by kernel_rfl) (by kernel_rfl) (fun _ _ _ h => h) (Or.inl ⟨by kernel_rfl, ?_⟩) (by assumption) ?_
        · intro wz hSw
          go_simp
        refine wpAnyH_done (by kernel_rfl) ?_ _
        refine NoPanic.normal ?_
        go_wp2_with fail
        go_end0
        exact ⟨⟨_, rfl⟩, HF.out _ HBd.out⟩
      | false =>
        by_cases hsum : SM = xs
        · have hs : takeS l dn t = (l.set n ((n : Int), T1, xs), fun j => decide (j = n) || dn j) := by rw [HTS.out]; exact if_pos ⟨trivial, hdn, hsum⟩
          have HS := Lib.hid hs
          have hse := str_eqS hsum
          clear hs
          refine wp_region_noPanic ?_
          refine wp_region_held_drew (S := fun w' => Below w1.drew.heap.size w1.drew w') (by kernel_rfl) (Below.refl _ _) (fun hHeld => ?_)
          generalize w1.drew = wd at *
          have B_wd : Hid (Below wd.heap.size wd wd) := Below.refl _ _
          have GC := Lib.hid (fun W (hW : Below wd.heap.size wd W) => (HCE.out W (HBd.out.trans (hW.mono HBd.out.size))).2.2)
          have GR := Lib.hid (fun W (hW : Below wd.heap.size wd W) => HRW.out W (HBd.out.trans (hW.mono HBd.out.size)))
          have GL : Hid (∀ W, Below wd.heap.size wd W → (Instr.lookup 48 (.map (some M)) (.int .i64 (n : Int)) false).run Tryz.prog W = .ok (.bool false) W) := fun W hW => by
            have h1 := (HM.out.same ((HBd.out.trans (hW.mono HBd.out.size)).block M HMLT.out)).look n (by omega)
            rwa [hdn] at h1
          refine wpAnyH_take (i := 0) (v := .pointer (some ⟨F, 0, none⟩)) rfl (by kernel_rfl) (by kernel_rfl) (by kernel_rfl) (fun _ _ _ h => h) (Or.inl ⟨by kernel_rfl, ?_⟩) (by assumption) ?_
          · intro wz hSw
            go_simp
          try simp only [Act.put, List.getElem_toArray, List.getElem_cons_succ, List.getElem_cons_zero, List.setIfInBounds_toArray, List.set_cons_zero, List.set_cons_succ]
          refine wpAnyH_take (i := 1) (v := .pointer (some ⟨F, 0, none⟩)) rfl (by kernel_rfl) (by kernel_rfl) (by kernel_rfl) (fun _ _ _ h => h) (Or.inl ⟨by kernel_rfl, ?_⟩) (by assumption) ?_
          · intro wz hSw
            go_simp
          try simp only [Act.put, List.getElem_toArray, List.getElem_cons_succ, List.getElem_cons_zero, List.setIfInBounds_toArray, List.set_cons_zero, List.set_cons_succ]
          refine wpAnyH_take (i := 2) (v := .pointer (some ⟨F, 5, none⟩)) rfl (by kernel_rfl) (by kernel_rfl) (by kernel_rfl) (fun _ _ _ h => h) (Or.inl ⟨by kernel_rfl, ?_⟩) (by assumption) ?_
          · intro wz hSw
            go_simp
          try simp only [Act.put, List.getElem_toArray, List.getElem_cons_succ, List.getElem_cons_zero, List.setIfInBounds_toArray, List.set_cons_zero, List.set_cons_succ]
          refine wpAnyH_take (i := 3) (v := .map (some M)) rfl (by kernel_rfl) (by kernel_rfl) (by kernel_rfl) (fun _ _ _ h => h) (Or.inl ⟨by kernel_rfl, ?_⟩) (by assumption) ?_
          · intro wz hSw
            have hh := GC.out wz hSw
            go_simp
          try simp only [Act.put, List.getElem_toArray, List.getElem_cons_succ, List.getElem_cons_zero, List.setIfInBounds_toArray, List.set_cons_zero, List.set_cons_succ]
          refine wpAnyH_take (i := 4) (v := .pointer (some ⟨g, n * 3, none⟩)) rfl (by kernel_rfl) (by kernel_rfl) (by kernel_rfl) (fun _ _ _ h => h) (Or.inl ⟨by kernel_rfl, ?_⟩) (by assumption) ?_
          · intro wz hSw
            go_simp
          try simp only [Act.put, List.getElem_toArray, List.getElem_cons_succ, List.getElem_cons_zero, List.setIfInBounds_toArray, List.set_cons_zero, List.set_cons_succ]
          refine wpAnyH_take (i := 5) (v := .pointer (some ⟨g, n * 3, none⟩)) rfl (by kernel_rfl) (by kernel_rfl) (by kernel_rfl) (fun _ _ _ h => h) (Or.inl ⟨by kernel_rfl, ?_⟩) (by assumption) ?_
          · intro wz hSw
            go_simp
          try simp only [Act.put, List.getElem_toArray, List.getElem_cons_succ, List.getElem_cons_zero, List.setIfInBounds_toArray, List.set_cons_zero, List.set_cons_succ]
          refine wpAnyH_take (i := 6) (v := .pointer (some ⟨g, n * 3, none⟩)) rfl (by kernel_rfl) (by kernel_rfl) (by kernel_rfl) (fun _ _ _ h => h) (Or.inl ⟨by kernel_rfl, ?_⟩) (by assumption) ?_
          · intro wz hSw
            go_simp
          try simp only [Act.put, List.getElem_toArray, List.getElem_cons_succ, List.getElem_cons_zero, List.setIfInBounds_toArray, List.set_cons_zero, List.set_cons_succ]
          refine wpAnyH_take (i := 7) (v := .int .i64 (n : Int)) rfl (by kernel_rfl) (by kernel_rfl) (by kernel_rfl) (fun _ _ _ h => h) (Or.inl ⟨by kernel_rfl, ?_⟩) (by assumption) ?_
          · intro wz hSw
            obtain ⟨h0, h1, h2⟩ := GR.out wz hSw
            go_simp
          try simp only [Act.put, List.getElem_toArray, List.getElem_cons_succ, List.getElem_cons_zero, List.setIfInBounds_toArray, List.set_cons_zero, List.set_cons_succ]
          refine wpAnyH_take (i := 8) (v := .bool false) rfl (by kernel_rfl) (by kernel_rfl) (by kernel_rfl) (fun _ _ _ h => h) (Or.inl ⟨by kernel_rfl, ?_⟩) (by assumption) ?_
          · intro wz hSw
            have hh := GL.out wz hSw
            go_simp
          try simp only [Act.put, List.getElem_toArray, List.getElem_cons_succ, List.getElem_cons_zero, List.setIfInBounds_toArray, List.set_cons_zero, List.set_cons_succ]
          refine wpAnyH_take (i := 9) (v := .bool true) rfl (by kernel_rfl) (by kernel_rfl) (by kernel_rfl) (fun _ _ _ h => h) (Or.inl ⟨by kernel_rfl, ?_⟩) (by assumption) ?_
          · intro wz hSw
            go_simp
          try simp only [Act.put, List.getElem_toArray, List.getElem_cons_succ, List.getElem_cons_zero, List.setIfInBounds_toArray, List.set_cons_zero, List.set_cons_succ]
          refine wpAnyH_take (i := 10) (v := .bool true) rfl (by kernel_rfl) (by kernel_rfl) (by kernel_rfl) (fun _ _ _ h => h) (Or.inl ⟨by kernel_rfl, ?_⟩) (by assumption) ?_
          · intro wz hSw
            go_simp
          try simp only [Act.put, List.getElem_toArray, List.getElem_cons_succ, List.getElem_cons_zero, List.setIfInBounds_toArray, List.set_cons_zero, List.set_cons_succ]
          refine wpAnyH_take (i := 11) (v := .string T1) rfl (by kernel_rfl) (by kernel_rfl) (by kernel_rfl) (fun _ _ _ h => h) (Or.inl ⟨by kernel_rfl, ?_⟩) (by assumption) ?_
          · intro wz hSw
            go_simp
          try simp only [Act.put, List.getElem_toArray, List.getElem_cons_succ, List.getElem_cons_zero, List.setIfInBounds_toArray, List.set_cons_zero, List.set_cons_succ]
          refine wpAnyH_take (i := 13) (v := .pointer (some ⟨g, n * 3, none⟩)) rfl (by kernel_rfl) (by kernel_rfl) (by kernel_rfl) (fun _ _ _ h => h) (Or.inl ⟨by kernel_rfl, ?_⟩) (by assumption) ?_
          · intro wz hSw
            go_simp
          try simp only [Act.put, List.getElem_toArray, List.getElem_cons_succ, List.getElem_cons_zero, List.setIfInBounds_toArray, List.set_cons_zero, List.set_cons_succ]
          refine wpAnyH_take (i := 14) (v := .pointer (some ⟨g, n * 3, none⟩)) rfl (by kernel_rfl) (by kernel_rfl) (by kernel_rfl) (fun _ _ _ h => h) (Or.inl ⟨by kernel_rfl, ?_⟩) (by assumption) ?_
          · intro wz hSw
            go_simp
          try simp only [Act.put, List.getElem_toArray, List.getElem_cons_succ, List.getElem_cons_zero, List.setIfInBounds_toArray, List.set_cons_zero, List.set_cons_succ]
          refine wpAnyH_take (i := 15) (v := .pointer (some ⟨g, n * 3 + 2, none⟩)) rfl (by kernel_rfl) (by kernel_rfl) (by kernel_rfl) (fun _ _ _ h => h) (Or.inl ⟨by kernel_rfl, ?_⟩) (by assumption) ?_
          · intro wz hSw
            go_simp
          try simp only [Act.put, List.getElem_toArray, List.getElem_cons_succ, List.getElem_cons_zero, List.setIfInBounds_toArray, List.set_cons_zero, List.set_cons_succ]
          refine wpAnyH_take (i := 16) (v := .string xs) rfl (by kernel_rfl) (by kernel_rfl) (by kernel_rfl) (fun _ _ _ h => h) (Or.inl ⟨by kernel_rfl, ?_⟩) (by assumption) ?_
          · intro wz hSw
            obtain ⟨h0, h1, h2⟩ := GR.out wz hSw
            go_simp
          try simp only [Act.put, List.getElem_toArray, List.getElem_cons_succ, List.getElem_cons_zero, List.setIfInBounds_toArray, List.set_cons_zero, List.set_cons_succ]
          refine wpAnyH_ready (rs := [12]) (by kernel_rfl) (by simp) ?_
          refine AllReadyH.cons rfl (fun K hK => ?_) AllReadyH.nil
          go_simp
          go_at_call 44
          refine (HSUM.out wd).mono ?_
          rintro er x2 ⟨rfl, b1⟩
          have B_x2 : Hid (Below wd.heap.size wd x2) := Lib.hid (B_wd.out.trans (b1.mono B_wd.out.size))
          clear b1
          go_wp2_with fail
          refine hK.out _ _ B_x2.out (fun hHeld => ?_)
          clear hK K
          try simp only [Act.put, List.getElem_toArray, List.getElem_cons_succ, List.getElem_cons_zero, List.setIfInBounds_toArray, List.set_cons_zero, List.set_cons_succ]
          refine wpAnyH_take (i := 17) (v := .bool true) rfl (by kernel_rfl) (by kernel_rfl) (by kernel_rfl) (fun _ _ _ h => h) (Or.inl ⟨by kernel_rfl, ?_⟩) (by assumption) ?_
          · intro wz hSw
            go_simp
          try simp only [Act.put, List.getElem_toArray, List.getElem_cons_succ, List.getElem_cons_zero, List.setIfInBounds_toArray, List.set_cons_zero, List.set_cons_succ]
          refine wpAnyH_take (i := 18) (v := .bool true) rfl (by kernel_rfl) (by kernel_rfl) (by kernel_rfl) (fun _ _ _ h => h) (Or.inl ⟨by kernel_rfl, ?_⟩) (by assumption) ?_
          · intro wz hSw
            go_simp
          refine wpAnyH_done (by kernel_rfl) ?_ _
          refine NoPanic.normal ?_
          have HBx : Hid (Below w.heap.size w x2) := HBd.out.trans (B_x2.out.mono HBd.out.size)
          have HRx := Lib.hid (HR.out.same (HBx.out.block g HGLT.out))
          have HMx := Lib.hid (HM.out.same (HBx.out.block M HMLT.out))
          have HFx := Lib.hid ((HBx.out.block F hFl).trans HB.out)
          have HRn := Lib.hid (HRS.out x2 HRx.out T1)
          have HFn : Hid ((x2.setCell ⟨g, n * 3 + 1, none⟩ (.string T1)).heap[F]? = some (.cells #[.int .i64 (a : Nat), .int .i64 (b : Nat), .int .i64 (c : Nat), .slice (some ⟨g, 0, none⟩) q cap, .bool true, .map (some M)] 50 (0, 0))) := (Below.heap_setCell _ _ _ _ (by dsimp only; exact fun e => hgF e.symm)).trans HFx.out
          have HMn := Lib.hid (HMx.out.same (w' := x2.setCell ⟨g, n * 3 + 1, none⟩ (.string T1)) (Below.heap_setCell _ _ _ _ (fun e => hgM e.symm)))
          have HCn : Hid (ChgF B0 F M w (x2.setCell ⟨g, n * 3 + 1, none⟩ (.string T1))) := (ChgF.of_below HBx.out).setRow hg0 HR.out.blk _ _
          have r1 := (HRx.out.cells n hnl').2.1
          have rf := HRx.out.frozen (n * 3 + 1)
          go_wp2_with fail
          obtain ⟨x3, hx3⟩ : ∃ x3, x3 = x2.setCell ⟨g, n * 3 + 1, none⟩ (.string T1) := ⟨_, rfl⟩
          rw [← hx3] at HRn HFn HMn HCn ⊢
          clear hx3 r1 rf HRx HMx HFx HBx
          have HRd : Hid (RowW x3.drew g (l.set n ((n : Int), T1, xs))) := HRn.out.same rfl
          have HFd : Hid (x3.drew.heap[F]? = some (.cells #[.int .i64 (a : Nat), .int .i64 (b : Nat), .int .i64 (c : Nat), .slice (some ⟨g, 0, none⟩) q cap, .bool true, .map (some M)] 50 (0, 0))) := HFn.out
          have HMd : Hid (SetI x3.drew M (cntD dn l.length) dn) := HMn.out.same rfl
          have HCd : Hid (ChgF B0 F M w x3.drew) := HCn.out.trans (ChgF.of_below (Below.refl _ x3).drew)
          have hcel : x3.drew.cell? ⟨F, 5, none⟩ = some (.map (some M)) ∧ x3.drew.cell? ⟨g, n * 3, none⟩ = some (.int .i64 (n : Int)) := by
            obtain ⟨_, _, _, _, _, c5, _⟩ := cells6 HFd.out
            refine ⟨c5, ?_⟩
            have h1 := (HRd.out.cells n (by rw [List.length_set]; exact hnl')).1
            rwa [List.getElem_set_self] at h1
          clear HRn HFn HMn HCn
          refine wp_region_noPanic ?_
          refine wp_region_held_drew (S := fun w' => w'.cell? ⟨F, 5, none⟩ = some (.map (some M)) ∧ w'.cell? ⟨g, n * 3, none⟩ = some (.int .i64 (n : Int))) (by kernel_rfl) hcel (fun hHeld => ?_)
          generalize x3.drew = wf at *
          refine wpAnyH_take (i := 0) (v := .pointer (some ⟨F, 0, none⟩)) rfl (by kernel_rfl) (by kernel_rfl) (by kernel_rfl) (fun _ _ _ h => h) (Or.inl ⟨by kernel_rfl, ?_⟩) (by assumption) ?_
          · intro wz hSw
            go_simp
          try simp only [Act.put, List.getElem_toArray, List.getElem_cons_succ, List.getElem_cons_zero, List.setIfInBounds_toArray, List.set_cons_zero, List.set_cons_succ]
          refine wpAnyH_take (i := 1) (v := .pointer (some ⟨F, 0, none⟩)) rfl (by kernel_rfl) (by kernel_rfl) (by kernel_rfl) (fun _ _ _ h => h) (Or.inl ⟨by kernel_rfl, ?_⟩) (by assumption) ?_
          · intro wz hSw
            go_simp
          try simp only [Act.put, List.getElem_toArray, List.getElem_cons_succ, List.getElem_cons_zero, List.setIfInBounds_toArray, List.set_cons_zero, List.set_cons_succ]
          refine wpAnyH_take (i := 2) (v := .pointer (some ⟨F, 5, none⟩)) rfl (by kernel_rfl) (by kernel_rfl) (by kernel_rfl) (fun _ _ _ h => h) (Or.inl ⟨by kernel_rfl, ?_⟩) (by assumption) ?_
          · intro wz hSw
            go_simp
          try simp only [Act.put, List.getElem_toArray, List.getElem_cons_succ, List.getElem_cons_zero, List.setIfInBounds_toArray, List.set_cons_zero, List.set_cons_succ]
          refine wpAnyH_take (i := 3) (v := .map (some M)) rfl (by kernel_rfl) (by kernel_rfl) (by kernel_rfl) (fun _ _ _ h => h) (Or.inl ⟨by kernel_rfl, ?_⟩) (by assumption) ?_
          · intro wz hSw
            obtain ⟨h5, h6⟩ := hSw
            go_simp
          try simp only [Act.put, List.getElem_toArray, List.getElem_cons_succ, List.getElem_cons_zero, List.setIfInBounds_toArray, List.set_cons_zero, List.set_cons_succ]
          refine wpAnyH_take (i := 4) (v := .pointer (some ⟨g, n * 3, none⟩)) rfl (by kernel_rfl) (by kernel_rfl) (by kernel_rfl) (fun _ _ _ h => h) (Or.inl ⟨by kernel_rfl, ?_⟩) (by assumption) ?_
          · intro wz hSw
            go_simp
          try simp only [Act.put, List.getElem_toArray, List.getElem_cons_succ, List.getElem_cons_zero, List.setIfInBounds_toArray, List.set_cons_zero, List.set_cons_succ]
          refine wpAnyH_take (i := 5) (v := .pointer (some ⟨g, n * 3, none⟩)) rfl (by kernel_rfl) (by kernel_rfl) (by kernel_rfl) (fun _ _ _ h => h) (Or.inl ⟨by kernel_rfl, ?_⟩) (by assumption) ?_
          · intro wz hSw
            go_simp
          try simp only [Act.put, List.getElem_toArray, List.getElem_cons_succ, List.getElem_cons_zero, List.setIfInBounds_toArray, List.set_cons_zero, List.set_cons_succ]
          refine wpAnyH_take (i := 6) (v := .pointer (some ⟨g, n * 3, none⟩)) rfl (by kernel_rfl) (by kernel_rfl) (by kernel_rfl) (fun _ _ _ h => h) (Or.inl ⟨by kernel_rfl, ?_⟩) (by assumption) ?_
          · intro wz hSw
            go_simp
          try simp only [Act.put, List.getElem_toArray, List.getElem_cons_succ, List.getElem_cons_zero, List.setIfInBounds_toArray, List.set_cons_zero, List.set_cons_succ]
          refine wpAnyH_take (i := 7) (v := .int .i64 (n : Int)) rfl (by kernel_rfl) (by kernel_rfl) (by kernel_rfl) (fun _ _ _ h => h) (Or.inl ⟨by kernel_rfl, ?_⟩) (by assumption) ?_
          · intro wz hSw
            obtain ⟨h5, h6⟩ := hSw
            go_simp
          try simp only [Act.put, List.getElem_toArray, List.getElem_cons_succ, List.getElem_cons_zero, List.setIfInBounds_toArray, List.set_cons_zero, List.set_cons_succ]
          obtain ⟨wm, hrun, hset, hgr⟩ := HMd.out.put n (by omega) (by have := cntD_le dn l.length; have := HQ.out; unfold maxLen; omega) hdn
          have hcm5 : wm.cell? ⟨F, 5, none⟩ = some (.map (some M)) ∧ wm.cell? ⟨g, n * 3, none⟩ = some (.int .i64 (n : Int)) :=
            ⟨(World.cell?_of_block (hgr.block F (Array.getElem?_eq_some_iff.1 HFd.out).1 (fun e => hFM (by injection e)))).trans hcel.1, (World.cell?_of_block (hgr.block g HRd.out.lt (fun e => hgM (by injection e)))).trans hcel.2⟩
          have HFm := Lib.hid ((hgr.block F (Array.getElem?_eq_some_iff.1 HFd.out).1 (fun e => hFM (by injection e))).trans HFd.out)
          have HRm := Lib.hid (HRd.out.same (hgr.block g HRd.out.lt (fun e => hgM (by injection e))))
          have HMm := Lib.hid hset
          have HCm := Lib.hid (HCd.out.map hgr)
          clear hset hgr hcel
          refine wpAnyH_ready (rs := [8]) (by kernel_rfl) (by simp) ?_
          refine AllReadyH.cons rfl (fun K hK => ?_) AllReadyH.nil
          go_simp
          refine hK.out _ _ hcm5 (fun hHeld => ?_)
          clear hK K
          refine wpAnyH_done (by kernel_rfl) ?_ _
          refine NoPanic.normal ?_
          go_wp2_with fail
          go_end0
          refine ⟨⟨_, rfl⟩, ?_, HCm.out⟩
          show FinM B0 F M (some (a, b, c, (takeS l dn t).1, (takeS l dn t).2)) wm
          rw [HS.out]
          have hq2 : (l.set n ((n : Int), T1, xs)).length = q := by rw [List.length_set, HQ.out]
          refine ⟨g, cap, hg0, ?_, HRm.out, ?_, HCM.out, hgF, hgM, ?_, HFS.out T1, ?_, ?_⟩
          · have := HFm.out
            dsimp only
            rw [hq2]
            exact this
          · dsimp only; rw [hq2]; exact hcl
          · have := HMm.out
            dsimp only
            rw [List.length_set, cntD_put dn n hdn _ hnl']
            exact this
          · dsimp only; rw [hq2]; exact hl0
          · dsimp only; rw [hq2]; exact hl32
        · have hs : takeS l dn t = (l, dn) := by rw [HTS.out]; exact if_neg (fun hh => hsum hh.2.2)
          have HF := Lib.hid (HSAME.out hs)
          have hse : (SM.toList == xs.toList) = false := str_ne_b hsum
          clear hs
          refine wp_region_noPanic ?_
          refine wp_region_held_drew (S := fun w' => Below w1.drew.heap.size w1.drew w') (by kernel_rfl) (Below.refl _ _) (fun hHeld => ?_)
          generalize w1.drew = wd at *
          have B_wd : Hid (Below wd.heap.size wd wd) := Below.refl _ _
          have GC := Lib.hid (fun W (hW : Below wd.heap.size wd W) => (HCE.out W (HBd.out.trans (hW.mono HBd.out.size))).2.2)
          have GR := Lib.hid (fun W (hW : Below wd.heap.size wd W) => HRW.out W (HBd.out.trans (hW.mono HBd.out.size)))
          have GL : Hid (∀ W, Below wd.heap.size wd W → (Instr.lookup 48 (.map (some M)) (.int .i64 (n : Int)) false).run Tryz.prog W = .ok (.bool false) W) := fun W hW => by
            have h1 := (HM.out.same ((HBd.out.trans (hW.mono HBd.out.size)).block M HMLT.out)).look n (by omega)
            rwa [hdn] at h1
          refine wpAnyH_take (i := 0) (v := .pointer (some ⟨F, 0, none⟩)) rfl (by kernel_rfl) (by kernel_rfl) (by kernel_rfl) (fun _ _ _ h => h) (Or.inl ⟨by kernel_rfl, ?_⟩) (by assumption) ?_
          · intro wz hSw
            go_simp
          try simp only [Act.put, List.getElem_toArray, List.getElem_cons_succ, List.getElem_cons_zero, List.setIfInBounds_toArray, List.set_cons_zero, List.set_cons_succ]
          refine wpAnyH_take (i := 1) (v := .pointer (some ⟨F, 0, none⟩)) rfl (by kernel_rfl) (by kernel_rfl) (by kernel_rfl) (fun _ _ _ h => h) (Or.inl ⟨by kernel_rfl, ?_⟩) (by assumption) ?_
          · intro wz hSw
            go_simp
          try simp only [Act.put, List.getElem_toArray, List.getElem_cons_succ, List.getElem_cons_zero, List.setIfInBounds_toArray, List.set_cons_zero, List.set_cons_succ]
          refine wpAnyH_take (i := 2) (v := .pointer (some ⟨F, 5, none⟩)) rfl (by kernel_rfl) (by kernel_rfl) (by kernel_rfl) (fun _ _ _ h => h) (Or.inl ⟨by kernel_rfl, ?_⟩) (by assumption) ?_
          · intro wz hSw
            go_simp
          try simp only [Act.put, List.getElem_toArray, List.getElem_cons_succ, List.getElem_cons_zero, List.setIfInBounds_toArray, List.set_cons_zero, List.set_cons_succ]
          refine wpAnyH_take (i := 3) (v := .map (some M)) rfl (by kernel_rfl) (by kernel_rfl) (by kernel_rfl) (fun _ _ _ h => h) (Or.inl ⟨by kernel_rfl, ?_⟩) (by assumption) ?_
          · intro wz hSw
            have hh := GC.out wz hSw
            go_simp
          try simp only [Act.put, List.getElem_toArray, List.getElem_cons_succ, List.getElem_cons_zero, List.setIfInBounds_toArray, List.set_cons_zero, List.set_cons_succ]
          refine wpAnyH_take (i := 4) (v := .pointer (some ⟨g, n * 3, none⟩)) rfl (by kernel_rfl) (by kernel_rfl) (by kernel_rfl) (fun _ _ _ h => h) (Or.inl ⟨by kernel_rfl, ?_⟩) (by assumption) ?_
          · intro wz hSw
            go_simp
          try simp only [Act.put, List.getElem_toArray, List.getElem_cons_succ, List.getElem_cons_zero, List.setIfInBounds_toArray, List.set_cons_zero, List.set_cons_succ]
          refine wpAnyH_take (i := 5) (v := .pointer (some ⟨g, n * 3, none⟩)) rfl (by kernel_rfl) (by kernel_rfl) (by kernel_rfl) (fun _ _ _ h => h) (Or.inl ⟨by kernel_rfl, ?_⟩) (by assumption) ?_
          · intro wz hSw
            go_simp
          try simp only [Act.put, List.getElem_toArray, List.getElem_cons_succ, List.getElem_cons_zero, List.setIfInBounds_toArray, List.set_cons_zero, List.set_cons_succ]
          refine wpAnyH_take (i := 6) (v := .pointer (some ⟨g, n * 3, none⟩)) rfl (by kernel_rfl) (by kernel_rfl) (by kernel_rfl) (fun _ _ _ h => h) (Or.inl ⟨by kernel_rfl, ?_⟩) (by assumption) ?_
          · intro wz hSw
            go_simp
          try simp only [Act.put, List.getElem_toArray, List.getElem_cons_succ, List.getElem_cons_zero, List.setIfInBounds_toArray, List.set_cons_zero, List.set_cons_succ]
          refine wpAnyH_take (i := 7) (v := .int .i64 (n : Int)) rfl (by kernel_rfl) (by kernel_rfl) (by kernel_rfl) (fun _ _ _ h => h) (Or.inl ⟨by kernel_rfl, ?_⟩) (by assumption) ?_
          · intro wz hSw
            obtain ⟨h0, h1, h2⟩ := GR.out wz hSw
            go_simp
          try simp only [Act.put, List.getElem_toArray, List.getElem_cons_succ, List.getElem_cons_zero, List.setIfInBounds_toArray, List.set_cons_zero, List.set_cons_succ]
          refine wpAnyH_take (i := 8) (v := .bool false) rfl (by kernel_rfl) (by kernel_rfl) (by kernel_rfl) (fun _ _ _ h => h) (Or.inl ⟨by kernel_rfl, ?_⟩) (by assumption) ?_
          · intro wz hSw
            have hh := GL.out wz hSw
            go_simp
          try simp only [Act.put, List.getElem_toArray, List.getElem_cons_succ, List.getElem_cons_zero, List.setIfInBounds_toArray, List.set_cons_zero, List.set_cons_succ]
          refine wpAnyH_take (i := 9) (v := .bool true) rfl (by kernel_rfl) (by kernel_rfl) (by kernel_rfl) (fun _ _ _ h => h) (Or.inl ⟨by kernel_rfl, ?_⟩) (by assumption) ?_
          · intro wz hSw
            go_simp
          try simp only [Act.put, List.getElem_toArray, List.getElem_cons_succ, List.getElem_cons_zero, List.setIfInBounds_toArray, List.set_cons_zero, List.set_cons_succ]
          refine wpAnyH_take (i := 10) (v := .bool true) rfl (by kernel_rfl) (by kernel_rfl) (by kernel_rfl) (fun _ _ _ h => h) (Or.inl ⟨by kernel_rfl, ?_⟩) (by assumption) ?_
          · intro wz hSw
            go_simp
          try simp only [Act.put, List.getElem_toArray, List.getElem_cons_succ, List.getElem_cons_zero, List.setIfInBounds_toArray, List.set_cons_zero, List.set_cons_succ]
          refine wpAnyH_take (i := 11) (v := .string T1) rfl (by kernel_rfl) (by kernel_rfl) (by kernel_rfl) (fun _ _ _ h => h) (Or.inl ⟨by kernel_rfl, ?_⟩) (by assumption) ?_
          · intro wz hSw
            go_simp
          try simp only [Act.put, List.getElem_toArray, List.getElem_cons_succ, List.getElem_cons_zero, List.setIfInBounds_toArray, List.set_cons_zero, List.set_cons_succ]
          refine wpAnyH_take (i := 13) (v := .pointer (some ⟨g, n * 3, none⟩)) rfl (by kernel_rfl) (by kernel_rfl) (by kernel_rfl) (fun _ _ _ h => h) (Or.inl ⟨by kernel_rfl, ?_⟩) (by assumption) ?_
          · intro wz hSw
            go_simp
          try simp only [Act.put, List.getElem_toArray, List.getElem_cons_succ, List.getElem_cons_zero, List.setIfInBounds_toArray, List.set_cons_zero, List.set_cons_succ]
          refine wpAnyH_take (i := 14) (v := .pointer (some ⟨g, n * 3, none⟩)) rfl (by kernel_rfl) (by kernel_rfl) (by kernel_rfl) (fun _ _ _ h => h) (Or.inl ⟨by kernel_rfl, ?_⟩) (by assumption) ?_
          · intro wz hSw
            go_simp
          try simp only [Act.put, List.getElem_toArray, List.getElem_cons_succ, List.getElem_cons_zero, List.setIfInBounds_toArray, List.set_cons_zero, List.set_cons_succ]
          refine wpAnyH_take (i := 15) (v := .pointer (some ⟨g, n * 3 + 2, none⟩)) rfl (by kernel_rfl) (by kernel_rfl) (by kernel_rfl) (fun _ _ _ h => h) (Or.inl ⟨by kernel_rfl, ?_⟩) (by assumption) ?_
          · intro wz hSw
            go_simp
          try simp only [Act.put, List.getElem_toArray, List.getElem_cons_succ, List.getElem_cons_zero, List.setIfInBounds_toArray, List.set_cons_zero, List.set_cons_succ]
          refine wpAnyH_take (i := 16) (v := .string xs) rfl (by kernel_rfl) (by kernel_rfl) (by kernel_rfl) (fun _ _ _ h => h) (Or.inl ⟨by kernel_rfl, ?_⟩) (by assumption) ?_
          · intro wz hSw
            obtain ⟨h0, h1, h2⟩ := GR.out wz hSw
            go_simp
          try simp only [Act.put, List.getElem_toArray, List.getElem_cons_succ, List.getElem_cons_zero, List.setIfInBounds_toArray, List.set_cons_zero, List.set_cons_succ]
          refine wpAnyH_ready (rs := [12]) (by kernel_rfl) (by simp) ?_
          refine AllReadyH.cons rfl (fun K hK => ?_) AllReadyH.nil
          go_simp
          go_at_call 44
          refine (HSUM.out wd).mono ?_
          rintro er x2 ⟨rfl, b1⟩
          have B_x2 : Hid (Below wd.heap.size wd x2) := Lib.hid (B_wd.out.trans (b1.mono B_wd.out.size))
          clear b1
          go_wp2_with fail
          refine hK.out _ _ B_x2.out (fun hHeld => ?_)
          clear hK K
          try simp only [Act.put, List.getElem_toArray, List.getElem_cons_succ, List.getElem_cons_zero, List.setIfInBounds_toArray, List.set_cons_zero, List.set_cons_succ]
          refine wpAnyH_take (i := 17) (v := .bool false) rfl (by kernel_rfl) (by kernel_rfl) (by kernel_rfl) (fun _ _ _ h => h) (Or.inl ⟨by kernel_rfl, ?_⟩) (by assumption) ?_
          · intro wz hSw
            go_simp
          try simp only [Act.put, List.getElem_toArray, List.getElem_cons_succ, List.getElem_cons_zero, List.setIfInBounds_toArray, List.set_cons_zero, List.set_cons_succ]
          refine wpAnyH_take (i := 18) (v := .bool false) rfl (by kernel_rfl) (by kernel_rfl) (by kernel_rfl) (fun _ _ _ h => h) (Or.inl ⟨by kernel_rfl, ?_⟩) (by assumption) ?_
          · intro wz hSw
            go_simp
          refine wpAnyH_done (by kernel_rfl) ?_ _
          refine NoPanic.normal ?_
          go_wp2_with fail
          go_end0
          exact ⟨⟨_, rfl⟩, HF.out _ (HBd.out.trans (B_x2.out.mono HBd.out.size))⟩
    · have g1 : decide ((q : Int) ≤ (n : Int)) = true := by rw [decide_eq_true_iff]; omega
      have g2 : decide (q ≤ n) = true := by rw [decide_eq_true_iff]; omega
      have hs : takeS l dn t = (l, dn) := by
        rw [HTS.out, List.getElem?_eq_none (by have := HQ.out; omega)]
      have HF := Lib.hid (HSAME.out hs)
      clear hs hok
      go_wp2_with fail
      refine bodyPost_ret (results_none rfl _ _ _) rfl ?_
      exact ⟨⟨_, rfl⟩, HF.out _ HB1.out⟩
  · have ge : ((e' : Int) != 0) = true := by simp; omega
    have hs : takeS l dn t = (l, dn) := by
      rw [HTS.out]
      split
      · rfl
      · rw [if_neg (fun hh => he hh.1)]
    have HF := Lib.hid (HSAME.out hs)
    clear hs hok
    go_wp2_with fail
    refine bodyPost_ret (results_none rfl _ _ _) rfl ?_
    exact ⟨⟨_, rfl⟩, HF.out _ HB1.out⟩
end Go.Proofs.YtfpofcfoeajkiaaGreat
