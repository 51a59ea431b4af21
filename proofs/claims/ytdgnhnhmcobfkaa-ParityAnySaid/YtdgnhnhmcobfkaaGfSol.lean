/- Rows of rows in memory: lemmas. -/
import Derived.Test.YtdgnhnhmcobfkaaGfRTimes
namespace Go.Proofs.Ytdgnhnhmcobfkaa
open Go.RowKit
set_option linter.unusedVariables false
def slV (g W c : Nat) : Value := .slice (some ⟨g, 0, none⟩) W c
/-- block o begins with n slices, each of a row of W bytes of its own -/
structure Sol (w : World) (B o n W : Nat) (G C : Nat → Nat) (R : Rw) : Prop where
  lt : o < w.heap.size
  oB : B ≤ o
  slot : ∀ i, i < n → w.cell? ⟨o, i, none⟩ = some (slV (G i) W (C i))
  free : ∀ i, i < n → w.frozen? ⟨o, i, none⟩ = false
  row : ∀ i, i < n → FRow w (G i) W (R i)
  base : ∀ i, i < n → B ≤ G i
  cap : ∀ i, i < n → W ≤ C i ∧ C i ≤ maxLen
  inj : ∀ i j, i < n → j < n → G i = G j → i = j
  pos : 0 < W
theorem Sol.ne {w : World} {B o n W : Nat} {G C : Nat → Nat} {R : Rw} (h : Sol w B o n W G C R) (i : Nat) (hi : i < n) : G i ≠ o := fun e => by
  have h1 := (h.row i hi).cell 0 h.pos
  have h2 := h.slot 0 (by omega)
  rw [e, h2] at h1
  cases h1
theorem Sol.below {w w' : World} {B o n W : Nat} {G C : Nat → Nat} {R : Rw} (h : Sol w B o n W G C R) (b : Below w.heap.size w w') : Sol w' B o n W G C R :=
  ⟨Nat.lt_of_lt_of_le h.lt b.size, h.oB, fun i hi => (b.cell (p := ⟨o, i, none⟩) h.lt).trans (h.slot i hi), fun i hi => (b.frozen (p := ⟨o, i, none⟩) h.lt).trans (h.free i hi), fun i hi => (h.row i hi).below b, h.base, h.cap, h.inj, h.pos⟩
theorem Sol.drew {w : World} {B o n W : Nat} {G C : Nat → Nat} {R : Rw} (h : Sol w B o n W G C R) : Sol w.drew B o n W G C R :=
  h.below (Below.refl _ _).drew
theorem Sol.congr {w : World} {B o n W : Nat} {G C : Nat → Nat} {R R' : Rw} (h : Sol w B o n W G C R) (e : ∀ i, i < n → ∀ k, k < W → R i k = R' i k) : Sol w B o n W G C R' :=
  ⟨h.lt, h.oB, h.slot, h.free, fun i hi => (h.row i hi).congr (e i hi), h.base, h.cap, h.inj, h.pos⟩
/-- one row changed -/
theorem Sol.one {w w' : World} {B o n W : Nat} {G C : Nat → Nat} {R : Rw} (h : Sol w B o n W G C R) (i : Nat) (hi : i < n) (r : Nat → UInt8) (hg : w.grownBy w' (some (G i))) (hr : FRow w' (G i) W r) :
    Sol w' B o n W G C (fun q => if q = i then r else R q) := by
  have hne : some o ≠ some (G i) := fun e => by injection e with e; exact h.ne i hi e.symm
  refine ⟨Nat.lt_of_lt_of_le h.lt hg.size, h.oB, fun j hj => ?_, fun j hj => ?_, fun j hj => ?_, h.base, h.cap, h.inj, h.pos⟩
  · exact (World.cell?_of_block (a := ⟨o, j, none⟩) (hg.block o h.lt hne)).trans (h.slot j hj)
  · exact (World.frozen?_of_block (a := ⟨o, j, none⟩) (hg.block o h.lt hne)).trans (h.free j hj)
  · by_cases e : j = i
    · subst e; simp only [if_pos]; exact hr
    · simp only [if_neg e]
      exact (h.row j hj).grown hg (fun e2 => by injection e2 with e2; exact e (h.inj j i hj hi e2))
def swN (f : Nat → Nat) (c p i : Nat) : Nat := if i = c then f p else if i = p then f c else f i
theorem sol_swap {w : World} {B o n W : Nat} {G C : Nat → Nat} {R : Rw} (h : Sol w B o n W G C R) (c p : Nat) (hc : c < n) (hp : p < n) :
    Sol ((w.setCell ⟨o, c, none⟩ (slV (G p) W (C p))).setCell ⟨o, p, none⟩ (slV (G c) W (C c))) B o n W (swN G c p) (swN C c p) (sw R c p) := by
  have hb : ∀ g, g ≠ o → ((w.setCell ⟨o, c, none⟩ (slV (G p) W (C p))).setCell ⟨o, p, none⟩ (slV (G c) W (C c))).heap[g]? = w.heap[g]? := fun g hg => by
    rw [heap_setCell_other _ _ g _ hg, heap_setCell_other _ _ g _ hg]
  have hs : w.heap.size ≤ ((w.setCell ⟨o, c, none⟩ (slV (G p) W (C p))).setCell ⟨o, p, none⟩ (slV (G c) W (C c))).heap.size := by rw [World.size_setCell, World.size_setCell]; exact Nat.le_refl _
  have hq : ∀ i, i < n → swN G c p i = G (if i = c then p else if i = p then c else i) ∧ swN C c p i = C (if i = c then p else if i = p then c else i) ∧ sw R c p i = R (if i = c then p else if i = p then c else i) ∧ (if i = c then p else if i = p then c else i) < n := by
    intro i hi
    unfold swN sw
    by_cases h1 : i = c
    · simp only [if_pos h1]; exact ⟨trivial, trivial, trivial, hp⟩
    · by_cases h2 : i = p
      · simp only [if_neg h1, if_pos h2]; exact ⟨trivial, trivial, trivial, hc⟩
      · simp only [if_neg h1, if_neg h2]; exact ⟨trivial, trivial, trivial, hi⟩
  have hcp : ((w.setCell ⟨o, c, none⟩ (slV (G p) W (C p))).cell? ⟨o, p, none⟩).isSome = true := by
    by_cases e : c = p
    · subst e; rw [World.cell?_setCell_same _ _ _ (h.slot c hc)]; rfl
    · rw [World.cell?_setCell_other _ _ _ _ (by intro e2; injection e2 with _ e2; exact e e2), h.slot p hp]; rfl
  refine ⟨Nat.lt_of_lt_of_le h.lt hs, h.oB, fun i hi => ?_, fun i hi => by rw [World.frozen?_setCell, World.frozen?_setCell]; exact h.free i hi, fun i hi => ?_, fun i hi => ?_, fun i hi => ?_, fun i j hi hj e => ?_, h.pos⟩
  · by_cases h2 : i = p
    · subst h2
      obtain ⟨x, hx⟩ := Option.isSome_iff_exists.1 hcp
      rw [World.cell?_setCell_same _ _ _ hx]
      unfold swN
      by_cases h1 : i = c
      · subst h1; simp
      · simp [h1]
    · rw [World.cell?_setCell_other _ _ _ _ (by intro e2; injection e2 with _ e2; exact h2 e2.symm)]
      by_cases h1 : i = c
      · subst h1
        rw [World.cell?_setCell_same _ _ _ (h.slot i hi)]
        unfold swN; simp
      · rw [World.cell?_setCell_other _ _ _ _ (by intro e2; injection e2 with _ e2; exact h1 e2.symm), h.slot i hi]
        unfold swN; rw [if_neg h1, if_neg h2, if_neg h1, if_neg h2]
  · obtain ⟨a, b, d, e⟩ := hq i hi
    rw [a, d]
    exact (h.row _ e).same hs (hb _ (h.ne _ e))
  · obtain ⟨a, b, d, e⟩ := hq i hi
    rw [a]; exact h.base _ e
  · obtain ⟨a, b, d, e⟩ := hq i hi
    rw [b]; exact h.cap _ e
  · obtain ⟨a, _, _, e1⟩ := hq i hi
    obtain ⟨b, _, _, e2⟩ := hq j hj
    rw [a, b] at e
    have := h.inj _ _ e1 e2 e
    clear a b e e1 e2 hcp hb hs hq
    split at this <;> split at this <;> (try split at this) <;> (try split at this) <;> omega
theorem slInfo : (Try.prog.info? 63).map (fun i => (i.zero, i.size, i.bytes)) = some (some (.slice none 0 0), 1, 24) := by kernel_rfl
theorem own_ne {w : World} {B e g W n : Nat} {f : Nat → UInt8} {v : Value} {xs : List Value} {a : Option Addr} {b c : Nat} (h : w.ownsRow B e 1 v n xs) (hx : xs[0]? = some (.slice a b c)) (hr : FRow w g W f) (hW : 0 < W) : v.ownBlock = none ∨ some g ≠ v.ownBlock := by
  right
  intro e
  have := h.cells e.symm 0 _ hx
  rw [Addr.add_mid] at this
  rw [hr.cell 0 hW] at this
  cases this
/-- append of one slice to a row of slices -/
theorem wpList_push_sl {w : World} {ops : Array Oper} {rest : List Oper} {o : Oper} {a : Act} {Q : Exit → Act → World → Prop} (hgd : o.guard = none) (s x : Operand) (t : TypeId)
    (ho : o.op = .call { callee := .builtin .append, args := #[s, x], argTypes := #[t, t] }) (ht : Try.prog.underlying t = some (.slice 63))
    (base : Nat) (v : Value) (xs : List Value) (hs : a.eval s = v) (hown : w.ownsRow base 63 1 v xs.length xs)
    (ad : Addr) (c : Nat) (y : Value) (hy : y.oneCell' = true) (hx : a.eval x = .slice (some ad) 1 c) (hc : w.cell? ad = some y) (hle : xs.length + 1 ≤ 1000000000) (hbase : base ≤ w.heap.size)
    (h : ∀ v' w', w'.ownsRow base 63 1 v' (xs ++ [y]).length (xs ++ [y]) → w.grownBy w' v.ownBlock → wpList Try.prog ops Q rest (a.put o.dst v') w') : wpList Try.prog ops Q (o :: rest) a w := by
  obtain ⟨i0, hi, hz0, hz1, hz2⟩ := info_parts slInfo
  refine wpList_append_own w hgd s x t ho base 63 i0 (.slice none 0 0) 1 24 ht hi hz0 hz1 hz2 rfl (by decide) v _ _ hs hown ad 1 c [y] hx rfl ?_ ?_ (by unfold maxLen; omega) (by omega) hbase ?_
  · intro j u' hj
    match j, hj with
    | 0, hj =>
      simp at hj; subst hj
      rw [← hc]; congr 1
  · intro u' hu'
    simp at hu'; subst hu'; exact hy
  · intro v' w' h1 h2 _
    exact h v' w' (by simpa using h1) h2
/-- the rows' slices in order, as the row of slices that is appended to holds them -/
def slL (G C : Nat → Nat) (W n : Nat) : List Value := (List.range n).map fun i => slV (G i) W (C i)
theorem slL_len (G C : Nat → Nat) (W n : Nat) : (slL G C W n).length = n := by simp [slL]
theorem slL_snoc (G C : Nat → Nat) (W n g c : Nat) : slL G C W n ++ [slV g W c] = slL (fun i => if i = n then g else G i) (fun i => if i = n then c else C i) W (n + 1) := by
  unfold slL
  rw [List.range_succ, List.map_append]
  congr 1
  · exact List.map_congr_left fun i hi => by
      have hlt : i < n := by simpa using hi
      have hne : i ≠ n := Nat.ne_of_lt hlt
      simp only [if_neg hne]
  · simp
/-- rows being made: some of them -/
structure Mk (w : World) (B n W : Nat) (v : Value) (G C : Nat → Nat) (R : Rw) : Prop where
  own : w.ownsRow B 63 1 v n (slL G C W n)
  nil : n = 0 → v = .slice none 0 0
  row : ∀ i, i < n → FRow w (G i) W (R i)
  base : ∀ i, i < n → B ≤ G i
  cap : ∀ i, i < n → W ≤ C i ∧ C i ≤ maxLen
  inj : ∀ i j, i < n → j < n → G i = G j → i = j
theorem Mk.own_ne {w : World} {B n W : Nat} {v : Value} {G C : Nat → Nat} {R : Rw} (h : Mk w B n W v G C R) (hW : 0 < W) (g : Nat) (f : Nat → UInt8) (hr : FRow w g W f) : v.ownBlock = none ∨ some g ≠ v.ownBlock := by
  by_cases e : n = 0
  · rw [h.nil e]; exact .inl rfl
  · exact Go.Proofs.Ytdgnhnhmcobfkaa.own_ne h.own (show (slL G C W n)[0]? = some (slV (G 0) W (C 0)) from by simp only [slL, List.getElem?_map]; rw [List.getElem?_range (by omega)]; rfl) hr hW
theorem Mk.below {w w' : World} {B n W : Nat} {v : Value} {G C : Nat → Nat} {R : Rw} (h : Mk w B n W v G C R) (b : Below w.heap.size w w') : Mk w' B n W v G C R :=
  ⟨h.own.kept (grown_of_below b none) (by by_cases e : v.ownBlock = none; exact .inl e; exact .inr e), h.nil, fun i hi => (h.row i hi).below b, h.base, h.cap, h.inj⟩
theorem Mk.push {w w' : World} {B n W : Nat} {v v' : Value} {G C : Nat → Nat} {R : Rw} (h : Mk w B n W v G C R) (hW : 0 < W) (g c : Nat) (r : Nat → UInt8) (hr : FRow w g W r) (hB : B ≤ g) (hc : W ≤ c ∧ c ≤ maxLen) (hne : ∀ i, i < n → G i ≠ g)
    (hown : w'.ownsRow B 63 1 v' (slL G C W n ++ [slV g W c]).length (slL G C W n ++ [slV g W c])) (hg : w.grownBy w' v.ownBlock) :
    Mk w' B (n + 1) W v' (fun i => if i = n then g else G i) (fun i => if i = n then c else C i) (fun i => if i = n then r else R i) := by
  have keep : ∀ g f, FRow w g W f → FRow w' g W f := fun g f hf => by
    rcases h.own_ne hW g f hf with e | e
    · rw [e] at hg; exact hf.grown hg (by simp)
    · exact hf.grown hg e
  refine ⟨by rw [slL_snoc, slL_len] at hown; exact hown, fun e => by omega, fun i hi => ?_, fun i hi => ?_, fun i hi => ?_, fun i j hi hj e => ?_⟩
  · by_cases e : i = n
    · simp only [if_pos e]; exact keep _ _ hr
    · simp only [if_neg e]; exact keep _ _ (h.row i (by omega))
  · by_cases e : i = n
    · simp only [if_pos e]; exact hB
    · simp only [if_neg e]; exact h.base i (by omega)
  · by_cases e : i = n
    · simp only [if_pos e]; exact hc
    · simp only [if_neg e]; exact h.cap i (by omega)
  · by_cases e1 : i = n
    · by_cases e2 : j = n
      · omega
      · simp only [if_pos e1, if_neg e2] at e; exact absurd e.symm (hne j (by omega))
    · by_cases e2 : j = n
      · simp only [if_neg e1, if_pos e2] at e; exact absurd e (hne i (by omega))
      · simp only [if_neg e1, if_neg e2] at e; exact h.inj i j (by omega) (by omega) e
theorem Mk.sol {w : World} {B n W : Nat} {v : Value} {G C : Nat → Nat} {R : Rw} (h : Mk w B n W v G C R) (hn : 0 < n) (hW : 0 < W) : ∃ o cap, v = .slice (some ⟨o, 0, none⟩) n cap ∧ n ≤ cap ∧ cap ≤ maxLen ∧ Sol w B o n W G C R := by
  rcases h.own.2 with ⟨_, h0⟩ | ⟨g, cap, cur, hv, hb, hg, hnc, hm, hcs, ht⟩
  · omega
  · refine ⟨g, cap, hv, hnc, hm, (Array.getElem?_eq_some_iff.1 hg).1, hb, fun i hi => ?_, fun i hi => frozen_of_row w g i cur _ hg, h.row, h.base, h.cap, h.inj, hW⟩
    have := h.own.cells (g := g) (by rw [hv]; rfl) i (slV (G i) W (C i)) (by simp [slL, hi])
    rwa [Addr.add_mid, Nat.zero_add] at this
end Go.Proofs.Ytdgnhnhmcobfkaa
