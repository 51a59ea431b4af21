/- Plain: counts stay fit; counts in memory that a struct's cells hold. -/
import Derived.Test.YteidlngffikboaaLsmPut
import Derived.Test.YteidlngffikboaaLsmFit
namespace Go.Proofs.Yteidlngffikboaa
open Go.RowKit
set_option linter.unusedVariables false
set_option linter.unusedSimpArgs false
def fitP (s : CntS) : Prop := okS s ∧ s.1.length ≤ 7 ∧ s.2.length ≤ 12
theorem put_fit {s : CntS} (h : fitP s) (k : ByteArray) (n : Int) : fitP (putL s k n).1 ∧ sizeS (putL s k n).1 ≤ sizeS s + 1 := by
  obtain ⟨ok, h1, h2⟩ := h
  obtain ⟨k1, k2, k3⟩ := putL_ok ok k n
  refine ⟨⟨k1, ?_, ?_⟩, k2⟩
  · unfold putL
    split
    · exact h1
    · split
      · exact h1
      · split
        · dsimp only; omega
        · split
          · exact h1
          · exact Nat.zero_le _
  · unfold putL
    split
    · exact h2
    · rename_i e1
      split
      · exact h2
      · rename_i e2
        split
        · exact h2
        · split
          · exact h2
          · rename_i e4
            have hm := memL_ok ok.1 (Decidable.not_not.1 e1) (Decidable.not_not.1 e2).2.2
            have := (comeP_ok ok.2 hm).2.1
            dsimp only; omega
theorem flush_fit {s : CntS} (h : fitP s) : fitP (flushL s) ∧ sizeS (flushL s) ≤ sizeS s := by
  obtain ⟨ok, h1, h2⟩ := h
  unfold flushL
  split
  · exact ⟨⟨ok, h1, h2⟩, Nat.le_refl _⟩
  · rename_i e
    obtain ⟨c1, c2, c3⟩ := comeP_ok ok.2 ok.1
    have : ¬ 12 ≤ s.2.length := fun h => e (.inr h)
    exact ⟨⟨⟨okR_nil, c1⟩, Nat.zero_le _, by dsimp only; omega⟩, by unfold sizeS; dsimp only [List.length_nil]; omega⟩
theorem pack_fit {s : CntS} (h : fitP s) : fitP (packL s) ∧ sizeS (packL s) ≤ sizeS s := by
  obtain ⟨ok, h1, h2⟩ := h
  unfold packL
  split
  · rename_i e
    have hr := ((rowB_ok _ _).1 e).2
    have hlen := allL_len s
    split
    · exact ⟨⟨okS_nil, Nat.zero_le _, Nat.zero_le _⟩, by simp [sizeS, total]⟩
    · rename_i e2
      refine ⟨⟨⟨okR_nil, fun r hr' => ?_, trivial⟩, Nat.zero_le _, by simp⟩, by unfold sizeS total at *; simpa using hlen⟩
      rw [List.mem_singleton.1 hr']
      exact ⟨e2, hr⟩
  · exact ⟨⟨ok, h1, h2⟩, Nat.le_refl _⟩
theorem fitB_of {s : CntS} (h : fitP s) (hs : sizeS s ≤ 1000000) : fitB s = true := (fitB_ok hs).2 h
/-- two cells of a block hold counts -/
structure BoxV (B : Nat) (v1 v2 : Value) (s : CntS) (W : World) : Prop where
  c0 : W.cell? ⟨B, 0, none⟩ = some v1
  c1 : W.cell? ⟨B, 1, none⟩ = some v2
  rows : LsmN W (LsmV v1 v2) s
  lt : B < W.heap.size
theorem BoxV.below {B : Nat} {v1 v2 : Value} {s : CntS} {W W' : World} (h : BoxV B v1 v2 s W) (hb : Below W.heap.size W W') : BoxV B v1 v2 s W' :=
  ⟨(hb.cell (p := ⟨B, 0, none⟩) h.lt).trans h.c0, (hb.cell (p := ⟨B, 1, none⟩) h.lt).trans h.c1, h.rows.below hb (Nat.le_refl _), Nat.lt_of_lt_of_le h.lt hb.size⟩
theorem boxV_new (W : World) (v1 v2 : Value) (s : CntS) (h : LsmN W (LsmV v1 v2) s) : BoxV W.heap.size v1 v2 s (W.alloc (.cells #[v1, v2] 25)) := by
  have hb := World.alloc_heap_new W (.cells #[v1, v2] 25)
  exact ⟨by unfold World.cell?; rw [hb]; rfl, by unfold World.cell?; rw [hb]; rfl, h.below ((Below.refl _ _).alloc (Nat.le_refl _) _) (Nat.le_refl _), by simp⟩
theorem LsmN.shapes {w : World} {v : Value} {s : CntS} (h : LsmN w v s) : ∃ A c A' c', v = LsmV (.slice A s.1.length c) (.slice A' s.2.length c') := by
  obtain ⟨vm, vr, rfl, h1, h2⟩ := h
  obtain ⟨A, c, rfl, _⟩ := h1.1.shape
  obtain ⟨A', c', rfl, _⟩ := h2.shape
  exact ⟨A, c, A', c', rfl⟩
/-- a row of rows' slice lies where it did or from a world's end on -/
theorem LsmN.offs {w0 wc w' W' : World} {v v' : Value} {s s' : CntS} {Off : Nat → Prop} (h0 : LsmN w0 v s) (h : LsmN w' v' s') (hf : FreshS wc.heap.size v v')
    (hO : ∀ B, Off B → B < w'.heap.size → w0.heap.size ≤ B ∧ B < wc.heap.size ∧ NilBox B w') (hk : ∀ k, ¬ Off k → k < w'.heap.size → W'.heap[k]? = w'.heap[k]?) (hs : w'.heap.size ≤ W'.heap.size) : LsmN W' v' s' := by
  obtain ⟨a1, a2, vm', vr', rfl, rfl, hf2⟩ := hf
  obtain ⟨b1, b2, e3, hm, hr⟩ := h
  have e4 : vm' = b1 ∧ vr' = b2 := by unfold LsmV at e3; injection e3 with e3; injection e3 with e3; injection e3 with e4 e3; injection e3 with e3; exact ⟨e4, e3⟩
  obtain ⟨rfl, rfl⟩ := e4
  obtain ⟨d1, d2, e5, h01, h02⟩ := h0
  have e6 : a1 = d1 ∧ a2 = d2 := by unfold LsmV at e5; injection e5 with e5; injection e5 with e5; injection e5 with e6 e5; injection e5 with e5; exact ⟨e6, e5⟩
  obtain ⟨rfl, rfl⟩ := e6
  have row : ∀ {u : Value} {l : List Cnt}, CntN w' u l → CntN W' u l := by
    intro u l hu
    obtain ⟨⟨A, c, k1, k2, k3, k4⟩, k5⟩ := hu
    refine ⟨⟨A, c, k1, k2, k3, fun hl => ?_⟩, k5⟩
    obtain ⟨b, off, f1, f2, f3⟩ := k4 hl
    have hno : ¬ Off b := fun ho => by
      have := (hO b ho f2).2.2.cells _ _ (f3 0 hl).1
      cases this
    exact ⟨b, off, f1, Nat.lt_of_lt_of_le f2 hs, fun i hi => ⟨(World.cell?_of_block (hk b hno f2)).trans (f3 i hi).1, (World.cell?_of_block (hk b hno f2)).trans (f3 i hi).2⟩⟩
  refine ⟨vm', vr', rfl, row hm, ?_⟩
  obtain ⟨⟨A, c, k1, k2, k3, k4⟩, k5⟩ := hr
  refine ⟨⟨A, c, k1, k2, k3, fun hl => ?_⟩, k5⟩
  obtain ⟨b, off, f1, f2, f3⟩ := k4 hl
  have hno : ¬ Off b := fun ho => by
    obtain ⟨q1, q2, _⟩ := hO b ho f2
    rcases hf2 with e | hf2
    · obtain ⟨⟨A0, c0, g1, _, _, g4⟩, _⟩ := h02
      rw [← e, k1] at g1
      injection g1 with g1 g2 _
      obtain ⟨b0, off0, g5, g6, _⟩ := g4 (by omega)
      rw [← g1, f1] at g5
      cases g5
      omega
    · have := hf2 b off s'.2.length c (by rw [k1, f1])
      omega
  refine ⟨b, off, f1, Nat.lt_of_lt_of_le f2 hs, fun i hi => ?_⟩
  obtain ⟨u, p1, p2⟩ := f3 i hi
  exact ⟨u, (World.cell?_of_block (hk b hno f2)).trans p1, row p2⟩
theorem NilBox.below {B : Nat} {w w' : World} (h : NilBox B w) (hb : Below w.heap.size w w') : NilBox B w' := (hb.block _ (Array.getElem?_eq_some_iff.1 h).1).trans h
theorem nilBox_new (w : World) : NilBox w.heap.size (w.alloc (.cells #[.slice none 0 0, .slice none 0 0] 25)) := World.alloc_heap_new w _
/-- a store into an empty box: what it holds then -/
theorem set2_cells {W : World} {B : Nat} {x y : Value} (h : NilBox B W) : ((W.setCell ⟨B, 0, none⟩ x).setCell ⟨B, 1, none⟩ y).cell? ⟨B, 0, none⟩ = some x ∧ ((W.setCell ⟨B, 0, none⟩ x).setCell ⟨B, 1, none⟩ y).cell? ⟨B, 1, none⟩ = some y := by
  have := set2_blk (x' := x) (y' := y) h
  constructor <;> (unfold World.cell?; rw [this]; rfl)
theorem LsmN.vals {w : World} {v1 v2 : Value} {s : CntS} (h : LsmN w (LsmV v1 v2) s) : CntN w v1 s.1 ∧ RunsN w v2 s.2 := by
  obtain ⟨b1, b2, e3, hm, hr⟩ := h
  have e4 : v1 = b1 ∧ v2 = b2 := by unfold LsmV at e3; injection e3 with e3; injection e3 with e3; injection e3 with e4 e3; injection e3 with e3; exact ⟨e4, e3⟩
  obtain ⟨rfl, rfl⟩ := e4
  exact ⟨hm, hr⟩
/-- two results, stored into two boxes that were laid meanwhile -/
theorem leaf9 {wd Wc wc Wd we U : World} {B4 B5 : Nat} {vl c1 c2 d1 d2 : Value} {l sc sd : CntS} (hne : B4 ≠ B5) (h4 : wd.heap.size ≤ B4) (h5 : wd.heap.size ≤ B5) (n4 : NilBox B4 U) (n5 : NilBox B5 U) (bU : Below wd.heap.size wd U) (h0 : LsmN wd vl l)
    (rc : LsmN wc (LsmV c1 c2) sc) (fc : FreshS Wc.heap.size vl (LsmV c1 c2)) (bc : Below wc.heap.size wc U) (oc4 : B4 < wc.heap.size → B4 < Wc.heap.size ∧ NilBox B4 wc) (oc5 : B5 < wc.heap.size → B5 < Wc.heap.size ∧ NilBox B5 wc)
    (rd : LsmN we (LsmV d1 d2) sd) (fd : FreshS Wd.heap.size vl (LsmV d1 d2)) (bd : Below we.heap.size we U) (od4 : B4 < we.heap.size → B4 < Wd.heap.size ∧ NilBox B4 we) (od5 : B5 < we.heap.size → B5 < Wd.heap.size ∧ NilBox B5 we) :
    BoxV B4 c1 c2 sc ((((U.setCell ⟨B4, 0, none⟩ c1).setCell ⟨B4, 1, none⟩ c2).setCell ⟨B5, 0, none⟩ d1).setCell ⟨B5, 1, none⟩ d2) ∧ BoxV B5 d1 d2 sd ((((U.setCell ⟨B4, 0, none⟩ c1).setCell ⟨B4, 1, none⟩ c2).setCell ⟨B5, 0, none⟩ d1).setCell ⟨B5, 1, none⟩ d2) ∧ Below wd.heap.size wd ((((U.setCell ⟨B4, 0, none⟩ c1).setCell ⟨B4, 1, none⟩ c2).setCell ⟨B5, 0, none⟩ d1).setCell ⟨B5, 1, none⟩ d2) := by
  have k1 := set2_cells (x := c1) (y := c2) n4
  have s1 := set2_size U B4 c1 c2
  have q1 := set2_keep U B4 c1 c2
  have b1 : Below wd.heap.size wd ((U.setCell ⟨B4, 0, none⟩ c1).setCell ⟨B4, 1, none⟩ c2) := (bU.setCell (p := ⟨B4, 0, none⟩) h4 _).setCell (p := ⟨B4, 1, none⟩) h4 _
  have l4 : B4 < U.heap.size := (Array.getElem?_eq_some_iff.1 n4).1
  have l5 : B5 < U.heap.size := (Array.getElem?_eq_some_iff.1 n5).1
  generalize (U.setCell ⟨B4, 0, none⟩ c1).setCell ⟨B4, 1, none⟩ c2 = U1 at *
  have n5' : NilBox B5 U1 := (q1 B5 (fun e => hne e.symm)).trans n5
  have k2 := set2_cells (x := d1) (y := d2) n5'
  have s2 := set2_size U1 B5 d1 d2
  have q2 := set2_keep U1 B5 d1 d2
  have b2 : Below wd.heap.size wd ((U1.setCell ⟨B5, 0, none⟩ d1).setCell ⟨B5, 1, none⟩ d2) := (b1.setCell (p := ⟨B5, 0, none⟩) h5 _).setCell (p := ⟨B5, 1, none⟩) h5 _
  generalize (U1.setCell ⟨B5, 0, none⟩ d1).setCell ⟨B5, 1, none⟩ d2 = U2 at *
  have hall : ∀ k, ¬ (k = B4 ∨ k = B5) → U2.heap[k]? = U.heap[k]? := fun k hk => (q2 k (fun e => hk (.inr e))).trans (q1 k (fun e => hk (.inl e)))
  refine ⟨⟨(World.cell?_of_block (q2 B4 hne)).trans k1.1, (World.cell?_of_block (q2 B4 hne)).trans k1.2, ?_, by omega⟩, ⟨k2.1, k2.2, ?_, by omega⟩, b2⟩
  · refine LsmN.offs (Off := fun k => k = B4 ∨ k = B5) h0 rc fc (fun B ho hlt => ?_) (fun k hk hlt => (hall k hk).trans (bc.block k hlt)) (by have := bc.size; omega)
    rcases ho with rfl | rfl
    · exact ⟨h4, oc4 hlt⟩
    · exact ⟨h5, oc5 hlt⟩
  · refine LsmN.offs (Off := fun k => k = B4 ∨ k = B5) h0 rd fd (fun B ho hlt => ?_) (fun k hk hlt => (hall k hk).trans (bd.block k hlt)) (by have := bd.size; omega)
    rcases ho with rfl | rfl
    · exact ⟨h4, od4 hlt⟩
    · exact ⟨h5, od5 hlt⟩
end Go.Proofs.Yteidlngffikboaa
