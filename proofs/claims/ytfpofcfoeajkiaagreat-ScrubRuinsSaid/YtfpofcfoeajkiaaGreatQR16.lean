/- Texts of this claim's author, packed: GfSolK, GfBegunK, GfPivotK, GfWipeK, GfInvK. Conditions: none. -/
import Derived.Test.YtfpofcfoeajkiaaGreatQR15
import Derived.BigRegion
import Derived.WalkMore
/- Rows of rows in memory: lemmas. -/
namespace Go.Proofs.YtfpofcfoeajkiaaGreat
open Go.RowKit
set_option linter.unusedVariables false
def slV (g W c : Nat) : Value := .slice (some ⟨g, 0, none⟩) W c
/-- block o begins with n slices, each of a row of W bytes of its own -/
structure Sol (w : World) (B o n W : Nat) (G C : Nat → Nat) (R : Rw) : Prop where
  lt : o < w.heap.size
  oB : B ≤ o
  slot : ∀ i, i < n → w.cell? ⟨o, i, none⟩ = some (slV (G i) W (C i))
  free : ∀ i, i < n → w.frozen? ⟨o, i, none⟩ = false
  row : ∀ i, i < n → FRow w (G i) W (R i)
  base : ∀ i, i < n → B ≤ G i
  cap : ∀ i, i < n → W ≤ C i ∧ C i ≤ maxLen
  inj : ∀ i j, i < n → j < n → G i = G j → i = j
  pos : 0 < W
theorem Sol.ne {w : World} {B o n W : Nat} {G C : Nat → Nat} {R : Rw} (h : Sol w B o n W G C R) (i : Nat) (hi : i < n) : G i ≠ o := fun e => by
  have h1 := (h.row i hi).cell 0 h.pos
  have h2 := h.slot 0 (by omega)
  rw [e, h2] at h1
  cases h1
theorem Sol.below {w w' : World} {B o n W : Nat} {G C : Nat → Nat} {R : Rw} (h : Sol w B o n W G C R) (b : Below w.heap.size w w') : Sol w' B o n W G C R :=
  ⟨Nat.lt_of_lt_of_le h.lt b.size, h.oB, fun i hi => (b.cell (p := ⟨o, i, none⟩) h.lt).trans (h.slot i hi), fun i hi => (b.frozen (p := ⟨o, i, none⟩) h.lt).trans (h.free i hi), fun i hi => (h.row i hi).below b, h.base, h.cap, h.inj, h.pos⟩
theorem Sol.drew {w : World} {B o n W : Nat} {G C : Nat → Nat} {R : Rw} (h : Sol w B o n W G C R) : Sol w.drew B o n W G C R :=
  h.below (Below.refl _ _).drew
theorem Sol.congr {w : World} {B o n W : Nat} {G C : Nat → Nat} {R R' : Rw} (h : Sol w B o n W G C R) (e : ∀ i, i < n → ∀ k, k < W → R i k = R' i k) : Sol w B o n W G C R' :=
  ⟨h.lt, h.oB, h.slot, h.free, fun i hi => (h.row i hi).congr (e i hi), h.base, h.cap, h.inj, h.pos⟩
/-- one row changed -/
theorem Sol.one {w w' : World} {B o n W : Nat} {G C : Nat → Nat} {R : Rw} (h : Sol w B o n W G C R) (i : Nat) (hi : i < n) (r : Nat → UInt8) (hg : w.grownBy w' (some (G i))) (hr : FRow w' (G i) W r) :
    Sol w' B o n W G C (fun q => if q = i then r else R q) := by
  have hne : some o ≠ some (G i) := fun e => by injection e with e; exact h.ne i hi e.symm
  refine ⟨Nat.lt_of_lt_of_le h.lt hg.size, h.oB, fun j hj => ?_, fun j hj => ?_, fun j hj => ?_, h.base, h.cap, h.inj, h.pos⟩
  · exact (World.cell?_of_block (a := ⟨o, j, none⟩) (hg.block o h.lt hne)).trans (h.slot j hj)
  · exact (World.frozen?_of_block (a := ⟨o, j, none⟩) (hg.block o h.lt hne)).trans (h.free j hj)
  · by_cases e : j = i
    · subst e; simp only [if_pos]; exact hr
    · simp only [if_neg e]
      exact (h.row j hj).grown hg (fun e2 => by injection e2 with e2; exact e (h.inj j i hj hi e2))
def swN (f : Nat → Nat) (c p i : Nat) : Nat := if i = c then f p else if i = p then f c else f i
theorem sol_swap {w : World} {B o n W : Nat} {G C : Nat → Nat} {R : Rw} (h : Sol w B o n W G C R) (c p : Nat) (hc : c < n) (hp : p < n) :
    Sol ((w.setCell ⟨o, c, none⟩ (slV (G p) W (C p))).setCell ⟨o, p, none⟩ (slV (G c) W (C c))) B o n W (swN G c p) (swN C c p) (sw R c p) := by
  have hb : ∀ g, g ≠ o → ((w.setCell ⟨o, c, none⟩ (slV (G p) W (C p))).setCell ⟨o, p, none⟩ (slV (G c) W (C c))).heap[g]? = w.heap[g]? := fun g hg => by
    rw [heap_setCell_other _ _ g _ hg, heap_setCell_other _ _ g _ hg]
  have hs : w.heap.size ≤ ((w.setCell ⟨o, c, none⟩ (slV (G p) W (C p))).setCell ⟨o, p, none⟩ (slV (G c) W (C c))).heap.size := by rw [World.size_setCell, World.size_setCell]; exact Nat.le_refl _
  have hq : ∀ i, i < n → swN G c p i = G (if i = c then p else if i = p then c else i) ∧ swN C c p i = C (if i = c then p else if i = p then c else i) ∧ sw R c p i = R (if i = c then p else if i = p then c else i) ∧ (if i = c then p else if i = p then c else i) < n := by
    intro i hi
    unfold swN sw
    by_cases h1 : i = c
    · simp only [if_pos h1]; exact ⟨trivial, trivial, trivial, hp⟩
    · by_cases h2 : i = p
      · simp only [if_neg h1, if_pos h2]; exact ⟨trivial, trivial, trivial, hc⟩
      · simp only [if_neg h1, if_neg h2]; exact ⟨trivial, trivial, trivial, hi⟩
  have hcp : ((w.setCell ⟨o, c, none⟩ (slV (G p) W (C p))).cell? ⟨o, p, none⟩).isSome = true := by
    by_cases e : c = p
    · subst e; rw [World.cell?_setCell_same _ _ _ (h.slot c hc)]; rfl
    · rw [World.cell?_setCell_other _ _ _ _ (by intro e2; injection e2 with _ e2; exact e e2), h.slot p hp]; rfl
  refine ⟨Nat.lt_of_lt_of_le h.lt hs, h.oB, fun i hi => ?_, fun i hi => by rw [World.frozen?_setCell, World.frozen?_setCell]; exact h.free i hi, fun i hi => ?_, fun i hi => ?_, fun i hi => ?_, fun i j hi hj e => ?_, h.pos⟩
  · by_cases h2 : i = p
    · subst h2
      obtain ⟨x, hx⟩ := Option.isSome_iff_exists.1 hcp
      rw [World.cell?_setCell_same _ _ _ hx]
      unfold swN
      by_cases h1 : i = c
      · subst h1; simp
      · simp [h1]
    · rw [World.cell?_setCell_other _ _ _ _ (by intro e2; injection e2 with _ e2; exact h2 e2.symm)]
      by_cases h1 : i = c
      · subst h1
        rw [World.cell?_setCell_same _ _ _ (h.slot i hi)]
        unfold swN; simp
      · rw [World.cell?_setCell_other _ _ _ _ (by intro e2; injection e2 with _ e2; exact h1 e2.symm), h.slot i hi]
        unfold swN; rw [if_neg h1, if_neg h2, if_neg h1, if_neg h2]
  · obtain ⟨a, b, d, e⟩ := hq i hi
    rw [a, d]
    exact (h.row _ e).same hs (hb _ (h.ne _ e))
  · obtain ⟨a, b, d, e⟩ := hq i hi
    rw [a]; exact h.base _ e
  · obtain ⟨a, b, d, e⟩ := hq i hi
    rw [b]; exact h.cap _ e
  · obtain ⟨a, _, _, e1⟩ := hq i hi
    obtain ⟨b, _, _, e2⟩ := hq j hj
    rw [a, b] at e
    have := h.inj _ _ e1 e2 e
    clear a b e e1 e2 hcp hb hs hq
    split at this <;> split at this <;> (try split at this) <;> (try split at this) <;> omega
theorem slInfo : (Tryz.prog.info? 83).map (fun i => (i.zero, i.size, i.bytes)) = some (some (.slice none 0 0), 1, 24) := by kernel_rfl
theorem own_ne {w : World} {B e g W n : Nat} {f : Nat → UInt8} {v : Value} {xs : List Value} {a : Option Addr} {b c : Nat} (h : w.ownsRow B e 1 v n xs) (hx : xs[0]? = some (.slice a b c)) (hr : FRow w g W f) (hW : 0 < W) : v.ownBlock = none ∨ some g ≠ v.ownBlock := by
  right
  intro e
  have := h.cells e.symm 0 _ hx
  rw [Addr.add_mid] at this
  rw [hr.cell 0 hW] at this
  cases this
/-- append of one slice to a row of slices -/
theorem wpList_push_sl {w : World} {ops : Array Oper} {rest : List Oper} {o : Oper} {a : Act} {Q : Exit → Act → World → Prop} (hgd : o.guard = none) (s x : Operand) (t : TypeId)
    (ho : o.op = .call { callee := .builtin .append, args := #[s, x], argTypes := #[t, t] }) (ht : Tryz.prog.underlying t = some (.slice 83))
    (base : Nat) (v : Value) (xs : List Value) (hs : a.eval s = v) (hown : w.ownsRow base 83 1 v xs.length xs)
    (ad : Addr) (c : Nat) (y : Value) (hy : y.oneCell' = true) (hx : a.eval x = .slice (some ad) 1 c) (hc : w.cell? ad = some y) (hle : xs.length + 1 ≤ 1000000000) (hbase : base ≤ w.heap.size)
    (h : ∀ v' w', w'.ownsRow base 83 1 v' (xs ++ [y]).length (xs ++ [y]) → w.grownBy w' v.ownBlock → wpList Tryz.prog ops Q rest (a.put o.dst v') w') : wpList Tryz.prog ops Q (o :: rest) a w := by
  obtain ⟨i0, hi, hz0, hz1, hz2⟩ := info_parts slInfo
  refine wpList_append_own w hgd s x t ho base 83 i0 (.slice none 0 0) 1 24 ht hi hz0 hz1 hz2 rfl (by decide) v _ _ hs hown ad 1 c [y] hx rfl ?_ ?_ (by unfold maxLen; omega) (by omega) hbase ?_
  · intro j u' hj
    match j, hj with
    | 0, hj =>
      simp at hj; subst hj
      rw [← hc]; congr 1
  · intro u' hu'
    simp at hu'; subst hu'; exact hy
  · intro v' w' h1 h2 _
    exact h v' w' (by simpa using h1) h2
/-- the rows' slices in order, as the row of slices that is appended to holds them -/
def slL (G C : Nat → Nat) (W n : Nat) : List Value := (List.range n).map fun i => slV (G i) W (C i)
theorem slL_len (G C : Nat → Nat) (W n : Nat) : (slL G C W n).length = n := by simp [slL]
theorem slL_snoc (G C : Nat → Nat) (W n g c : Nat) : slL G C W n ++ [slV g W c] = slL (fun i => if i = n then g else G i) (fun i => if i = n then c else C i) W (n + 1) := by
  unfold slL
  rw [List.range_succ, List.map_append]
  congr 1
  · exact List.map_congr_left fun i hi => by
      have hlt : i < n := by simpa using hi
      have hne : i ≠ n := Nat.ne_of_lt hlt
      simp only [if_neg hne]
  · simp
/-- rows being made: some of them -/
structure Mk (w : World) (B n W : Nat) (v : Value) (G C : Nat → Nat) (R : Rw) : Prop where
  own : w.ownsRow B 83 1 v n (slL G C W n)
  nil : n = 0 → v = .slice none 0 0
  row : ∀ i, i < n → FRow w (G i) W (R i)
  base : ∀ i, i < n → B ≤ G i
  cap : ∀ i, i < n → W ≤ C i ∧ C i ≤ maxLen
  inj : ∀ i j, i < n → j < n → G i = G j → i = j
theorem Mk.own_ne {w : World} {B n W : Nat} {v : Value} {G C : Nat → Nat} {R : Rw} (h : Mk w B n W v G C R) (hW : 0 < W) (g : Nat) (f : Nat → UInt8) (hr : FRow w g W f) : v.ownBlock = none ∨ some g ≠ v.ownBlock := by
  by_cases e : n = 0
  · rw [h.nil e]; exact .inl rfl
  · exact Go.Proofs.YtfpofcfoeajkiaaGreat.own_ne h.own (show (slL G C W n)[0]? = some (slV (G 0) W (C 0)) from by simp only [slL, List.getElem?_map]; rw [List.getElem?_range (by omega)]; rfl) hr hW
theorem Mk.below {w w' : World} {B n W : Nat} {v : Value} {G C : Nat → Nat} {R : Rw} (h : Mk w B n W v G C R) (b : Below w.heap.size w w') : Mk w' B n W v G C R :=
  ⟨h.own.kept (grown_of_below b none) (by by_cases e : v.ownBlock = none; exact .inl e; exact .inr e), h.nil, fun i hi => (h.row i hi).below b, h.base, h.cap, h.inj⟩
theorem Mk.push {w w' : World} {B n W : Nat} {v v' : Value} {G C : Nat → Nat} {R : Rw} (h : Mk w B n W v G C R) (hW : 0 < W) (g c : Nat) (r : Nat → UInt8) (hr : FRow w g W r) (hB : B ≤ g) (hc : W ≤ c ∧ c ≤ maxLen) (hne : ∀ i, i < n → G i ≠ g)
    (hown : w'.ownsRow B 83 1 v' (slL G C W n ++ [slV g W c]).length (slL G C W n ++ [slV g W c])) (hg : w.grownBy w' v.ownBlock) :
    Mk w' B (n + 1) W v' (fun i => if i = n then g else G i) (fun i => if i = n then c else C i) (fun i => if i = n then r else R i) := by
  have keep : ∀ g f, FRow w g W f → FRow w' g W f := fun g f hf => by
    rcases h.own_ne hW g f hf with e | e
    · rw [e] at hg; exact hf.grown hg (by simp)
    · exact hf.grown hg e
  refine ⟨by rw [slL_snoc, slL_len] at hown; exact hown, fun e => by omega, fun i hi => ?_, fun i hi => ?_, fun i hi => ?_, fun i j hi hj e => ?_⟩
  · by_cases e : i = n
    · simp only [if_pos e]; exact keep _ _ hr
    · simp only [if_neg e]; exact keep _ _ (h.row i (by omega))
  · by_cases e : i = n
    · simp only [if_pos e]; exact hB
    · simp only [if_neg e]; exact h.base i (by omega)
  · by_cases e : i = n
    · simp only [if_pos e]; exact hc
    · simp only [if_neg e]; exact h.cap i (by omega)
  · by_cases e1 : i = n
    · by_cases e2 : j = n
      · omega
      · simp only [if_pos e1, if_neg e2] at e; exact absurd e.symm (hne j (by omega))
    · by_cases e2 : j = n
      · simp only [if_neg e1, if_pos e2] at e; exact absurd e (hne i (by omega))
      · simp only [if_neg e1, if_neg e2] at e; exact h.inj i j (by omega) (by omega) e
theorem Mk.sol {w : World} {B n W : Nat} {v : Value} {G C : Nat → Nat} {R : Rw} (h : Mk w B n W v G C R) (hn : 0 < n) (hW : 0 < W) : ∃ o cap, v = .slice (some ⟨o, 0, none⟩) n cap ∧ n ≤ cap ∧ cap ≤ maxLen ∧ Sol w B o n W G C R := by
  rcases h.own.2 with ⟨_, h0⟩ | ⟨g, cap, cur, hv, hb, hg, hnc, hm, hcs, ht⟩
  · omega
  · refine ⟨g, cap, hv, hnc, hm, (Array.getElem?_eq_some_iff.1 hg).1, hb, fun i hi => ?_, fun i hi => frozen_of_row w g i cur _ hg, h.row, h.base, h.cap, h.inj, hW⟩
    have := h.own.cells (g := g) (by rw [hv]; rfl) i (slV (G i) W (C i)) (by simp [slL, hi])
    rwa [Addr.add_mid, Nat.zero_add] at this
end Go.Proofs.YtfpofcfoeajkiaaGreat
/- gf.begun: walk. -/
namespace Go.Proofs.YtfpofcfoeajkiaaGreat
open Go.RowKit
set_option linter.unusedVariables false
theorem below_grownG {W a b : World} (h : Below W.heap.size W a) {g : Nat} (k : a.grownBy b (some g)) (hg : W.heap.size ≤ g) : Below W.heap.size W b :=
  h.grown k h.size (fun q e => by injection e with e; omega)
theorem mk_nil (w : World) (B W : Nat) (G C : Nat → Nat) (R : Rw) : Mk w B 0 W (.slice none 0 0) G C R :=
  ⟨World.ownsRow_nil _ _ _ _, fun _ => rfl, fun i h => absurd h (by omega), fun i h => absurd h (by omega), fun i h => absurd h (by omega), fun i j h => absurd h (by omega)⟩
theorem Mk.congr {w : World} {B n W : Nat} {v : Value} {G C : Nat → Nat} {R R' : Rw} (h : Mk w B n W v G C R) (e : ∀ i, i < n → ∀ k, k < W → R i k = R' i k) : Mk w B n W v G C R' :=
  ⟨h.own, h.nil, fun i hi => (h.row i hi).congr (e i hi), h.base, h.cap, h.inj⟩
set_option maxRecDepth 20000 in
set_option maxHeartbeats 4000000 in
theorem begun_any (w : World) (va : Value) (m : List ByteArray) (ha : StrsB w va m) (h0 : 0 < m.length) (h16 : m.length ≤ 16) (hsq : ∀ i (h : i < m.length), m[i].size = m.length) :
    Calls Tryz.prog 92 #[va] w fun e w' => ∃ o cap G C, e = .returned (.slice (some ⟨o, 0, none⟩) m.length cap) ∧ m.length ≤ cap ∧ cap ≤ maxLen ∧ Sol w' w.heap.size o m.length (2 * m.length) G C (beg m.length (mt m)) ∧ Below w.heap.size w w' := by
  have HSQ := Lib.hid hsq; clear hsq
  have HMT : Hid (∀ i (h : i < m.length) k, mt m i k = rw' m[i] k) := fun i h k => mt_get h k
  obtain ⟨Am, cm, rfl, h1, h2⟩ := ha.len
  obtain ⟨bm, om, rfl, hbm, hcm⟩ := ha.cells h0
  have HCM := Lib.hid hcm; clear hcm ha h1 h2
  obtain ⟨n, hn⟩ : ∃ n, m.length = n := ⟨_, rfl⟩
  have HN := Lib.hid hn
  rw [hn] at h0 h16 ⊢
  have hnI : n ≤ 9223372036854775807 := by omega
  clear hn
  obtain ⟨i0, hi0, hz0, hz1, hz2⟩ := info_parts byteInfo
  go_enter Tryz.func92, Tryz.ntmps92
  go_wp2_with fail
  go_loopw [3, 9] (fun v i wr => ∃ (j : Nat) (G C : Nat → Nat), j ≤ n ∧ i = .int .i64 j ∧ Hid (Mk wr w.heap.size j (2 * n) v G C (beg n (mt m))) ∧ Hid (Below w.heap.size w wr)) (fun _ i _ => n - (intOf i).toNat)
  case atStart => exact ⟨0, fun _ => 0, fun _ => 0, Nat.zero_le _, rfl, mk_nil _ _ _ _ _ _, Below.refl _ _⟩
  case round =>
    obtain ⟨j, G, C, hj, rfl, HK, HB⟩ := hrel
    by_cases hlt : j < n
    · have hjm : j < m.length := by rw [HN.out]; exact hlt
      have hlt' : (j : Int) < (n : Int) := by omega
      have e1 : wr.cell? ⟨bm, om + j, none⟩ = some (.string m[j]) := (HB.out.cell (p := ⟨bm, om + j, none⟩) hbm).trans (HCM.out j hjm)
      have zx : m[j].size = n := (HSQ.out j hjm).trans HN.out
      have HX : Hid (∀ k, mt m j k = rw' m[j] k) := fun k => HMT.out j hjm k
      generalize m[j] = x at *
      clear hjm
      go_wp2_with (at_make; refine wpList_make_bytes rfl _ _ 83 rfl Tryz.underlying83 n rfl rfl (by omega) ?_)
      intro w1 hF hB1
      have e2 : w1.cell? ⟨wr.heap.size, j, none⟩ = some (.int .u8 0) := hF.cell j hlt
      have f2 : w1.frozen? ⟨wr.heap.size, j, none⟩ = false := hF.free j hlt
      have hF2 := hF.set j 1 hlt
      have hlt1 := hF.lt
      have HB2 : Hid (Below wr.heap.size wr (w1.setCell ⟨wr.heap.size, j, none⟩ (.int .u8 1))) := hB1.setCell (Nat.le_refl _) _
      obtain ⟨W2, cap, hcv, hr2, hB3⟩ := RowG.made (w1.setCell ⟨wr.heap.size, j, none⟩ (.int .u8 1)) x (by omega)
      have HF3 : Hid (FRow W2 wr.heap.size n (updG (fun _ => 0) j 1)) := FRow.below hF2 hB3
      rw [World.size_setCell, zx] at hcv
      rw [World.size_setCell] at hr2 hB3
      have HR2 := Lib.hid hr2; clear hr2
      have hBW2 := HB2.out.trans (hB3.mono (by have := hB1.size; omega))
      have HBW2 := Lib.hid hBW2; clear hBW2
      have hsW := hB1.size
      obtain ⟨L, hL⟩ : ∃ L, L = x.data.toList := ⟨_, rfl⟩
      rw [← hL] at HR2
      have HLn : Hid (L.length = n) := by unfold Hid; rw [hL, ← zx]; simp
      have HLx : Hid (∀ k, L[k]?.getD 0 = rw' x k) := fun k => by rw [hL, ← List.getD_eq_getElem?_getD]; rfl
      clear hF hB1 hF2 hB3 e1 hL
      go_wp2_with (at_builtin; refine wpList_frow_append rfl _ _ 83 rfl w1.heap.size w1.heap.size cap L 5 i0 Tryz.underlying83 hi0 hz0 hz1 hz2 (by rw [HLn.out]; rfl) HR2.out wr.heap.size n n _ rfl HF3.out (by rw [HLn.out]; omega) ?_)
      intro g' cap' w3 hF4 hg4 hor hc1 hc2
      rw [HLn.out, show n + n = 2 * n by omega] at hF4 hc1 ⊢
      have HF4 : Hid (FRow w3 g' (2 * n) (beg n (mt m) j)) := hF4.congr fun k hk => by
        unfold beg
        by_cases e : k < n
        · rw [if_pos e, if_pos e, HLx.out, ← HX.out]
        · rw [if_neg e, if_neg e]
          unfold updG dI
          by_cases e2 : k - n = j
          · rw [if_pos e2, if_pos e2.symm]
          · rw [if_neg e2, if_neg (fun e3 => e2 e3.symm)]
      have HB4 : Hid (Below wr.heap.size wr w3) := below_grownG HBW2.out hg4 hsW
      have hgB : wr.heap.size ≤ g' := by
        have := HBW2.out.size
        rcases hor with e | e <;> omega
      have hs0 := HB.out.size
      have hs3 := HB4.out.size
      have HK4 : Hid (Mk w3 w.heap.size j (2 * n) u3 G C (beg n (mt m))) := HK.out.below HB4.out
      have hsl : (slL G C (2 * n) j).length + 1 ≤ 1000000000 := by rw [slL_len]; omega
      have hown : w3.ownsRow w.heap.size 83 1 u3 (slL G C (2 * n) j).length (slL G C (2 * n) j) := by rw [slL_len]; exact HK4.out.own
      have hgne : Hid (∀ i, i < j → G i ≠ g') := fun i hi e => by
        have := (HK.out.row i hi).lt
        omega
      clear hF4 hg4 hor hcv e2 f2 HF3 HR2 HB2
      go_wp2_with (at_builtin; refine wpList_push_sl rfl _ _ 134 rfl Tryz.underlying134 w.heap.size u3 (slL G C (2 * n) j) rfl (hown.alloc _) ⟨w3.heap.size, 0, none⟩ _ (slV g' (2 * n) cap') rfl rfl (by simp [slV]) hsl (by simp; omega) ?_)
      intro v' w5 hown5 hg5
      have HK5 : Hid (Mk w5 w.heap.size (j + 1) (2 * n) v' (fun i => if i = j then g' else G i) (fun i => if i = j then cap' else C i) (beg n (mt m))) :=
        ((HK4.out.below ((Below.refl _ _).alloc (Nat.le_refl _) _)).push (by omega) g' cap' (beg n (mt m) j) (HF4.out.below ((Below.refl _ _).alloc (Nat.le_refl _) _)) (by omega) ⟨hc1, hc2⟩ hgne.out (by simpa using hown5) hg5).congr fun i hi k hk => by
          by_cases e : i = j
          · rw [if_pos e, e]
          · rw [if_neg e]
      have HB5 : Hid (Below w.heap.size w w5) := ((HB.out.trans (HB4.out.mono hs0)).alloc (by omega) _).grown hg5 (by simp; omega) (fun k hk => (HK.out.own.lt k hk).1)
      clear hown5 hg5 hown
      go_wp2_with fail
      go_roundw
      case rel => exact ⟨j + 1, _, _, by omega, by go_num, HK5, HB5⟩
      case measure => simp [intOf]; omega
    · obtain rfl : j = n := by omega
      obtain ⟨o, cap, hv, hc1, hc2, hS⟩ := HK.out.sol h0 (by omega)
      subst hv
      go_wp2_with fail
      go_ret
      exact ⟨o, cap, G, C, rfl, hc1, hc2, hS, HB.out⟩
end Go.Proofs.YtfpofcfoeajkiaaGreat
/- gf's pivot: walk. -/
namespace Go.Proofs.YtfpofcfoeajkiaaGreat
open Go.RowKit
set_option linter.unusedVariables false
theorem u8_ne (a : UInt8) (h : a ≠ 0) : ((a.toNat : Int) != 0) = true := by
  rw [bne_iff_ne]; intro e; apply h; apply UInt8.toNat_inj.1; show a.toNat = 0; omega
theorem u8_eq (a : UInt8) (h : a = 0) : ((a.toNat : Int) != 0) = false := by subst h; rfl
set_option maxRecDepth 20000 in
set_option maxHeartbeats 4000000 in
theorem pivot_any (w : World) (B o n W cap c : Nat) (G C : Nat → Nat) (R : Rw) (h : Sol w B o n W G C R) (hc : c < n) (hcW : c < W) (hn : n ≤ 1000000) :
    Calls Tryz.prog 93 #[.slice (some ⟨o, 0, none⟩) n cap, .int .i64 c] w fun e w' => (pvt R c n = none ∧ e = .returned (.bool false) ∧ w' = w) ∨
      ∃ p, pvt R c n = some p ∧ e = .returned (.bool true) ∧ Sol w' B o n W (swN G c p) (swN C c p) (sw R c p) ∧ w.grownBy w' (some o) := by
  have HS := Lib.hid h; clear h
  have hnI : n ≤ 9223372036854775807 := by omega
  go_enter Tryz.func93, Tryz.ntmps93
  go_wp2_with fail
  go_loopw [5] (fun i wr => ∃ j : Nat, c ≤ j ∧ j ≤ n ∧ i = .int .i64 j ∧ Hid (wr = w) ∧ Hid (∀ i, c ≤ i → i < j → R i c = 0)) (fun i _ => n - (intOf i).toNat)
  case atStart => exact ⟨c, Nat.le_refl _, by omega, rfl, rfl, fun i h1 h2 => absurd h1 (by omega)⟩
  case round =>
    obtain ⟨j, hcj, hj, rfl, HE, HZ⟩ := hrel
    have hE := HE.out
    subst hE
    by_cases hlt : j < n
    · have hlt' : (j : Int) < (n : Int) := by omega
      have hcW' : (c : Int) < (W : Int) := by omega
      have hcn' : (c : Int) < (n : Int) := by omega
      have e1 : wr.cell? ⟨o, j, none⟩ = some (.slice (some ⟨G j, 0, none⟩) W (C j)) := HS.out.slot j hlt
      have e2 : wr.cell? ⟨G j, c, none⟩ = some (.int .u8 (R j c).toNat) := (HS.out.row j hlt).cell c hcW
      by_cases hr : R j c = 0
      · have hd := u8_eq _ hr
        have HZ2 : Hid (∀ i, c ≤ i → i < j + 1 → R i c = 0) := fun i h1 h2 => by
          by_cases e : i = j
          · rw [e]; exact hr
          · exact HZ.out i h1 (by omega)
        generalize R j c = v at *
        clear hr
        go_wp2_with fail
        go_roundw
        case rel => exact ⟨j + 1, by omega, by omega, by go_num, by first | exact trivial | exact rfl, HZ2⟩
        case measure => simp [intOf]; omega
      · have hd := u8_ne _ hr
        have HP : Hid (pvt R c n = some j) := pvt_of hcj hlt hr HZ.out
        have HS2 := Lib.hid (sol_swap HS.out c j hc hlt)
        have e3 : wr.cell? ⟨o, c, none⟩ = some (.slice (some ⟨G c, 0, none⟩) W (C c)) := HS.out.slot c hc
        have f1 : wr.frozen? ⟨o, j, none⟩ = false := HS.out.free j hlt
        have f3 : wr.frozen? ⟨o, c, none⟩ = false := HS.out.free c hc
        have e4 : ((wr.setCell ⟨o, c, none⟩ (.slice (some ⟨G j, 0, none⟩) W (C j))).cell? ⟨o, j, none⟩).isSome = true := by
          by_cases e : c = j
          · subst e; rw [World.cell?_setCell_same _ _ _ e1]; rfl
          · rw [World.cell?_setCell_other _ _ _ _ (by intro e2; injection e2 with _ e2; exact e e2), e1]; rfl
        obtain ⟨x4, hx4⟩ := Option.isSome_iff_exists.1 e4
        have HG : Hid (wr.grownBy ((wr.setCell ⟨o, c, none⟩ (slV (G j) W (C j))).setCell ⟨o, j, none⟩ (slV (G c) W (C c))) (some o)) := grown_trans (grown_set _ ⟨o, c, none⟩ _) (grown_set _ ⟨o, j, none⟩ _)
        generalize R j c = v at *
        clear hr HZ e4
        go_wp2_with fail
        go_region
        go_wp2_with fail
        go_ret
        exact .inr ⟨j, HP.out, rfl, HS2.out.drew, grown_drewG HG.out⟩
    · obtain rfl : j = n := by omega
      have HP : Hid (pvt R c j = none) := pvt_no HZ.out
      go_wp2_with fail
      go_ret
      exact .inl ⟨HP.out, rfl, rfl⟩
end Go.Proofs.YtfpofcfoeajkiaaGreat
/- gf's wipe: walk. -/
namespace Go.Proofs.YtfpofcfoeajkiaaGreat
open Go.RowKit
set_option linter.unusedVariables false
theorem uinv_any (a : UInt8) (w : World) : Calls Tryz.prog 110 #[.int .u8 (a.toNat : Int)] w fun e w' => e = .returned (.int .u8 ((ui a).toNat : Int)) ∧ w = w' := by
  rw [ui_nat]; exact inverse_any a.toNat a.toNat_lt w
def scP (r : Nat → UInt8) (f : UInt8) (k q : Nat) : UInt8 := if q < k then um (r q) f else r q
theorem scP_step (r : Nat → UInt8) (f : UInt8) (k : Nat) : updG (scP r f k) k (um (r k) f) = scP r f (k + 1) := by
  funext q
  unfold updG scP
  by_cases e : q = k
  · subst e; rw [if_pos rfl, if_pos (by omega)]
  · rw [if_neg e]
    by_cases h : q < k
    · rw [if_pos h, if_pos (by omega)]
    · rw [if_neg h, if_neg (by omega)]
/-- wiped up to row i -/
def wpP (S : Rw) (c i : Nat) : Rw := fun q k => if q < i then wp S c q k else S q k
theorem wpP_c (S : Rw) (c j : Nat) : wpP S c j c = S c := by
  funext q; unfold wpP wp; split <;> simp
theorem wpP_self (S : Rw) (c j : Nat) : wpP S c j j = S j := by
  funext q; unfold wpP; rw [if_neg (by omega)]
set_option maxRecDepth 20000 in
set_option maxHeartbeats 4000000 in
theorem wipe_any (w : World) (B o n W cap c : Nat) (G C : Nat → Nat) (R : Rw) (h : Sol w B o n W G C R) (hc : c < n) (hcW : c < W) (hn : n ≤ 1000000) (hW : W ≤ 1000000) (hB : B ≤ w.heap.size) :
    Calls Tryz.prog 94 #[.slice (some ⟨o, 0, none⟩) n cap, .int .i64 c] w fun e w' => e = .returned (.tuple #[]) ∧ Sol w' B o n W G C (wp (sc R c (ui (R c c))) c) ∧ Below B w w' := by
  have HS := Lib.hid h
  have e1 : w.cell? ⟨o, c, none⟩ = some (.slice (some ⟨G c, 0, none⟩) W (C c)) := h.slot c hc
  have e2 : w.cell? ⟨G c, c, none⟩ = some (.int .u8 (R c c).toNat) := (h.row c hc).cell c hcW
  have HI := Lib.hid (uinv_any (R c c))
  have hBG := h.base c hc
  clear h
  generalize ui (R c c) = f at *
  generalize R c c = rcc at *
  have hnI : n ≤ 9223372036854775807 := by omega
  have hWI : W ≤ 9223372036854775807 := by omega
  have hcW' : (c : Int) < (W : Int) := by omega
  have hcn' : (c : Int) < (n : Int) := by omega
  go_enter Tryz.func94, Tryz.ntmps94
  go_wp2_with fail
  refine (HI.out _).mono ?_
  rintro e w' ⟨rfl, rfl⟩
  go_wp2_with fail
  clear e2 HI
  go_loopw [22] (fun i wr => ∃ k : Nat, k ≤ W ∧ i = .int .i64 k ∧ Hid (Sol wr B o n W G C (fun q => if q = c then scP (R c) f k else R q)) ∧ Hid (Below B w wr)) (fun i _ => W - (intOf i).toNat)
  case atStart => exact ⟨0, Nat.zero_le _, rfl, HS.out.congr fun i hi k hk => by
      by_cases e : i = c
      · subst e; rw [if_pos rfl]; unfold scP; rw [if_neg (by omega)]
      · rw [if_neg e], Below.refl _ _⟩
  case round =>
    obtain ⟨k, hk, rfl, HK, HB⟩ := hrel
    by_cases hlt : k < W
    · have hlt' : (k : Int) < (W : Int) := by omega
      have hrow := HK.out.row c hc
      simp only [if_pos] at hrow
      have e3 : wr.cell? ⟨G c, k, none⟩ = some (.int .u8 (R c k).toNat) := by
        have := hrow.cell k hlt; unfold scP at this; rwa [if_neg (by omega)] at this
      have e4 : wr.drew.cell? ⟨o, c, none⟩ = some (.slice (some ⟨G c, 0, none⟩) W (C c)) := HK.out.slot c hc
      have f3 : wr.drew.frozen? ⟨G c, k, none⟩ = false := hrow.free k hlt
      have e5 : wr.drew.cell? ⟨G c, k, none⟩ = some (.int .u8 (R c k).toNat) := e3
      have HM := Lib.hid (umul_any (R c k) f)
      have hN : FRow (wr.drew.setCell ⟨G c, k, none⟩ (.int .u8 (um (R c k) f).toNat)) (G c) W (scP (R c) f (k + 1)) := by
        have := hrow.drew.set k (um (R c k) f) hlt
        rwa [scP_step] at this
      have HN : Hid (Sol (wr.drew.setCell ⟨G c, k, none⟩ (.int .u8 (um (R c k) f).toNat)) B o n W G C (fun q => if q = c then scP (R c) f (k + 1) else R q)) :=
        (HK.out.drew.one c hc _ (grown_set _ ⟨G c, k, none⟩ _) hN).congr fun i hi q hq => by
          by_cases e : i = c
          · subst e; simp
          · simp [e]
      have HN2 : Hid (Below B w (wr.drew.setCell ⟨G c, k, none⟩ (.int .u8 (um (R c k) f).toNat))) := HB.out.drew.setCell hBG _
      generalize um (R c k) f = v at *
      generalize R c k = y at *
      clear hN hrow HK HB
      go_wp2_with fail
      refine wp_region_still_tail 9 (by kernel_rfl) (by kernel_rfl) ?_
      simp only [List.take_succ_cons, List.take_zero, List.drop_succ_cons, List.drop_zero]
      change wpStill _ _ wr.drew _ _ _
      obtain ⟨wz, hwz⟩ : ∃ wz, wz = wr.drew := ⟨_, rfl⟩
      rw [← hwz] at e4 e5 f3 HN HN2 ⊢
      have HZ := Lib.hid hwz; clear hwz
      iterate 7 still_step
      still_call (HM.out _)
      still_step
      refine wpStill_nil ?_
      change wpList _ _ _ _ _ wr.drew
      rw [← HZ.out]
      go_wp2_with fail
      go_roundw
      case rel => exact ⟨k + 1, by omega, by go_num, HN, HN2⟩
      case measure => simp [intOf]; omega
    · obtain rfl : k = W := by omega
      obtain ⟨S, hS⟩ : ∃ S : Rw, S = sc R c f := ⟨_, rfl⟩
      have HS1 : Hid (Sol wr B o n k G C S) := HK.out.congr fun i hi q hq => by
        rw [hS]; unfold sc
        by_cases e : i = c
        · subst e; rw [if_pos rfl, if_pos rfl]; unfold scP; rw [if_pos hq]
        · rw [if_neg e, if_neg e]
      have HSe := Lib.hid hS
      have hBw : B ≤ wr.heap.size := Nat.le_trans hB HB.out.size
      clear hS HK HS e1
      obtain ⟨wo, hwo⟩ : ∃ wo, wo = wr := ⟨_, rfl⟩
      subst hwo
      go_wp2_with fail
      go_loopw [39] (fun i wr => ∃ j : Nat, j ≤ n ∧ i = .int .i64 j ∧ Hid (Sol wr B o n k G C (wpP S c j)) ∧ Hid (Below B wo wr)) (fun i _ => n - (intOf i).toNat)
      case atStart => exact ⟨0, Nat.zero_le _, rfl, HS1.out.congr fun i hi q hq => by unfold wpP; rw [if_neg (by omega)], Below.refl _ _⟩
      case round =>
        obtain ⟨j, hj, rfl, HK, HB2⟩ := hrel
        by_cases hlt2 : j < n
        · have hlt2' : (j : Int) < (n : Int) := by omega
          have e3 : wr.cell? ⟨o, j, none⟩ = some (.slice (some ⟨G j, 0, none⟩) k (C j)) := HK.out.slot j hlt2
          by_cases hjc : j = c
          · have hd : ((j : Int) != (c : Int)) = false := by rw [bne_eq_false_iff_eq]; omega
            have HK2 : Hid (Sol wr B o n k G C (wpP S c (j + 1))) := HK.out.congr fun i hi q hq => by
              unfold wpP
              by_cases e : i = j
              · rw [if_neg (by omega), if_pos (by omega)]; unfold wp; rw [if_pos (by omega), e, hjc]
              · by_cases e2 : i < j
                · rw [if_pos e2, if_pos (by omega)]
                · rw [if_neg e2, if_neg (by omega)]
            clear hjc
            go_wp2_with fail
            go_roundw
            case rel => exact ⟨j + 1, by omega, by go_num, HK2, HB2⟩
            case measure => simp [intOf]; omega
          · have hd : ((j : Int) != (c : Int)) = true := by rw [bne_iff_ne]; omega
            have e4 : wr.drew.cell? ⟨o, c, none⟩ = some (.slice (some ⟨G c, 0, none⟩) k (C c)) := HK.out.slot c hc
            have hrj := (HK.out.row j hlt2).drew
            have hrc := (HK.out.row c hc).drew
            have e5 : wr.drew.cell? ⟨G j, c, none⟩ = some (.int .u8 (S j c).toNat) := by
              have := hrj.cell c hcW; unfold wpP at this; rwa [if_neg (by omega)] at this
            have hadd := add_any (G j) k (C j) (G c) k (C c) (S j c) (wpP S c j c) (wpP S c j j) wr.drew hrj hrc (fun e => hjc (HK.out.inj j c hlt2 hc e)) (Nat.le_refl _) (by omega)
            have HA := Lib.hid hadd; clear hadd hrj hrc
            have HKd : Hid (Sol wr.drew B o n k G C (wpP S c j)) := HK.out.drew
            have HBd : Hid (Below B wo wr.drew) := HB2.out.drew
            have hBj := HK.out.base j hlt2
            have hBd : B ≤ wr.drew.heap.size := Nat.le_trans hBw HB2.out.size
            have HF : Hid (∀ i, i < n → ∀ q, q < k → (if i = j then adF (S j c) (wpP S c j c) (wpP S c j j) k else wpP S c j i) q = wpP S c (j + 1) i q) := fun i hi q hq => by
              by_cases e : i = j
              · subst e
                simp only [if_true]
                rw [wpP_c, wpP_self]
                unfold adF wpP wp
                rw [if_pos hq, if_pos (by omega), if_neg hjc]
              · rw [if_neg e]
                unfold wpP
                by_cases e2 : i < j
                · rw [if_pos e2, if_pos (by omega)]
                · rw [if_neg e2, if_neg (by omega)]
            generalize S j c = y at *
            clear HK HB2
            go_wp2_with fail
            refine wp_region_still_tail 9 (by kernel_rfl) (by kernel_rfl) ?_
            simp only [List.take_succ_cons, List.take_zero, List.drop_succ_cons, List.drop_zero]
            change wpStill _ _ wr.drew _ _ _
            obtain ⟨wz, hwz⟩ : ∃ wz, wz = wr.drew := ⟨_, rfl⟩
            rw [← hwz] at e4 e5 HA HKd HBd hBd ⊢
            have HZ := Lib.hid hwz; clear hwz
            iterate 9 still_step
            refine wpStill_nil ?_
            change wpList _ _ _ _ _ wr.drew
            rw [← HZ.out]
            go_wp2_with fail
            go_at_call 90
            refine HA.out.mono ?_
            rintro e w6 ⟨rfl, hf6, hg6⟩
            have HK6 : Hid (Sol w6 B o n k G C (wpP S c (j + 1))) := (HKd.out.one j hlt2 _ hg6 hf6).congr HF.out
            have HB6 : Hid (Below B wo w6) := HBd.out.grown hg6 hBd (fun q e => by injection e with e; omega)
            clear hf6 hg6
            go_wp2_with fail
            go_roundw
            case rel => exact ⟨j + 1, by omega, by go_num, HK6, HB6⟩
            case measure => simp [intOf]; omega
        · obtain rfl : j = n := by omega
          go_wp2_with fail
          go_end0
          exact ⟨rfl, HK.out.congr fun i hi q hq => by (unfold wpP; rw [if_pos hi, HSe.out]), HB.out.trans HB2.out⟩
end Go.Proofs.YtfpofcfoeajkiaaGreat
/- gf.Invert: walk. -/
namespace Go.Proofs.YtfpofcfoeajkiaaGreat
open Go.RowKit
set_option linter.unusedVariables false
def sqOk (m : List ByteArray) : Bool := decide (m.length ≠ 0 ∧ widthN m = m.length)
def rowsL (n : Nat) (N : Rw) : List ByteArray := (List.range n).map fun i => bytesF n (N i)
def rowsO (n : Nat) : Option Rw → List ByteArray
  | some N => rowsL n N
  | none => []
def invOk (m : List ByteArray) : Bool := sqOk m && (inv m.length (mt m)).isSome
def invL (m : List ByteArray) : List ByteArray := if sqOk m = true then (rowsO m.length (inv m.length (mt m))) else []
theorem el_none {n : Nat} {R : Rw} {c : Nat} (h : el n R c = none) : ∀ k, el n R (c + k) = none
  | 0 => h
  | k + 1 => by
    show el n R ((c + k) + 1) = none
    unfold el; rw [el_none h k]
theorem sqOk_parts {m : List ByteArray} (h : sqOk m = true) : 0 < m.length ∧ m.length ≤ 16 ∧ ∀ i (hi : i < m.length), m[i].size = m.length := by
  unfold sqOk at h
  rw [decide_eq_true_iff] at h
  obtain ⟨h1, h2⟩ := h
  have hw : widthN m ≠ 0 := by rw [h2]; exact h1
  obtain ⟨a, b, c, d⟩ := widthN_ne hw
  exact ⟨a, b, fun i hi => (evenL_get c i hi).trans (d.symm.trans h2)⟩
set_option maxRecDepth 20000 in
set_option maxHeartbeats 4000000 in
theorem invert_ok (w : World) (va : Value) (m : List ByteArray) (ha : StrsB w va m) (hsq : sqOk m = true) :
    Calls Tryz.prog 68 #[va] w fun e w' => ∃ v, e = .returned (.tuple #[v, .bool (inv m.length (mt m)).isSome]) ∧ StrsN w' v (rowsO m.length (inv m.length (mt m))) ∧ Below w.heap.size w w' := by
  obtain ⟨h0, h16, hrows⟩ := sqOk_parts hsq
  have HWD := Lib.hid (width_any w va m ha)
  have HBG := Lib.hid (begun_any w va m ha h0 h16 hrows)
  have hw : widthN m = m.length := by unfold sqOk at hsq; rw [decide_eq_true_iff] at hsq; exact hsq.2
  rw [hw] at HWD
  obtain ⟨A, cm, rfl, h1, h2⟩ := ha.len
  clear ha hrows hw hsq h1 h2
  obtain ⟨n, hn⟩ : ∃ n, m.length = n := ⟨_, rfl⟩
  rw [hn] at h0 h16 HWD HBG ⊢
  obtain ⟨M0, hM⟩ : ∃ M0, mt m = M0 := ⟨_, rfl⟩
  rw [hM] at HBG ⊢
  clear hM hn
  have hnI : n ≤ 9223372036854775807 := by omega
  have hd0 : ((n : Int) == 0) = false := by rw [beq_eq_false_iff_ne]; omega
  have hd1 : ((n : Int) != (n : Int)) = false := by rw [bne_eq_false_iff_eq]
  go_enter Tryz.func68, Tryz.ntmps68
  go_wp2
  go_step3
  go_wp2_with fail
  refine HWD.out.mono ?_
  rintro e w' ⟨rfl, rfl⟩
  go_wp2_with fail
  refine HBG.out.mono ?_
  rintro e w1 ⟨o, cap, G0, C0, rfl, hc1, hc2, hS, hB⟩
  have HS := Lib.hid hS; clear hS
  have HB := Lib.hid hB; clear hB
  clear HWD HBG hd0 hd1
  go_wp2_with fail
  go_step3
  go_wp2_with fail
  go_loopw [6, 24] (fun k i wr => ∃ (c : Nat) (G C : Nat → Nat) (R : Rw), c ≤ n ∧ i = .int .i64 c ∧ k = .bool true ∧ Hid (el n (beg n M0) c = some R) ∧ Hid (Sol wr w.heap.size o n (2 * n) G C R) ∧ Hid (Below w.heap.size w wr)) (fun _ i _ => n - (intOf i).toNat)
  case atStart => exact ⟨0, G0, C0, beg n M0, Nat.zero_le _, rfl, rfl, rfl, HS.out, HB.out⟩
  case round =>
    obtain ⟨c, G, C, R, hc, rfl, rfl, HE, HK, HBr⟩ := hrel
    clear HS HB
    by_cases hlt : c < n
    · have hlt' : (c : Int) < (n : Int) := by omega
      have HP := Lib.hid (pivot_any wr w.heap.size o n (2 * n) cap c G C R HK.out hlt (by omega) (by omega))
      go_wp2_with fail
      refine HP.out.mono ?_
      rintro e w2 (⟨hp, rfl, rfl⟩ | ⟨p, hp, rfl, hS2, hg2⟩)
      · have HI : Hid (inv n M0 = none) := by
          have h1 : el n (beg n M0) (c + 1) = none := by
            have := HE.out
            unfold el; rw [this]; simp only; rw [hp]
          have h2 := el_none h1 (n - (c + 1))
          rw [show c + 1 + (n - (c + 1)) = n by omega] at h2
          unfold Hid inv; rw [h2]; rfl
        clear hp HP HE HK
        go_wp2_with fail
        ((try rw [Exit.noGoto_ret]); go_ret2)
        exact ⟨_, by rw [HI.out]; rfl, by rw [HI.out]; exact strsN_nil _, HBr.out⟩
      · obtain ⟨q1, q2, q3, _⟩ := pvt_some hp
        have HE2 : Hid (el n (beg n M0) (c + 1) = some (stp R c p)) := by
          have := HE.out
          unfold Hid el; rw [this]; simp only; rw [hp]
        have hs2 := hg2.size
        have hs0 := HBr.out.size
        have HB2 : Hid (Below w.heap.size w w2) := HBr.out.grown hg2 hs0 (fun k e => by injection e with e; rw [← e]; exact HK.out.oB)
        have HWP := Lib.hid (wipe_any w2 w.heap.size o n (2 * n) cap c (swN G c p) (swN C c p) (sw R c p) hS2 hlt (by omega) (by omega) (by omega) (by omega))
        clear hS2 hg2 HP hp HE HK q1 q2 q3
        go_wp2_with fail
        refine HWP.out.mono ?_
        rintro e w3 ⟨rfl, hS3, hB3⟩
        have HK3 : Hid (Sol w3 w.heap.size o n (2 * n) (swN G c p) (swN C c p) (stp R c p)) := hS3
        have HB3 : Hid (Below w.heap.size w w3) := HB2.out.trans hB3
        clear hS3 hB3 HWP
        go_wp2_with fail
        go_roundw
        case rel => exact ⟨c + 1, _, _, _, by omega, by go_num, rfl, HE2, HK3, HB3⟩
        case measure => simp [intOf]; omega
    · obtain rfl : c = n := by omega
      have HI : Hid (inv c M0 = some fun i k => R i (c + k)) := by unfold Hid inv; rw [HE.out]; rfl
      obtain ⟨wo, hwo⟩ : ∃ wo, wo = wr := ⟨_, rfl⟩
      subst hwo
      obtain ⟨W, hW⟩ : ∃ W, W = 2 * c := ⟨_, rfl⟩
      have HK2 : Hid (Sol wo w.heap.size o c W G C R) := by rw [hW]; exact HK.out
      have hcW : c ≤ W := by omega
      have hWc : W - c = c := by omega
      clear HE HK hW
      go_wp2_with fail
      go_loopw [8, 40] (fun v i wr => ∃ j : Nat, j ≤ c ∧ i = .int .i64 j ∧ Hid (wr.ownsRow wo.heap.size 9 1 v ((List.range j).map fun i => bytesF c (fun k => R i (c + k))).length (((List.range j).map fun i => bytesF c (fun k => R i (c + k))).map .string)) ∧ Hid (Below wo.heap.size wo wr)) (fun _ i _ => c - (intOf i).toNat)
      case atStart => exact ⟨0, Nat.zero_le _, rfl, World.ownsRow_nil _ _ _ _, Below.refl _ _⟩
      case round =>
        obtain ⟨j, hj, rfl, HO, HBq⟩ := hrel
        by_cases hjl : j < c
        · have hjl' : (j : Int) < (c : Int) := by omega
          have HKr := HK2.out.below HBq.out
          have e1 : wr.cell? ⟨o, j, none⟩ = some (.slice (some ⟨G j, 0, none⟩) W (C j)) := HKr.slot j hjl
          have hcap := HKr.cap j hjl
          have hcs := conv_str (HKr.row j hjl) c (W - c) (C j - c) (by omega)
          have HE : Hid (bytesF (W - c) (fun k => R j (c + k)) = bytesF c (fun k => R j (c + k))) := by rw [hWc]; exact rfl
          rw [HE.out, hWc] at hcs
          have hi3 : ((List.range j).map fun i => bytesF c (fun k => R i (c + k))).length + 1 ≤ 1000000000 := by simp; omega
          have HR : Hid (((List.range j).map fun i => bytesF c (fun k => R i (c + k))) ++ [bytesF c (fun k => R j (c + k))] = (List.range (j + 1)).map fun i => bytesF c (fun k => R i (c + k))) := by unfold Hid; rw [List.range_succ, List.map_append]; rfl
          have hown := HO.out
          have hq1 := HBq.out.size
          generalize bytesF c (fun k => R j (c + k)) = z at *
          generalize ((List.range j).map fun i => bytesF c (fun k => R i (c + k))) = out at *
          have hcapI : C j ≤ 9223372036854775807 := by have := hcap.2; unfold maxLen at this; omega
          have hcapc : c ≤ C j := by omega
          have hne1 : ¬ C j = c := by omega
          have hne2 : ¬ c = C j := by omega
          have hne3 : ¬ C j - c = 0 := by omega
          have hne4 : ¬ C j ≤ c := by omega
          generalize C j = cj at *
          generalize G j = gj at *
          clear HKr HE HO hcap
          go_wp2_with (at_builtin; refine wpList_push_str rfl _ _ 37 rfl Tryz.underlying37 wo.heap.size _ out rfl (hown.alloc _) ⟨wr.heap.size, 0, none⟩ _ z rfl (by simp) hi3 (by simp; omega) ?_)
          intro v' w4 hown4 hg4
          have HO4 : Hid (w4.ownsRow wo.heap.size 9 1 v' ((List.range (j + 1)).map fun i => bytesF c (fun k => R i (c + k))).length (((List.range (j + 1)).map fun i => bytesF c (fun k => R i (c + k))).map .string)) := by unfold Hid; rw [← HR.out]; simpa using hown4
          have HB4 : Hid (Below wo.heap.size wo w4) := (HBq.out.alloc hq1 _).grown hg4 (by simp; omega) (fun k hk => (hown.lt k hk).1)
          clear hown4 hg4 hcs
          go_wp2_with fail
          go_roundw
          case rel => exact ⟨j + 1, by omega, by go_num, HO4, HB4⟩
          case measure => simp [intOf]; omega
        · obtain rfl : j = c := by omega
          go_wp2_with fail
          ((try rw [Exit.noGoto_ret]); go_ret2)
          exact ⟨_, by rw [HI.out]; rfl, by rw [HI.out]; exact StrsN.of_owns HO.out, HBr.out.trans (HBq.out.mono HBr.out.size)⟩
theorem sqOk_no {m : List ByteArray} (h : sqOk m = false) : m.length = 0 ∨ m.length ≠ 0 ∧ widthN m ≠ m.length := by
  unfold sqOk at h
  rw [decide_eq_false_iff_not] at h
  by_cases h0 : m.length = 0
  · exact .inl h0
  · exact .inr ⟨h0, fun e => h ⟨h0, e⟩⟩
set_option maxRecDepth 20000 in
set_option maxHeartbeats 2000000 in
theorem invert_no (w : World) (va : Value) (m : List ByteArray) (ha : StrsB w va m) (hsq : sqOk m = false) :
    Calls Tryz.prog 68 #[va] w fun e w' => e = .returned (.tuple #[.slice none 0 0, .bool false]) ∧ w = w' := by
  have HWD := Lib.hid (width_any w va m ha)
  obtain ⟨A, cm, rfl, h1, h2⟩ := ha.len
  clear ha h1 h2
  rcases sqOk_no hsq with h0 | ⟨h0, h1⟩
  · have hd0 : ((m.length : Int) == 0) = true := by rw [beq_iff_eq]; omega
    clear h0 hsq
    go_enter Tryz.func68, Tryz.ntmps68
    go_wp2
    go_step3
    go_wp2_with fail
    ((try rw [Exit.noGoto_ret]); go_ret2)
    exact ⟨rfl, rfl⟩
  · have hd0 : ((m.length : Int) == 0) = false := by rw [beq_eq_false_iff_ne]; omega
    have hd1 : ((widthN m : Int) != (m.length : Int)) = true := by rw [bne_iff_ne]; omega
    generalize widthN m = q at *
    clear h0 hsq h1
    go_enter Tryz.func68, Tryz.ntmps68
    go_wp2
    go_step3
    go_wp2_with fail
    refine HWD.out.mono ?_
    rintro e w' ⟨rfl, rfl⟩
    go_wp2_with fail
    ((try rw [Exit.noGoto_ret]); go_ret2)
    exact ⟨rfl, rfl⟩
theorem minvert_any (w : World) (va : Value) (m : List ByteArray) (ha : StrsB w va m) :
    Calls Tryz.prog 68 #[va] w fun e w' => ∃ v, e = .returned (.tuple #[v, .bool (invOk m)]) ∧ StrsN w' v (invL m) ∧ Below w.heap.size w w' := by
  unfold invOk invL
  cases hok : sqOk m with
  | true =>
    rw [if_pos rfl, Bool.true_and]
    exact invert_ok w va m ha hok
  | false =>
    refine (invert_no w va m ha hok).mono ?_
    rintro e w' ⟨rfl, rfl⟩
    exact ⟨_, rfl, by rw [if_neg (by simp)]; exact strsN_nil w, Below.refl _ _⟩
end Go.Proofs.YtfpofcfoeajkiaaGreat
