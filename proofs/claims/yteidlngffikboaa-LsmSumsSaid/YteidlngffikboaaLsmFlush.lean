/- Walks: Flush of chapter 38, of the document and of the program (printed by gen-lsm-flush.py). -/
import Derived.Test.YteidlngffikboaaLsmSum
import Derived.Test.YteidlngffikboaaLsmPCome
import Derived.Test.YteidlngffikboaaLsmCome
namespace Go.Proofs.Yteidlngffikboaa
open Go.RowKit
set_option linter.unusedVariables false
set_option linter.unusedSimpArgs false
theorem bodyPost_cell1 {P : Program} {fn : Func} {R : Ending → World → Prop} {a : Act} {w : World} {V : Value} {a1 : Tmp} {t1 : TypeId} {ad : Addr} (h : fn.results = #[.cell a1 t1]) (hp : a.tmps.getD a1 undef = .pointer (some ad)) (hl : (loadVar t1 ad).run P w = .ok V w) (hd : a.defers = [])
    (hR : R (.returned V) w) : bodyPost P fn R .ret a w :=
  ⟨hd, _, by simp only [results, h, List.mapM_toArray, List.mapM_cons, List.mapM_nil, hp, asAddr]; simp [hl], hR⟩
theorem bodyPost_cellE {P : Program} {fn : Func} {R : Ending → World → Prop} {a : Act} {w : World} {V : Value} {a1 u : Tmp} {t1 : TypeId} {ad : Addr} (h : fn.results = #[.cell a1 t1, .tmp u]) (hp : a.tmps.getD a1 undef = .pointer (some ad)) (hl : (loadVar t1 ad).run P w = .ok V w) (hd : a.defers = [])
    (hR : R (.returned (.tuple #[V, a.tmps.getD u undef])) w) : bodyPost P fn R .ret a w :=
  ⟨hd, _, by simp only [results, h, List.mapM_toArray, List.mapM_cons, List.mapM_nil, hp, asAddr]; simp [hl], hR⟩
/-- a row lies in no block of slices: such a block may be written -/
theorem CntN.off {w W' : World} {v : Value} {l : List Cnt} {B : Nat} (h : CntN w v l) (hc : ∀ o x, w.cell? ⟨B, o, none⟩ = some x → ∃ A n c, x = .slice A n c) (hk : ∀ k, k ≠ B → W'.heap[k]? = w.heap[k]?) (hs : w.heap.size ≤ W'.heap.size) : CntN W' v l := by
  obtain ⟨⟨A, c, h1, h2, h3, h4⟩, h5⟩ := h
  refine ⟨⟨A, c, h1, h2, h3, fun hl => ?_⟩, h5⟩
  obtain ⟨b, off, e1, e2, e3⟩ := h4 hl
  have hne : b ≠ B := fun e => by
    subst e
    obtain ⟨_, _, _, hx⟩ := hc _ _ (e3 0 hl).1
    cases hx
  exact ⟨b, off, e1, Nat.lt_of_lt_of_le e2 hs, fun i hi => ⟨(World.cell?_of_block (hk b hne)).trans (e3 i hi).1, (World.cell?_of_block (hk b hne)).trans (e3 i hi).2⟩⟩
theorem RunsN.off {w W' : World} {v : Value} {l : List (List Cnt)} {B : Nat} (h : RunsN w v l) (hne : ∀ r ∈ l, r ≠ []) (hc : ∀ o x, w.cell? ⟨B, o, none⟩ = some x → x = .slice none 0 0) (hk : ∀ k, k ≠ B → W'.heap[k]? = w.heap[k]?) (hs : w.heap.size ≤ W'.heap.size) : RunsN W' v l := by
  obtain ⟨⟨A, c, h1, h2, h3, h4⟩, h5⟩ := h
  refine ⟨⟨A, c, h1, h2, h3, fun hl => ?_⟩, h5⟩
  obtain ⟨b, off, e1, e2, e3⟩ := h4 hl
  have hnb : b ≠ B := fun e => by
    subst e
    obtain ⟨u, k1, k2⟩ := e3 0 hl
    have hu := hc _ _ k1
    obtain ⟨A', c', e', _⟩ := k2.1.shape
    rw [hu] at e'
    injection e' with _ e' _
    exact hne _ (List.getElem_mem hl) (List.length_eq_zero_iff.1 e'.symm)
  refine ⟨b, off, e1, Nat.lt_of_lt_of_le e2 hs, fun i hi => ?_⟩
  obtain ⟨u, k1, k2⟩ := e3 i hi
  exact ⟨u, (World.cell?_of_block (hk b hnb)).trans k1, k2.off (fun o x hx => ⟨none, 0, 0, hc o x hx⟩) hk hs⟩
/-- the block of a result: two slices, both nothing -/
def NilBox (B : Nat) (w : World) : Prop := w.heap[B]? = some (.cells #[.slice none 0 0, .slice none 0 0] 25)
theorem NilBox.cells {B : Nat} {w : World} (h : NilBox B w) (o : Nat) (x : Value) (hx : w.cell? ⟨B, o, none⟩ = some x) : x = .slice none 0 0 := by
  unfold World.cell? at hx
  rw [show w.heap[B]? = _ from h] at hx
  match o, hx with
  | 0, hx => simp at hx; exact hx.symm
  | 1, hx => simp at hx; exact hx.symm
  | o + 2, hx => simp at hx
theorem NilBox.c0 {B : Nat} {w : World} (h : NilBox B w) : w.cell? ⟨B, 0, none⟩ = some (.slice none 0 0) := by unfold World.cell?; rw [show w.heap[B]? = _ from h]; rfl
theorem NilBox.c1 {B : Nat} {w : World} (h : NilBox B w) : w.cell? ⟨B, 1, none⟩ = some (.slice none 0 0) := by unfold World.cell?; rw [show w.heap[B]? = _ from h]; rfl
theorem NilBox.f {B : Nat} {w : World} (h : NilBox B w) (o : Nat) : w.frozen? ⟨B, o, none⟩ = false := by simp [World.frozen?, show w.heap[B]? = _ from h]
/-- the counts that came, boxed, and a box for what is told -/
structure TwoB (w : World) (vm vr : Value) (W : World) : Prop where
  a : W.heap[w.heap.size]? = some (.cells #[vm, vr] 25)
  b : NilBox (w.heap.size + 1) W
  low : Below w.heap.size w W
theorem TwoB.c0 {w : World} {vm vr : Value} {W : World} (h : TwoB w vm vr W) : W.cell? ⟨w.heap.size, 0, none⟩ = some vm := by unfold World.cell?; rw [h.a]; rfl
theorem TwoB.c1 {w : World} {vm vr : Value} {W : World} (h : TwoB w vm vr W) : W.cell? ⟨w.heap.size, 1, none⟩ = some vr := by unfold World.cell?; rw [h.a]; rfl
theorem TwoB.lt {w : World} {vm vr : Value} {W : World} (h : TwoB w vm vr W) : w.heap.size + 1 < W.heap.size := (Array.getElem?_eq_some_iff.1 h.b).1
theorem TwoB.below {w : World} {vm vr : Value} {W W' : World} (h : TwoB w vm vr W) (hb : Below W.heap.size W W') : TwoB w vm vr W' :=
  ⟨(hb.block _ (by have := h.lt; omega)).trans h.a, (hb.block _ h.lt).trans h.b, h.low.trans (hb.mono h.low.size)⟩
theorem twoB_new (w : World) (vm vr : Value) : TwoB w vm vr ((w.alloc (.cells #[vm, vr] 25)).alloc (.cells #[.slice none 0 0, .slice none 0 0] 25)) := by
  refine ⟨(Below.heap_alloc _ _ _ (by simp)).trans (World.alloc_heap_new w _), ?_, ((Below.refl _ _).alloc (Nat.le_refl _) _).alloc (by simp) _⟩
  have := World.alloc_heap_new (w.alloc (.cells #[vm, vr] 25)) (.cells #[.slice none 0 0, .slice none 0 0] 25)
  rwa [World.size_alloc] at this
theorem set2_keep (W : World) (B : Nat) (x y : Value) (k : Nat) (hk : k ≠ B) : ((W.setCell ⟨B, 0, none⟩ x).setCell ⟨B, 1, none⟩ y).heap[k]? = W.heap[k]? := by
  rw [Below.heap_setCell _ _ _ _ (by dsimp only; exact hk), Below.heap_setCell _ _ _ _ (by dsimp only; exact hk)]
theorem set2_size (W : World) (B : Nat) (x y : Value) : ((W.setCell ⟨B, 0, none⟩ x).setCell ⟨B, 1, none⟩ y).heap.size = W.heap.size := by
  rw [World.size_setCell, World.size_setCell]
theorem set2_below {w W : World} (h : Below w.heap.size w W) (x y : Value) : Below w.heap.size w ((W.setCell ⟨w.heap.size + 1, 0, none⟩ x).setCell ⟨w.heap.size + 1, 1, none⟩ y) :=
  (h.setCell (p := ⟨w.heap.size + 1, 0, none⟩) (by simp) _).setCell (p := ⟨w.heap.size + 1, 1, none⟩) (by simp) _
/-- of a struct's value: its second slice is the one that came, or lies from B on -/
def FreshS (B : Nat) (v v' : Value) : Prop := ∃ vm vr vm' vr', v = LsmV vm vr ∧ v' = LsmV vm' vr' ∧ (vr' = vr ∨ FreshV B vr')
theorem freshV_nil (B : Nat) (n c : Nat) : FreshV B (.slice none n c) := fun b off n' c' e => by cases e
abbrev CntS := List Cnt × List (List Cnt)
/-- counts as a struct's value, readable -/
def LsmN (w : World) (v : Value) (s : CntS) : Prop := ∃ vm vr, v = LsmV vm vr ∧ CntN w vm s.1 ∧ RunsN w vr s.2
theorem LsmN.below {w w' : World} {v : Value} {s : CntS} {B : Nat} (h : LsmN w v s) (hb : Below B w w') (hB : w.heap.size ≤ B) : LsmN w' v s := by
  obtain ⟨vm, vr, e, h1, h2⟩ := h
  exact ⟨vm, vr, e, h1.below hb hB, h2.below hb hB⟩
def okS (s : CntS) : Prop := okR s.1 ∧ okRuns s.2
def sizeS (s : CntS) : Nat := s.1.length + total s.2
def flushL (s : CntS) : CntS := if s.1 = [] ∨ 12 ≤ s.2.length then s else ([], comeP s.2 s.1)
set_option maxRecDepth 20000 in
set_option maxHeartbeats 2000000 in
theorem rflush_any (w : World) (v : Value) (s : CntS) (hs : LsmN w v s) (ok : okS s) (hl : sizeS s ≤ 1000000) (hn : s.2.length ≤ 1000) :
    Calls Try.prog 20 #[v] w fun e w' => ∃ v', e = .returned v' ∧ LsmN w' v' (flushL s) ∧ Below w.heap.size w w' := by
  obtain ⟨vm, vr, rfl, hm, hr⟩ := hs
  obtain ⟨m, rs⟩ := s
  dsimp only at hm hr hn
  obtain ⟨wE, hwE⟩ : ∃ wE, wE = (w.alloc (.cells #[vm, vr] 25)).alloc (.cells #[.slice none 0 0, .slice none 0 0] 25) := ⟨_, rfl⟩
  have HT : Hid (TwoB w vm vr wE) := by rw [hwE]; exact twoB_new w vm vr
  have HWE := Lib.hid hwE.symm
  have HSZ : Hid (wE.heap.size = w.heap.size + 2) := by rw [hwE]; unfold Hid; simp
  have HM := Lib.hid hm
  have HR := Lib.hid hr
  have HC := Lib.hid (rcome_any wE vr vm rs m (hr.below HT.out.low (Nat.le_refl _)) (hm.below HT.out.low (Nat.le_refl _)) (fun x hx => by rcases List.mem_cons.1 hx with rfl | hx; exact ok.1; exact (ok.2.1 x hx).2) hl hn)
  have HCO := Lib.hid (comeP_ok ok.2 ok.1)
  have x0 := HT.out.c0
  have x1 := HT.out.c1
  have n0 := HT.out.b.c0
  have n1 := HT.out.b.c1
  have nf0 := HT.out.b.f 0
  have nf1 := HT.out.b.f 1
  have hlt := HT.out.lt
  obtain ⟨A0, c0, rfl, z0⟩ := hm.1.shape
  obtain ⟨A, c, rfl, z1, z2⟩ := hr.shape
  clear hwE z0 hm hr z1 z2 ok hl
  unfold LsmV
  by_cases hem : m = []
  · have HE : Hid (flushL (m, rs) = (m, rs)) := by unfold Hid flushL; rw [if_pos (.inl hem)]
    subst hem
    go_enter Try.func20, Try.ntmps20
    go_wp2_with fail
    refine bodyPost_cell1 (V := .agg #[.slice A0 ([] : List Cnt).length c0, .slice A rs.length c]) rfl rfl ?_ rfl ?_
    · go_simp
    · rw [HE.out]
      have hb : Below w.heap.size w ((w.alloc (.cells #[.slice A0 ([] : List Cnt).length c0, .slice A rs.length c] 25)).alloc (.cells #[.slice A0 ([] : List Cnt).length c0, .slice A rs.length c] 25)) := ((Below.refl _ _).alloc (Nat.le_refl _) _).alloc (by simp) _
      exact ⟨_, rfl, ⟨_, _, rfl, HM.out.below hb (Nat.le_refl _), HR.out.below hb (Nat.le_refl _)⟩, hb⟩
  · have hml : 1 ≤ m.length := by
      rcases m with _ | ⟨z, m⟩
      · exact absurd rfl hem
      · simp
    have hmz : ((m.length : Int) == 0) = false := by rw [beq_eq_false_iff_ne]; omega
    have hmz2 : (m.length == 0) = false := by rw [beq_eq_false_iff_ne]; omega
    by_cases hfu : 12 ≤ rs.length
    · have HE : Hid (flushL (m, rs) = (m, rs)) := by unfold Hid flushL; rw [if_pos (.inr hfu)]
      have hd : decide ((12 : Int) ≤ (rs.length : Int)) = true := by rw [decide_eq_true_iff]; omega
      have hd2 : decide (12 ≤ rs.length) = true := by rw [decide_eq_true_iff]; omega
      clear hem
      go_enter Try.func20, Try.ntmps20
      go_wp2_with fail
      refine bodyPost_cell1 (V := .agg #[.slice A0 m.length c0, .slice A rs.length c]) rfl rfl ?_ rfl ?_
      · go_simp
      · rw [HE.out]
        have hb : Below w.heap.size w ((w.alloc (.cells #[.slice A0 m.length c0, .slice A rs.length c] 25)).alloc (.cells #[.slice A0 m.length c0, .slice A rs.length c] 25)) := ((Below.refl _ _).alloc (Nat.le_refl _) _).alloc (by simp) _
        exact ⟨_, rfl, ⟨_, _, rfl, HM.out.below hb (Nat.le_refl _), HR.out.below hb (Nat.le_refl _)⟩, hb⟩
    · have HE : Hid (flushL (m, rs) = ([], comeP rs m)) := by unfold Hid flushL; rw [if_neg (by rintro (h | h); exact hem h; exact hfu h)]
      have hd : decide ((12 : Int) ≤ (rs.length : Int)) = false := by rw [decide_eq_false_iff_not]; omega
      have hd2 : decide (12 ≤ rs.length) = false := by rw [decide_eq_false_iff_not]; omega
      clear hem
      go_enter Try.func20, Try.ntmps20
      go_wp2_with fail
      rw [HWE.out]
      go_wp2_with fail
      refine HC.out.mono ?_
      rintro e w1 ⟨v1, rfl, hR1, hB1⟩
      have HR1 := Lib.hid hR1
      have HT1 := Lib.hid (HT.out.below hB1)
      obtain ⟨A1, c1, rfl, y1, y2⟩ := hR1.shape
      clear hR1 hB1 x0 x1 n0 n1 nf0 nf1 hlt y1 y2
      have n0 := HT1.out.b.c0
      have n1 := HT1.out.b.c1
      have nf0 := HT1.out.b.f 0
      have nf1 := HT1.out.b.f 1
      go_wp2_with fail
      refine bodyPost_cell1 (V := .agg #[.slice none 0 0, .slice A1 (comeP rs m).length c1]) rfl rfl ?_ rfl ?_
      · go_simp
      · rw [HE.out]
        have hb := set2_below HT1.out.low (.slice none 0 0) (.slice A1 (comeP rs m).length c1)
        exact ⟨_, rfl, ⟨_, _, rfl, CntN.nil _, HR1.out.off (fun r hr => (HCO.out.1.1 r hr).1) HT1.out.b.cells (fun k hk => set2_keep _ _ _ _ k hk) (by rw [set2_size]; exact Nat.le_refl _)⟩, hb⟩
set_option maxRecDepth 20000 in
set_option maxHeartbeats 2000000 in
theorem pflush_any (w : World) (v : Value) (s : CntS) (hs : LsmN w v s) (ok : okS s) (hl : sizeS s ≤ 1000000) (hn : s.2.length ≤ 1000) :
    Calls Try.prog 18 #[v] w fun e w' => ∃ v', e = .returned v' ∧ LsmN w' v' (flushL s) ∧ Below w.heap.size w w' ∧ FreshS w.heap.size v v' := by
  obtain ⟨vm, vr, rfl, hm, hr⟩ := hs
  obtain ⟨m, rs⟩ := s
  dsimp only at hm hr hn
  obtain ⟨wE, hwE⟩ : ∃ wE, wE = (w.alloc (.cells #[vm, vr] 25)).alloc (.cells #[.slice none 0 0, .slice none 0 0] 25) := ⟨_, rfl⟩
  have HT : Hid (TwoB w vm vr wE) := by rw [hwE]; exact twoB_new w vm vr
  have HWE := Lib.hid hwE.symm
  have HSZ : Hid (wE.heap.size = w.heap.size + 2) := by rw [hwE]; unfold Hid; simp
  have HM := Lib.hid hm
  have HR := Lib.hid hr
  have HC := Lib.hid (pcome_any mergeN_any wE vr vm rs m (hr.below HT.out.low (Nat.le_refl _)) (hm.below HT.out.low (Nat.le_refl _)) (fun x hx => by rcases List.mem_cons.1 hx with rfl | hx; exact ok.1; exact (ok.2.1 x hx).2) hl hn)
  have HCO := Lib.hid (comeP_ok ok.2 ok.1)
  have x0 := HT.out.c0
  have x1 := HT.out.c1
  have n0 := HT.out.b.c0
  have n1 := HT.out.b.c1
  have nf0 := HT.out.b.f 0
  have nf1 := HT.out.b.f 1
  have hlt := HT.out.lt
  obtain ⟨A0, c0, rfl, z0⟩ := hm.1.shape
  obtain ⟨A, c, rfl, z1, z2⟩ := hr.shape
  clear hwE z0 hm hr z1 z2 ok hl
  unfold LsmV
  by_cases hem : m = []
  · have HE : Hid (flushL (m, rs) = (m, rs)) := by unfold Hid flushL; rw [if_pos (.inl hem)]
    subst hem
    go_enter Try.func18, Try.ntmps18
    go_wp2_with fail
    refine bodyPost_cell1 (V := .agg #[.slice A0 ([] : List Cnt).length c0, .slice A rs.length c]) rfl rfl ?_ rfl ?_
    · go_simp
    · rw [HE.out]
      have hb : Below w.heap.size w ((w.alloc (.cells #[.slice A0 ([] : List Cnt).length c0, .slice A rs.length c] 25)).alloc (.cells #[.slice A0 ([] : List Cnt).length c0, .slice A rs.length c] 25)) := ((Below.refl _ _).alloc (Nat.le_refl _) _).alloc (by simp) _
      exact ⟨_, rfl, ⟨_, _, rfl, HM.out.below hb (Nat.le_refl _), HR.out.below hb (Nat.le_refl _)⟩, hb, ⟨_, _, _, _, rfl, rfl, .inl rfl⟩⟩
  · have hml : 1 ≤ m.length := by
      rcases m with _ | ⟨z, m⟩
      · exact absurd rfl hem
      · simp
    have hmz : ((m.length : Int) == 0) = false := by rw [beq_eq_false_iff_ne]; omega
    have hmz2 : (m.length == 0) = false := by rw [beq_eq_false_iff_ne]; omega
    by_cases hfu : 12 ≤ rs.length
    · have HE : Hid (flushL (m, rs) = (m, rs)) := by unfold Hid flushL; rw [if_pos (.inr hfu)]
      have hd : decide ((12 : Int) ≤ (rs.length : Int)) = true := by rw [decide_eq_true_iff]; omega
      have hd2 : decide (12 ≤ rs.length) = true := by rw [decide_eq_true_iff]; omega
      clear hem
      go_enter Try.func18, Try.ntmps18
      go_wp2_with fail
      refine bodyPost_cell1 (V := .agg #[.slice A0 m.length c0, .slice A rs.length c]) rfl rfl ?_ rfl ?_
      · go_simp
      · rw [HE.out]
        have hb : Below w.heap.size w ((w.alloc (.cells #[.slice A0 m.length c0, .slice A rs.length c] 25)).alloc (.cells #[.slice A0 m.length c0, .slice A rs.length c] 25)) := ((Below.refl _ _).alloc (Nat.le_refl _) _).alloc (by simp) _
        exact ⟨_, rfl, ⟨_, _, rfl, HM.out.below hb (Nat.le_refl _), HR.out.below hb (Nat.le_refl _)⟩, hb, ⟨_, _, _, _, rfl, rfl, .inl rfl⟩⟩
    · have HE : Hid (flushL (m, rs) = ([], comeP rs m)) := by unfold Hid flushL; rw [if_neg (by rintro (h | h); exact hem h; exact hfu h)]
      have hd : decide ((12 : Int) ≤ (rs.length : Int)) = false := by rw [decide_eq_false_iff_not]; omega
      have hd2 : decide (12 ≤ rs.length) = false := by rw [decide_eq_false_iff_not]; omega
      clear hem
      go_enter Try.func18, Try.ntmps18
      go_wp2_with fail
      rw [HWE.out]
      go_wp2_with fail
      refine HC.out.mono ?_
      rintro e w1 ⟨v1, rfl, hR1, hB1, hF1⟩
      have HF1 := Lib.hid hF1
      clear hF1
      have HR1 := Lib.hid hR1
      have HT1 := Lib.hid (HT.out.below hB1)
      obtain ⟨A1, c1, rfl, y1, y2⟩ := hR1.shape
      clear hR1 hB1 x0 x1 n0 n1 nf0 nf1 hlt y1 y2
      have n0 := HT1.out.b.c0
      have n1 := HT1.out.b.c1
      have nf0 := HT1.out.b.f 0
      have nf1 := HT1.out.b.f 1
      go_wp2_with fail
      refine bodyPost_cell1 (V := .agg #[.slice none 0 0, .slice A1 (comeP rs m).length c1]) rfl rfl ?_ rfl ?_
      · go_simp
      · rw [HE.out]
        have hb := set2_below HT1.out.low (.slice none 0 0) (.slice A1 (comeP rs m).length c1)
        exact ⟨_, rfl, ⟨_, _, rfl, CntN.nil _, HR1.out.off (fun r hr => (HCO.out.1.1 r hr).1) HT1.out.b.cells (fun k hk => set2_keep _ _ _ _ k hk) (by rw [set2_size]; exact Nat.le_refl _)⟩, hb, ⟨_, _, _, _, rfl, rfl, HF1.out.imp id (fun h => h.mono (by have := HSZ.out; omega))⟩⟩
end Go.Proofs.Yteidlngffikboaa
