/- The frame of bytes: link.Read (walk). -/
import Derived.Test.YtjgjhjecgdndjaaLinkWrite
namespace Go.Proofs.Ytjgjhjecgdndjaa
open Go.RowKit
set_option linter.unusedVariables false
set_option linter.unusedSimpArgs false
theorem bodyPost_cell {P : Program} {fn : Func} {R : Ending → World → Prop} {a : Act} {w : World} {V : Value} {a1 u : Tmp} {t1 : TypeId} {ad : Addr} (h : fn.results = #[.cell a1 t1, .tmp u]) (hp : a.tmps.getD a1 undef = .pointer (some ad)) (hl : (loadVar t1 ad).run P w = .ok V w) (hd : a.defers = [])
    (hR : R (.returned (.tuple #[V, a.tmps.getD u undef])) w) : bodyPost P fn R .ret a w :=
  ⟨hd, _, by simp only [results, h, List.mapM_toArray, List.mapM_cons, List.mapM_nil, hp, asAddr]; simp [hl], hR⟩
def FrV (f : LF) : Value := .agg #[.int .u64 (f.1 : Nat), .int .i64 (f.2.1 : Nat), .int .i64 (f.2.2.1 : Nat), .string ⟨f.2.2.2.toArray⟩]
theorem extract_to' (s : ByteArray) (k : Nat) : (s.extract k s.size).data.toList = s.data.toList.drop k := by
  rw [Lib.extract_data]
  rw [List.take_of_length_le (by simp)]
theorem lRead_zero : FrV lZero = .agg #[.int .u64 0, .int .i64 0, .int .i64 0, .string ⟨#[]⟩] := rfl
/-- the result's block, still nought -/
structure Res0 (b : Nat) (w : World) : Prop where
  c0 : w.cell? ⟨b, 0, none⟩ = some (.int .u64 0)
  c1 : w.cell? ⟨b, 1, none⟩ = some (.int .i64 0)
  c2 : w.cell? ⟨b, 2, none⟩ = some (.int .i64 0)
  c3 : w.cell? ⟨b, 3, none⟩ = some (.string ⟨#[]⟩)
  f : ∀ j, w.frozen? ⟨b, j, none⟩ = false
  lt : b < w.heap.size
theorem Res0.below {b B : Nat} {w w' : World} (h : Res0 b w) (hb : Below B w w') (hB : b < B) : Res0 b w' :=
  ⟨(hb.cell (p := ⟨b, 0, none⟩) hB).trans h.c0, (hb.cell (p := ⟨b, 1, none⟩) hB).trans h.c1, (hb.cell (p := ⟨b, 2, none⟩) hB).trans h.c2, (hb.cell (p := ⟨b, 3, none⟩) hB).trans h.c3, fun j => (hb.frozen (p := ⟨b, j, none⟩) hB).trans (h.f j), Nat.lt_of_lt_of_le h.lt hb.size⟩
theorem Res0.set_other {b g j : Nat} {w : World} {u : Value} (h : Res0 b w) (hne : g ≠ b) : Res0 b (w.setCell ⟨g, j, none⟩ u) :=
  ⟨(World.cell?_setCell_other _ _ _ _ (by intro e; injection e with e _; exact hne e)).trans h.c0, (World.cell?_setCell_other _ _ _ _ (by intro e; injection e with e _; exact hne e)).trans h.c1, (World.cell?_setCell_other _ _ _ _ (by intro e; injection e with e _; exact hne e)).trans h.c2, (World.cell?_setCell_other _ _ _ _ (by intro e; injection e with e _; exact hne e)).trans h.c3, fun j => by rw [World.frozen?_setCell]; exact h.f j, by rw [World.size_setCell]; exact h.lt⟩
/-- three numbers of the call's own -/
structure Num3 (b : Nat) (x y z : Nat) (w : World) : Prop where
  c0 : w.cell? ⟨b, 0, none⟩ = some (.int .u64 x)
  c1 : w.cell? ⟨b, 1, none⟩ = some (.int .u64 y)
  c2 : w.cell? ⟨b, 2, none⟩ = some (.int .u64 z)
  f : ∀ j, w.frozen? ⟨b, j, none⟩ = false
  lt : b < w.heap.size
theorem Num3.below {b B x y z : Nat} {w w' : World} (h : Num3 b x y z w) (hb : Below B w w') (hB : b < B) : Num3 b x y z w' :=
  ⟨(hb.cell (p := ⟨b, 0, none⟩) hB).trans h.c0, (hb.cell (p := ⟨b, 1, none⟩) hB).trans h.c1, (hb.cell (p := ⟨b, 2, none⟩) hB).trans h.c2, fun j => (hb.frozen (p := ⟨b, j, none⟩) hB).trans (h.f j), Nat.lt_of_lt_of_le h.lt hb.size⟩
theorem Num3.set0 {b x y z u : Nat} {w : World} (h : Num3 b x y z w) : Num3 b u y z (w.setCell ⟨b, 0, none⟩ (.int .u64 u)) :=
  ⟨World.cell?_setCell_same _ _ _ h.c0, (World.cell?_setCell_other _ _ _ _ (by intro e; injection e with _ e; cases e)).trans h.c1, (World.cell?_setCell_other _ _ _ _ (by intro e; injection e with _ e; cases e)).trans h.c2, fun j => by rw [World.frozen?_setCell]; exact h.f j, by rw [World.size_setCell]; exact h.lt⟩
theorem Num3.set1 {b x y z u : Nat} {w : World} (h : Num3 b x y z w) : Num3 b x u z (w.setCell ⟨b, 1, none⟩ (.int .u64 u)) :=
  ⟨(World.cell?_setCell_other _ _ _ _ (by intro e; injection e with _ e; cases e)).trans h.c0, World.cell?_setCell_same _ _ _ h.c1, (World.cell?_setCell_other _ _ _ _ (by intro e; injection e with _ e; cases e)).trans h.c2, fun j => by rw [World.frozen?_setCell]; exact h.f j, by rw [World.size_setCell]; exact h.lt⟩
theorem Num3.set2 {b x y z u : Nat} {w : World} (h : Num3 b x y z w) : Num3 b x y u (w.setCell ⟨b, 2, none⟩ (.int .u64 u)) :=
  ⟨(World.cell?_setCell_other _ _ _ _ (by intro e; injection e with _ e; cases e)).trans h.c0, (World.cell?_setCell_other _ _ _ _ (by intro e; injection e with _ e; cases e)).trans h.c1, World.cell?_setCell_same _ _ _ h.c2, fun j => by rw [World.frozen?_setCell]; exact h.f j, by rw [World.size_setCell]; exact h.lt⟩
theorem cells3u {w : World} {b : Nat} {t : TypeId} (h : w.heap[b]? = some (.cells #[.int .u64 0, .int .u64 0, .int .u64 0] t)) : Num3 b 0 0 0 w := by
  refine ⟨?_, ?_, ?_, fun j => frozen_of_row w _ j _ _ h, (Array.getElem?_eq_some_iff.1 h).1⟩
  · unfold World.cell?; simp [h]
  · unfold World.cell?; simp [h]
  · unfold World.cell?; simp [h]
theorem res0_new (w : World) : Res0 w.heap.size (w.alloc (.cells #[.int .u64 0, .int .i64 0, .int .i64 0, .string ⟨#[]⟩] 24)) := by
  obtain ⟨c0, c1, c2, c3, cf⟩ := cells4 (heap_alloc_new w (.cells #[.int .u64 0, .int .i64 0, .int .i64 0, .string ⟨#[]⟩] 24))
  exact ⟨c0, c1, c2, c3, cf, by simp⟩
theorem fOpen_len (s : List UInt8) : (fOpen s).1.length ≤ s.length := by
  unfold fOpen
  split
  · simp
  · split
    · simp
    · split
      · simp
      · show (vTakeText s).1.length ≤ s.length
        unfold vTakeText
        split
        · simp
        · split
          · simp
          · split
            · simp
            · simp only [List.length_take, List.length_drop]; omega
theorem below_set4 {B : Nat} {w w' : World} {b : Nat} (h : Below B w w') (hB : B ≤ b) (x y z u : Value) : Below B w ((((w'.setCell ⟨b, 0, none⟩ x).setCell ⟨b, 1, none⟩ y).setCell ⟨b, 2, none⟩ z).setCell ⟨b, 3, none⟩ u) :=
  (((h.setCell (p := ⟨b, 0, none⟩) hB _).setCell (p := ⟨b, 1, none⟩) hB _).setCell (p := ⟨b, 2, none⟩) hB _).setCell (p := ⟨b, 3, none⟩) hB _
set_option maxRecDepth 20000 in
set_option maxHeartbeats 3000000 in
theorem read_any (s : ByteArray) (hs : s.size ≤ 1000000) (w : World) : Calls Try.prog 7 #[.string s] w fun e w' => e = .returned (.tuple #[FrV (lRead s.data.toList).1, .int .i64 ((lRead s.data.toList).2 : Nat)]) ∧ Below w.heap.size w w' := by
  have HO := Lib.hid (open_any s (by omega))
  have hl : s.data.toList.length = s.size := by simp
  obtain ⟨R, hR⟩ : ∃ R, R = lRead s.data.toList := ⟨_, rfl⟩
  rw [← hR]
  unfold lRead at hR
  rw [hl] at hR
  have hsm := fOpen_len s.data.toList
  rw [hl] at hsm
  generalize fOpen s.data.toList = r at *
  obtain ⟨t, n, e0⟩ := r
  dsimp only at *
  have HBW : Hid (Below w.heap.size w (w.alloc (.cells #[.int .u64 0, .int .i64 0, .int .i64 0, .string ⟨#[]⟩] 24))) := (Below.refl _ _).alloc (Nat.le_refl _) _
  have HBX := Lib.hid (res0_new w)
  clear hl
  by_cases hE : e0 ≠ 0 ∨ n < s.size
  · rw [if_pos hE] at hR
    subst hR
    rw [lRead_zero]
    go_enter Try.func7, Try.ntmps7
    go_wp2_with fail
    refine (HO.out _).mono ?_
    rintro e w1 ⟨rfl, b1⟩
    replace HBX := Lib.hid (HBX.out.below b1 HBX.out.lt)
    replace HBW := Lib.hid (HBW.out.trans (b1.mono HBW.out.size))
    clear b1 HO
    by_cases h0 : e0 = 0
    · have h1 : n < s.size := by omega
      have dz : (((e0 : Nat) : Int) != 0) = false := by subst h0; rfl
      clear hE
      obtain ⟨d0, d1, d2, d3, gf, _⟩ := HBX.out
      have g0 := gf 0
      have g1 := gf 1
      have g2 := gf 2
      have g3 := gf 3
      clear gf HBX
      go_wp2_with fail
      (try simp only [Exit.inBlock, Exit.then])
      refine bodyPost_cell (V := .agg #[.int .u64 0, .int .i64 0, .int .i64 0, .string ⟨#[]⟩]) rfl rfl ?_ rfl ?_
      · go_simp
      · exact ⟨rfl, below_set4 HBW.out (Nat.le_refl _) _ _ _ _⟩
    · have dz : (((e0 : Nat) : Int) != 0) = true := by rw [bne_iff_ne]; omega
      clear hE
      obtain ⟨d0, d1, d2, d3, gf, _⟩ := HBX.out
      have g0 := gf 0
      have g1 := gf 1
      have g2 := gf 2
      have g3 := gf 3
      clear gf HBX
      go_wp2_with fail
      (try simp only [Exit.inBlock, Exit.then])
      refine bodyPost_cell (V := .agg #[.int .u64 0, .int .i64 0, .int .i64 0, .string ⟨#[]⟩]) rfl rfl ?_ rfl ?_
      · go_simp
      · exact ⟨rfl, below_set4 HBW.out (Nat.le_refl _) _ _ _ _⟩
  · rw [if_neg hE] at hR
    have h0 : e0 = 0 := by omega
    have h1 : ¬ n < s.size := by omega
    have dz : (((e0 : Nat) : Int) != 0) = false := by subst h0; rfl
    obtain ⟨T0, hT0⟩ : ∃ T0 : ByteArray, T0 = ⟨t.toArray⟩ := ⟨_, rfl⟩
    have hd0 : T0.data.toList = t := by rw [hT0]
    have sz0 : T0.size = t.length := by rw [hT0]; simp [ByteArray.size]
    obtain ⟨x0, k0, c0, v0⟩ : ∃ x k c, vTake t = (x, k, c) := ⟨_, _, _, rfl⟩
    obtain ⟨T1, hT1⟩ : ∃ T1, T1 = T0.extract k0 T0.size := ⟨_, rfl⟩
    have hd1 : T1.data.toList = t.drop k0 := by rw [hT1, extract_to', hd0]
    have sz1 : T1.size ≤ T0.size := by rw [hT1]; simp
    obtain ⟨x1, k1, c1, v1⟩ : ∃ x k c, vTake (t.drop k0) = (x, k, c) := ⟨_, _, _, rfl⟩
    obtain ⟨T2, hT2⟩ : ∃ T2, T2 = T1.extract k1 T1.size := ⟨_, rfl⟩
    have hd2 : T2.data.toList = (t.drop k0).drop k1 := by rw [hT2, extract_to', hd1]
    have sz2 : T2.size ≤ T1.size := by rw [hT2]; simp
    obtain ⟨x2, k2, c2, v2⟩ : ∃ x k c, vTake ((t.drop k0).drop k1) = (x, k, c) := ⟨_, _, _, rfl⟩
    obtain ⟨T3, hT3⟩ : ∃ T3, T3 = T2.extract k2 T2.size := ⟨_, rfl⟩
    have hd3 : T3.data.toList = ((t.drop k0).drop k1).drop k2 := by rw [hT3, extract_to', hd2]
    have sz3 : T3.data.toList.length = T3.size := by simp
    have hL : lTake3 t = if c0 ≠ 0 then none else if c1 ≠ 0 then none else if c2 ≠ 0 then none else some (x0, x1, x2, T3.data.toList) := by
      unfold lTake3
      rw [v0]
      dsimp only
      rw [v1]
      dsimp only
      rw [v2, hd3]
    rw [hL] at hR
    have HN0 : Hid (c0 ≠ 0 → R = (lZero, 2)) := fun h => by rw [hR, if_pos h]
    have HN1 : Hid (c0 = 0 → c1 ≠ 0 → R = (lZero, 2)) := fun h h' => by rw [hR, if_neg (by omega), if_pos h']
    have HN2 : Hid (c0 = 0 → c1 = 0 → c2 ≠ 0 → R = (lZero, 2)) := fun h h' h'' => by rw [hR, if_neg (by omega), if_neg (by omega), if_pos h'']
    have HNB : Hid (c0 = 0 → c1 = 0 → c2 = 0 → (1073741824 < x1 ∨ 1073741824 < x2 ∨ 60000 < T3.size) → R = (lZero, 2)) := fun h h' h'' hb => by
      rw [hR, if_neg (by omega), if_neg (by omega), if_neg (by omega)]; show (if _ then _ else _) = _; rw [sz3, if_pos hb]
    have HNG : Hid (c0 = 0 → c1 = 0 → c2 = 0 → ¬ (1073741824 < x1 ∨ 1073741824 < x2 ∨ 60000 < T3.size) → R = ((x0, x1, x2, T3.data.toList), 0)) := fun h h' h'' hb => by
      rw [hR, if_neg (by omega), if_neg (by omega), if_neg (by omega)]; show (if _ then _ else _) = _; rw [sz3, if_neg hb]
    have hx0 := (vTake_lt t).1
    have hx1 := (vTake_lt (t.drop k0)).1
    have hx2 := (vTake_lt ((t.drop k0).drop k1)).1
    have HOK0 : Hid (c0 = 0 → k0 ≤ T0.size) := fun h => by have := (vTake_le t (by rw [v0]; exact h)).1; rw [v0] at this; rw [sz0]; exact this
    have HOK1 : Hid (c1 = 0 → k1 ≤ T1.size) := fun h => by have := (vTake_le (t.drop k0) (by rw [v1]; exact h)).1; rw [v1, ← hd1] at this; simpa using this
    have HOK2 : Hid (c2 = 0 → k2 ≤ T2.size) := fun h => by have := (vTake_le ((t.drop k0).drop k1) (by rw [v2]; exact h)).1; rw [v2, ← hd2] at this; simpa using this
    rw [v0] at hx0
    rw [v1] at hx1
    rw [v2] at hx2
    have HT0 := Lib.hid (take_any T0 (by unfold maxLen; omega))
    have HT1 := Lib.hid (take_any T1 (by unfold maxLen; omega))
    have HT2 := Lib.hid (take_any T2 (by unfold maxLen; omega))
    rw [hd0, v0] at HT0
    rw [hd1, v1] at HT1
    rw [hd2, v2] at HT2
    have HE1 := Lib.hid hT1
    have HE2 := Lib.hid hT2
    have HE3 := Lib.hid hT3
    have h3 : T0.size ≤ 1000000 := by omega
    have h4 : T1.size ≤ 1000000 := by omega
    have h5 : T2.size ≤ 1000000 := by omega
    rw [← hT0] at HO
    clear hR hL v0 v1 v2 hd0 hd1 hd2 hd3 hT1 hT2 hT3 hT0 sz0 sz1 sz2 sz3 hsm hE
    dsimp only at hx0 hx1 hx2 HT0 HT1 HT2
    go_enter Try.func7, Try.ntmps7
    go_wp2_with fail
    refine (HO.out _).mono ?_
    rintro e w1 ⟨rfl, b1⟩
    replace HBX := Lib.hid (HBX.out.below b1 HBX.out.lt)
    replace HBW := Lib.hid (HBW.out.trans (b1.mono HBW.out.size))
    clear b1 HO
    go_wp2_with fail
    have hv := cells3u (heap_alloc_new w1 (.cells #[.int .u64 0, .int .u64 0, .int .u64 0] 55))
    have hbv : Below w1.heap.size w1 (w1.alloc (.cells #[.int .u64 0, .int .u64 0, .int .u64 0] 55)) := (Below.refl _ _).alloc (Nat.le_refl _) _
    obtain ⟨wv, hwv⟩ : ∃ wv, wv = w1.alloc (.cells #[.int .u64 0, .int .u64 0, .int .u64 0] 55) := ⟨_, rfl⟩
    obtain ⟨b, hb⟩ : ∃ b, b = w1.heap.size := ⟨_, rfl⟩
    rw [← hwv] at hv hbv
    rw [← hb] at hv
    have hbw : w.heap.size < b := by rw [hb]; exact HBX.out.lt
    have HV := Lib.hid hv
    replace HBX := Lib.hid (HBX.out.below hbv HBX.out.lt)
    replace HBW := Lib.hid (HBW.out.trans (hbv.mono HBW.out.size))
    rw [← hwv, ← hb]
    clear hv hbv hwv hb
    refine wp_loop_rounds 4 ?_
    rw [rounds_succ]
    go_wp2_with fail
    refine (HT0.out _).mono ?_
    rintro e wt0 ⟨rfl, bt⟩
    replace HBX := Lib.hid (HBX.out.below bt HBX.out.lt)
    replace HV := Lib.hid (HV.out.below bt HV.out.lt)
    replace HBW := Lib.hid (HBW.out.trans (bt.mono HBW.out.size))
    clear bt HT0
    by_cases hc0 : c0 = 0
    case neg =>
      have hz : R = (lZero, 2) := HN0.out hc0
      subst hz
      have dz : (((c0 : Nat) : Int) != 0) = true := by rw [bne_iff_ne]; omega
      obtain ⟨d0, d1, d2, d3, gf, _⟩ := HBX.out
      have g0 := gf 0
      have g1 := gf 1
      have g2 := gf 2
      have g3 := gf 3
      clear gf HBX
      go_wp2_with fail
      (try simp only [Exit.inBlock, Exit.then])
      refine bodyPost_cell (V := .agg #[.int .u64 0, .int .i64 0, .int .i64 0, .string ⟨#[]⟩]) rfl rfl ?_ rfl ?_
      · go_simp
      · exact ⟨rfl, below_set4 HBW.out (Nat.le_refl _) _ _ _ _⟩
    have dz0 : (((c0 : Nat) : Int) != 0) = false := by rw [hc0]; rfl
    have hk0 := HOK0.out hc0
    have gk1 : ((k0 : Nat) : Int) ≤ (T0.size : Int) := by omega
    have gk2 : (0 : Int) ≤ ((k0 : Nat) : Int) := by omega
    have gk3 : (((k0 : Nat) : Int)).toNat = k0 := Int.toNat_natCast _
    go_wp2_with fail
    refine wp_region_noPanic ?_
    refine wp_region_held_drew (S := fun _ => True) (by kernel_rfl) trivial (fun hHeld => ?_)
    obtain ⟨wd, hwd⟩ : ∃ wd, wd = wt0.drew := ⟨_, rfl⟩
    replace HV : Hid (Num3 b 0 0 0 wd) := by rw [hwd]; exact ⟨HV.out.c0, HV.out.c1, HV.out.c2, HV.out.f, HV.out.lt⟩
    replace HBX : Hid (Res0 w.heap.size wd) := by rw [hwd]; exact ⟨HBX.out.c0, HBX.out.c1, HBX.out.c2, HBX.out.c3, HBX.out.f, HBX.out.lt⟩
    replace HBW : Hid (Below w.heap.size w wd) := by rw [hwd]; exact HBW.out.drew
    rw [← hwd]
    clear hwd
    refine' wpAnyH_take (i := 0) (v := ?v1) rfl (by kernel_rfl) (by kernel_rfl) (by kernel_rfl) (fun _ _ _ h => h) (Or.inl ⟨by kernel_rfl, ?hy1⟩) (by assumption) ?rest1
    case hy1 => (intro w hSw; (try dsimp only at hSw); go_simp; try with_reducible rfl)
    try simp only [Act.put, List.setIfInBounds_toArray, List.set_cons_zero, List.set_cons_succ]
    refine' wpAnyH_take (i := 1) (v := ?v2) rfl (by kernel_rfl) (by kernel_rfl) (by kernel_rfl) (fun _ _ _ h => h) (Or.inl ⟨by kernel_rfl, ?hy2⟩) (by assumption) ?rest2
    case hy2 => (intro w hSw; (try dsimp only at hSw); go_simp; try with_reducible rfl)
    try simp only [Act.put, List.setIfInBounds_toArray, List.set_cons_zero, List.set_cons_succ]
    refine' wpAnyH_take (i := 2) (v := ?v3) rfl (by kernel_rfl) (by kernel_rfl) (by kernel_rfl) (fun _ _ _ h => h) (Or.inl ⟨by kernel_rfl, ?hy3⟩) (by assumption) ?rest3
    case hy3 => (intro w hSw; (try dsimp only at hSw); go_simp; try with_reducible rfl)
    try simp only [Act.put, List.setIfInBounds_toArray, List.set_cons_zero, List.set_cons_succ]
    refine' wpAnyH_take (i := 3) (v := ?v4) rfl (by kernel_rfl) (by kernel_rfl) (by kernel_rfl) (fun _ _ _ h => h) (Or.inl ⟨by kernel_rfl, ?hy4⟩) (by assumption) ?rest4
    case hy4 => (intro w hSw; (try dsimp only at hSw); go_simp; try with_reducible rfl)
    try simp only [Act.put, List.setIfInBounds_toArray, List.set_cons_zero, List.set_cons_succ]
    refine wpAnyH_take (i := 4) (v := .string T1) rfl (by kernel_rfl) (by kernel_rfl) (by kernel_rfl) (fun _ _ _ h => h) (Or.inl ⟨by kernel_rfl, ?_⟩) hHeld ?_
    · intro w hSw
      have hh := HE1.out
      go_simp
    try simp only [Act.put, List.setIfInBounds_toArray, List.set_cons_zero, List.set_cons_succ]
    refine' wpAnyH_take (i := 5) (v := ?v5) rfl (by kernel_rfl) (by kernel_rfl) (by kernel_rfl) (fun _ _ _ h => h) (Or.inl ⟨by kernel_rfl, ?hy5⟩) (by assumption) ?rest5
    case hy5 => (intro w hSw; (try dsimp only at hSw); go_simp; try with_reducible rfl)
    try simp only [Act.put, List.setIfInBounds_toArray, List.set_cons_zero, List.set_cons_succ]
    refine wpAnyH_ready (rs := [6]) (by kernel_rfl) (by simp) ?_
    refine AllReadyH.cons rfl (fun K hK => ?_) AllReadyH.nil
    have vc := HV.out.c0
    have vf := HV.out.f 0
    go_simp
    replace HV := Lib.hid (HV.out.set0 (u := x0))
    replace HBX := Lib.hid (HBX.out.set_other (j := 0) (u := .int .u64 x0) (show b ≠ w.heap.size by omega))
    replace HBW := Lib.hid (HBW.out.setCell (p := ⟨b, 0, none⟩) (Nat.le_of_lt hbw) (.int .u64 x0))
    obtain ⟨wu0, hwu⟩ : ∃ wu, wu = wd.setCell ⟨b, 0, none⟩ (.int .u64 x0) := ⟨_, rfl⟩
    rw [← hwu] at HV HBX HBW ⊢
    clear hwu vc vf gk1 gk2 gk3
    refine hK.out _ _ trivial (fun hHeld => ?_)
    clear hK K
    try simp only [Act.put, List.setIfInBounds_toArray, List.set_cons_zero, List.set_cons_succ]
    refine wpAnyH_take (i := 7) (v := .string T1) rfl (by kernel_rfl) (by kernel_rfl) (by kernel_rfl) (fun _ _ _ h => h) (Or.inl ⟨by kernel_rfl, ?_⟩) hHeld ?_
    · intro w hSw
      go_simp
    refine wpAnyH_done (by kernel_rfl) ?_ _
    refine NoPanic.normal ?_
    go_wp2_with fail
    rw [rounds_succ]
    go_wp2_with fail
    refine (HT1.out _).mono ?_
    rintro e wt1 ⟨rfl, bt⟩
    replace HBX := Lib.hid (HBX.out.below bt HBX.out.lt)
    replace HV := Lib.hid (HV.out.below bt HV.out.lt)
    replace HBW := Lib.hid (HBW.out.trans (bt.mono HBW.out.size))
    clear bt HT1
    by_cases hc1 : c1 = 0
    case neg =>
      have hz : R = (lZero, 2) := HN1.out hc0 hc1
      subst hz
      have dz : (((c1 : Nat) : Int) != 0) = true := by rw [bne_iff_ne]; omega
      obtain ⟨d0, d1, d2, d3, gf, _⟩ := HBX.out
      have g0 := gf 0
      have g1 := gf 1
      have g2 := gf 2
      have g3 := gf 3
      clear gf HBX
      go_wp2_with fail
      (try simp only [Exit.inBlock, Exit.then])
      refine bodyPost_cell (V := .agg #[.int .u64 0, .int .i64 0, .int .i64 0, .string ⟨#[]⟩]) rfl rfl ?_ rfl ?_
      · go_simp
      · exact ⟨rfl, below_set4 HBW.out (Nat.le_refl _) _ _ _ _⟩
    have dz1 : (((c1 : Nat) : Int) != 0) = false := by rw [hc1]; rfl
    have hk1 := HOK1.out hc1
    have gk1 : ((k1 : Nat) : Int) ≤ (T1.size : Int) := by omega
    have gk2 : (0 : Int) ≤ ((k1 : Nat) : Int) := by omega
    have gk3 : (((k1 : Nat) : Int)).toNat = k1 := Int.toNat_natCast _
    go_wp2_with fail
    refine wp_region_noPanic ?_
    refine wp_region_held_drew (S := fun _ => True) (by kernel_rfl) trivial (fun hHeld => ?_)
    obtain ⟨wd, hwd⟩ : ∃ wd, wd = wt1.drew := ⟨_, rfl⟩
    replace HV : Hid (Num3 b x0 0 0 wd) := by rw [hwd]; exact ⟨HV.out.c0, HV.out.c1, HV.out.c2, HV.out.f, HV.out.lt⟩
    replace HBX : Hid (Res0 w.heap.size wd) := by rw [hwd]; exact ⟨HBX.out.c0, HBX.out.c1, HBX.out.c2, HBX.out.c3, HBX.out.f, HBX.out.lt⟩
    replace HBW : Hid (Below w.heap.size w wd) := by rw [hwd]; exact HBW.out.drew
    rw [← hwd]
    clear hwd
    refine' wpAnyH_take (i := 0) (v := ?v6) rfl (by kernel_rfl) (by kernel_rfl) (by kernel_rfl) (fun _ _ _ h => h) (Or.inl ⟨by kernel_rfl, ?hy6⟩) (by assumption) ?rest6
    case hy6 => (intro w hSw; (try dsimp only at hSw); go_simp; try with_reducible rfl)
    try simp only [Act.put, List.setIfInBounds_toArray, List.set_cons_zero, List.set_cons_succ]
    refine' wpAnyH_take (i := 1) (v := ?v7) rfl (by kernel_rfl) (by kernel_rfl) (by kernel_rfl) (fun _ _ _ h => h) (Or.inl ⟨by kernel_rfl, ?hy7⟩) (by assumption) ?rest7
    case hy7 => (intro w hSw; (try dsimp only at hSw); go_simp; try with_reducible rfl)
    try simp only [Act.put, List.setIfInBounds_toArray, List.set_cons_zero, List.set_cons_succ]
    refine' wpAnyH_take (i := 2) (v := ?v8) rfl (by kernel_rfl) (by kernel_rfl) (by kernel_rfl) (fun _ _ _ h => h) (Or.inl ⟨by kernel_rfl, ?hy8⟩) (by assumption) ?rest8
    case hy8 => (intro w hSw; (try dsimp only at hSw); go_simp; try with_reducible rfl)
    try simp only [Act.put, List.setIfInBounds_toArray, List.set_cons_zero, List.set_cons_succ]
    refine' wpAnyH_take (i := 3) (v := ?v9) rfl (by kernel_rfl) (by kernel_rfl) (by kernel_rfl) (fun _ _ _ h => h) (Or.inl ⟨by kernel_rfl, ?hy9⟩) (by assumption) ?rest9
    case hy9 => (intro w hSw; (try dsimp only at hSw); go_simp; try with_reducible rfl)
    try simp only [Act.put, List.setIfInBounds_toArray, List.set_cons_zero, List.set_cons_succ]
    refine wpAnyH_take (i := 4) (v := .string T2) rfl (by kernel_rfl) (by kernel_rfl) (by kernel_rfl) (fun _ _ _ h => h) (Or.inl ⟨by kernel_rfl, ?_⟩) hHeld ?_
    · intro w hSw
      have hh := HE2.out
      go_simp
    try simp only [Act.put, List.setIfInBounds_toArray, List.set_cons_zero, List.set_cons_succ]
    refine' wpAnyH_take (i := 5) (v := ?v10) rfl (by kernel_rfl) (by kernel_rfl) (by kernel_rfl) (fun _ _ _ h => h) (Or.inl ⟨by kernel_rfl, ?hy10⟩) (by assumption) ?rest10
    case hy10 => (intro w hSw; (try dsimp only at hSw); go_simp; try with_reducible rfl)
    try simp only [Act.put, List.setIfInBounds_toArray, List.set_cons_zero, List.set_cons_succ]
    refine wpAnyH_ready (rs := [6]) (by kernel_rfl) (by simp) ?_
    refine AllReadyH.cons rfl (fun K hK => ?_) AllReadyH.nil
    have vc := HV.out.c1
    have vf := HV.out.f 1
    go_simp
    replace HV := Lib.hid (HV.out.set1 (u := x1))
    replace HBX := Lib.hid (HBX.out.set_other (j := 1) (u := .int .u64 x1) (show b ≠ w.heap.size by omega))
    replace HBW := Lib.hid (HBW.out.setCell (p := ⟨b, 1, none⟩) (Nat.le_of_lt hbw) (.int .u64 x1))
    obtain ⟨wu1, hwu⟩ : ∃ wu, wu = wd.setCell ⟨b, 1, none⟩ (.int .u64 x1) := ⟨_, rfl⟩
    rw [← hwu] at HV HBX HBW ⊢
    clear hwu vc vf gk1 gk2 gk3
    refine hK.out _ _ trivial (fun hHeld => ?_)
    clear hK K
    try simp only [Act.put, List.setIfInBounds_toArray, List.set_cons_zero, List.set_cons_succ]
    refine wpAnyH_take (i := 7) (v := .string T2) rfl (by kernel_rfl) (by kernel_rfl) (by kernel_rfl) (fun _ _ _ h => h) (Or.inl ⟨by kernel_rfl, ?_⟩) hHeld ?_
    · intro w hSw
      go_simp
    refine wpAnyH_done (by kernel_rfl) ?_ _
    refine NoPanic.normal ?_
    go_wp2_with fail
    rw [rounds_succ]
    go_wp2_with fail
    refine (HT2.out _).mono ?_
    rintro e wt2 ⟨rfl, bt⟩
    replace HBX := Lib.hid (HBX.out.below bt HBX.out.lt)
    replace HV := Lib.hid (HV.out.below bt HV.out.lt)
    replace HBW := Lib.hid (HBW.out.trans (bt.mono HBW.out.size))
    clear bt HT2
    by_cases hc2 : c2 = 0
    case neg =>
      have hz : R = (lZero, 2) := HN2.out hc0 hc1 hc2
      subst hz
      have dz : (((c2 : Nat) : Int) != 0) = true := by rw [bne_iff_ne]; omega
      obtain ⟨d0, d1, d2, d3, gf, _⟩ := HBX.out
      have g0 := gf 0
      have g1 := gf 1
      have g2 := gf 2
      have g3 := gf 3
      clear gf HBX
      go_wp2_with fail
      (try simp only [Exit.inBlock, Exit.then])
      refine bodyPost_cell (V := .agg #[.int .u64 0, .int .i64 0, .int .i64 0, .string ⟨#[]⟩]) rfl rfl ?_ rfl ?_
      · go_simp
      · exact ⟨rfl, below_set4 HBW.out (Nat.le_refl _) _ _ _ _⟩
    have dz2 : (((c2 : Nat) : Int) != 0) = false := by rw [hc2]; rfl
    have hk2 := HOK2.out hc2
    have gk1 : ((k2 : Nat) : Int) ≤ (T2.size : Int) := by omega
    have gk2 : (0 : Int) ≤ ((k2 : Nat) : Int) := by omega
    have gk3 : (((k2 : Nat) : Int)).toNat = k2 := Int.toNat_natCast _
    go_wp2_with fail
    refine wp_region_noPanic ?_
    refine wp_region_held_drew (S := fun _ => True) (by kernel_rfl) trivial (fun hHeld => ?_)
    obtain ⟨wd, hwd⟩ : ∃ wd, wd = wt2.drew := ⟨_, rfl⟩
    replace HV : Hid (Num3 b x0 x1 0 wd) := by rw [hwd]; exact ⟨HV.out.c0, HV.out.c1, HV.out.c2, HV.out.f, HV.out.lt⟩
    replace HBX : Hid (Res0 w.heap.size wd) := by rw [hwd]; exact ⟨HBX.out.c0, HBX.out.c1, HBX.out.c2, HBX.out.c3, HBX.out.f, HBX.out.lt⟩
    replace HBW : Hid (Below w.heap.size w wd) := by rw [hwd]; exact HBW.out.drew
    rw [← hwd]
    clear hwd
    refine' wpAnyH_take (i := 0) (v := ?v11) rfl (by kernel_rfl) (by kernel_rfl) (by kernel_rfl) (fun _ _ _ h => h) (Or.inl ⟨by kernel_rfl, ?hy11⟩) (by assumption) ?rest11
    case hy11 => (intro w hSw; (try dsimp only at hSw); go_simp; try with_reducible rfl)
    try simp only [Act.put, List.setIfInBounds_toArray, List.set_cons_zero, List.set_cons_succ]
    refine' wpAnyH_take (i := 1) (v := ?v12) rfl (by kernel_rfl) (by kernel_rfl) (by kernel_rfl) (fun _ _ _ h => h) (Or.inl ⟨by kernel_rfl, ?hy12⟩) (by assumption) ?rest12
    case hy12 => (intro w hSw; (try dsimp only at hSw); go_simp; try with_reducible rfl)
    try simp only [Act.put, List.setIfInBounds_toArray, List.set_cons_zero, List.set_cons_succ]
    refine' wpAnyH_take (i := 2) (v := ?v13) rfl (by kernel_rfl) (by kernel_rfl) (by kernel_rfl) (fun _ _ _ h => h) (Or.inl ⟨by kernel_rfl, ?hy13⟩) (by assumption) ?rest13
    case hy13 => (intro w hSw; (try dsimp only at hSw); go_simp; try with_reducible rfl)
    try simp only [Act.put, List.setIfInBounds_toArray, List.set_cons_zero, List.set_cons_succ]
    refine' wpAnyH_take (i := 3) (v := ?v14) rfl (by kernel_rfl) (by kernel_rfl) (by kernel_rfl) (fun _ _ _ h => h) (Or.inl ⟨by kernel_rfl, ?hy14⟩) (by assumption) ?rest14
    case hy14 => (intro w hSw; (try dsimp only at hSw); go_simp; try with_reducible rfl)
    try simp only [Act.put, List.setIfInBounds_toArray, List.set_cons_zero, List.set_cons_succ]
    refine wpAnyH_take (i := 4) (v := .string T3) rfl (by kernel_rfl) (by kernel_rfl) (by kernel_rfl) (fun _ _ _ h => h) (Or.inl ⟨by kernel_rfl, ?_⟩) hHeld ?_
    · intro w hSw
      have hh := HE3.out
      go_simp
    try simp only [Act.put, List.setIfInBounds_toArray, List.set_cons_zero, List.set_cons_succ]
    refine' wpAnyH_take (i := 5) (v := ?v15) rfl (by kernel_rfl) (by kernel_rfl) (by kernel_rfl) (fun _ _ _ h => h) (Or.inl ⟨by kernel_rfl, ?hy15⟩) (by assumption) ?rest15
    case hy15 => (intro w hSw; (try dsimp only at hSw); go_simp; try with_reducible rfl)
    try simp only [Act.put, List.setIfInBounds_toArray, List.set_cons_zero, List.set_cons_succ]
    refine wpAnyH_ready (rs := [6]) (by kernel_rfl) (by simp) ?_
    refine AllReadyH.cons rfl (fun K hK => ?_) AllReadyH.nil
    have vc := HV.out.c2
    have vf := HV.out.f 2
    go_simp
    replace HV := Lib.hid (HV.out.set2 (u := x2))
    replace HBX := Lib.hid (HBX.out.set_other (j := 2) (u := .int .u64 x2) (show b ≠ w.heap.size by omega))
    replace HBW := Lib.hid (HBW.out.setCell (p := ⟨b, 2, none⟩) (Nat.le_of_lt hbw) (.int .u64 x2))
    obtain ⟨wu2, hwu⟩ : ∃ wu, wu = wd.setCell ⟨b, 2, none⟩ (.int .u64 x2) := ⟨_, rfl⟩
    rw [← hwu] at HV HBX HBW ⊢
    clear hwu vc vf gk1 gk2 gk3
    refine hK.out _ _ trivial (fun hHeld => ?_)
    clear hK K
    try simp only [Act.put, List.setIfInBounds_toArray, List.set_cons_zero, List.set_cons_succ]
    refine wpAnyH_take (i := 7) (v := .string T3) rfl (by kernel_rfl) (by kernel_rfl) (by kernel_rfl) (fun _ _ _ h => h) (Or.inl ⟨by kernel_rfl, ?_⟩) hHeld ?_
    · intro w hSw
      go_simp
    refine wpAnyH_done (by kernel_rfl) ?_ _
    refine NoPanic.normal ?_
    go_wp2_with fail
    rw [rounds_succ]
    have vv0 := HV.out.c0
    have vv1 := HV.out.c1
    have vv2 := HV.out.c2
    obtain ⟨M, hM⟩ : ∃ M, M = max x1 x2 := ⟨_, rfl⟩
    have hm1 : (if x1 < x2 then (x2 : Int) else (x1 : Int)) = (M : Int) := by split <;> omega
    have hm2 : (if (x1 : Int) < (x2 : Int) then (x2 : Int) else (x1 : Int)) = (M : Int) := by split <;> omega
    have HMM : Hid (1073741824 < M ↔ 1073741824 < x1 ∨ 1073741824 < x2) := by unfold Hid; omega
    clear hM HV
    by_cases hM1 : 1073741824 < M
    · have dm : decide ((1073741824 : Int) < (M : Int)) = true := by simp; omega
      have hz : R = (lZero, 2) := HNB.out hc0 hc1 hc2 (by rcases HMM.out.1 hM1 with h | h <;> omega)
      subst hz
      obtain ⟨d0, d1, d2, d3, gf, _⟩ := HBX.out
      have g0 := gf 0
      have g1 := gf 1
      have g2 := gf 2
      have g3 := gf 3
      clear gf HBX
      go_wp2_with fail
      (try simp only [Exit.inBlock, Exit.then])
      refine bodyPost_cell (V := .agg #[.int .u64 0, .int .i64 0, .int .i64 0, .string ⟨#[]⟩]) rfl rfl ?_ rfl ?_
      · go_simp
      · exact ⟨rfl, below_set4 HBW.out (Nat.le_refl _) _ _ _ _⟩
    · have dm : decide ((1073741824 : Int) < (M : Int)) = false := by simp; omega
      by_cases hT : 60000 < T3.size
      · have dt : decide ((60000 : Int) < (T3.size : Int)) = true := by simp; omega
        have hz : R = (lZero, 2) := HNB.out hc0 hc1 hc2 (by omega)
        subst hz
        obtain ⟨d0, d1, d2, d3, gf, _⟩ := HBX.out
        have g0 := gf 0
        have g1 := gf 1
        have g2 := gf 2
        have g3 := gf 3
        clear gf HBX
        go_wp2_with fail
        (try simp only [Exit.inBlock, Exit.then])
        refine bodyPost_cell (V := .agg #[.int .u64 0, .int .i64 0, .int .i64 0, .string ⟨#[]⟩]) rfl rfl ?_ rfl ?_
        · go_simp
        · exact ⟨rfl, below_set4 HBW.out (Nat.le_refl _) _ _ _ _⟩
      · have dt : decide ((60000 : Int) < (T3.size : Int)) = false := by simp; omega
        have hxb : ¬ (1073741824 < x1 ∨ 1073741824 < x2) := fun h => hM1 (HMM.out.2 h)
        have hz : R = ((x0, x1, x2, T3.data.toList), 0) := HNG.out hc0 hc1 hc2 (by omega)
        subst hz
        have hb1 : x1 ≤ 1073741824 := by omega
        have hb2 : x2 ≤ 1073741824 := by omega
        obtain ⟨d0, d1, d2, d3, gf, _⟩ := HBX.out
        have g0 := gf 0
        have g1 := gf 1
        have g2 := gf 2
        have g3 := gf 3
        clear gf HBX
        go_wp2_with fail
        (try simp only [Exit.inBlock, Exit.then])
        refine bodyPost_cell (V := .agg #[.int .u64 x0, .int .i64 x1, .int .i64 x2, .string T3]) rfl rfl ?_ rfl ?_
        · go_simp
        · refine ⟨?_, below_set4 HBW.out (Nat.le_refl _) _ _ _ _⟩
          unfold FrV
          dsimp only
          rw [show (⟨T3.data.toList.toArray⟩ : ByteArray) = T3 from by apply ByteArray.ext; simp]
          rfl
end Go.Proofs.Ytjgjhjecgdndjaa
