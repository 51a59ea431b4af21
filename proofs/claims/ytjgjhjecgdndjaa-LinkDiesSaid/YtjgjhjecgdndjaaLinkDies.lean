/- LinkDies: the law. -/
import Derived.Test.YtjgjhjecgdndjaaLinkFit
import Derived.Test.YtjgjhjecgdndjaaLinkDead
import Derived.Test.YtjgjhjecgdndjaaLinkAwake
import Derived.Test.YtjgjhjecgdndjaaStructs
namespace Go.Proofs.Ytjgjhjecgdndjaa
open Go.RowKit
set_option linter.unusedVariables false
set_option linter.unusedSimpArgs false
theorem frs_get (l : List Frm4) (i : Nat) (h : i < l.length) : (l.flatMap (ES4 EU64 (EInt .i64) (EInt .i64) EStr))[i * 4]? = some (.int .u64 l[i].1.toNat) ∧ (l.flatMap (ES4 EU64 (EInt .i64) (EInt .i64) EStr))[i * 4 + 1]? = some (.int .i64 l[i].2.1) ∧ (l.flatMap (ES4 EU64 (EInt .i64) (EInt .i64) EStr))[i * 4 + 2]? = some (.int .i64 l[i].2.2.1) ∧ (l.flatMap (ES4 EU64 (EInt .i64) (EInt .i64) EStr))[i * 4 + 3]? = some (.string l[i].2.2.2) := by
  induction l generalizing i with
  | nil => simp at h
  | cons o l ih =>
    have hc : (o :: l).flatMap (ES4 EU64 (EInt .i64) (EInt .i64) EStr) = Value.int .u64 o.1.toNat :: .int .i64 o.2.1 :: .int .i64 o.2.2.1 :: .string o.2.2.2 :: l.flatMap (ES4 EU64 (EInt .i64) (EInt .i64) EStr) := by
      simp [List.flatMap_cons, ES4, EU64, EInt, EStr]
    rw [hc]
    cases i with
    | zero => exact ⟨rfl, rfl, rfl, rfl⟩
    | succ i =>
      have := ih i (by simpa using h)
      have e : (i + 1) * 4 = i * 4 + 1 + 1 + 1 + 1 := by omega
      rw [e]
      exact this
theorem FrsB.of_sl {w : World} {A : Option Addr} {n c : Nat} {l : List Frm4} (h : Sl w A n c 4 (l.flatMap (ES4 EU64 (EInt .i64) (EInt .i64) EStr))) (hn : l.length = n) : FrsB w (.slice A n c) l := by
  refine ⟨A, c, by rw [hn], by rw [hn]; exact h.le, h.cap, fun hl => ?_⟩
  obtain ⟨b, off, e1, e2, e3⟩ := h.cells (by omega)
  refine ⟨b, off, e1, e2, fun i hi => ?_⟩
  obtain ⟨g1, g2, g3, g4⟩ := frs_get l i hi
  exact ⟨(e3 (i * 4) (by omega)).trans g1, by rw [Nat.add_assoc]; exact (e3 (i * 4 + 1) (by omega)).trans g2, by rw [Nat.add_assoc]; exact (e3 (i * 4 + 2) (by omega)).trans g3, by rw [Nat.add_assoc]; exact (e3 (i * 4 + 3) (by omega)).trans g4⟩
def set8 (w : World) (b : Nat) (y0 y1 y2 y3 y4 y5 y6 y7 : Value) : World := ((((((((w.setCell ⟨b, 0, none⟩ y0).setCell ⟨b, 1, none⟩ y1).setCell ⟨b, 2, none⟩ y2).setCell ⟨b, 3, none⟩ y3).setCell ⟨b, 4, none⟩ y4).setCell ⟨b, 5, none⟩ y5).setCell ⟨b, 6, none⟩ y6).setCell ⟨b, 7, none⟩ y7)
theorem Box8.set8 {b : Nat} {x0 x1 x2 x3 x4 x5 x6 x7 : Value} {w : World} (h : Box8 b x0 x1 x2 x3 x4 x5 x6 x7 w) (y0 y1 y2 y3 y4 y5 y6 y7 : Value) : Box8 b y0 y1 y2 y3 y4 y5 y6 y7 (set8 w b y0 y1 y2 y3 y4 y5 y6 y7) :=
  (((((((h.set0 y0).set1 y1).set2 y2).set3 y3).set4 y4).set5 y5).set6 y6).set7 y7
theorem cell_set8 {w : World} {b : Nat} {p : Addr} (hp : ∀ j, j < 8 → p ≠ ⟨b, j, none⟩) (y0 y1 y2 y3 y4 y5 y6 y7 : Value) : (set8 w b y0 y1 y2 y3 y4 y5 y6 y7).cell? p = w.cell? p := by
  unfold Go.Proofs.Ytjgjhjecgdndjaa.set8
  rw [World.cell?_setCell_other _ _ _ _ (hp 7 (by decide)).symm, World.cell?_setCell_other _ _ _ _ (hp 6 (by decide)).symm, World.cell?_setCell_other _ _ _ _ (hp 5 (by decide)).symm, World.cell?_setCell_other _ _ _ _ (hp 4 (by decide)).symm, World.cell?_setCell_other _ _ _ _ (hp 3 (by decide)).symm, World.cell?_setCell_other _ _ _ _ (hp 2 (by decide)).symm, World.cell?_setCell_other _ _ _ _ (hp 1 (by decide)).symm, World.cell?_setCell_other _ _ _ _ (hp 0 (by decide)).symm]
theorem size_set8 (w : World) (b : Nat) (y0 y1 y2 y3 y4 y5 y6 y7 : Value) : (set8 w b y0 y1 y2 y3 y4 y5 y6 y7).heap.size = w.heap.size := by
  unfold Go.Proofs.Ytjgjhjecgdndjaa.set8
  simp only [World.size_setCell]
theorem StrsN.set8 {w : World} {v : Value} {l : List ByteArray} {b : Nat} {k0 k1 k4 k6 : IntKind} {i0 i1 i4 i6 : Int} {A2 A3 A5 : Option Addr} {n2 c2 n3 c3 n5 c5 : Nat} {d : Bool} (h : StrsN w v l) (hx : Box8 b (.int k0 i0) (.int k1 i1) (.slice A2 n2 c2) (.slice A3 n3 c3) (.int k4 i4) (.slice A5 n5 c5) (.int k6 i6) (.bool d) w) (y0 y1 y2 y3 y4 y5 y6 y7 : Value) : StrsN (set8 w b y0 y1 y2 y3 y4 y5 y6 y7) v l := by
  obtain ⟨⟨A, c, h1, h2, h3, h4⟩, h5⟩ := h
  refine ⟨⟨A, c, h1, h2, h3, fun hl => ?_⟩, h5⟩
  obtain ⟨g, off, e1, e2, e3⟩ := h4 hl
  refine ⟨g, off, e1, by rw [size_set8]; exact e2, fun j hj => ?_⟩
  rw [cell_set8]
  · exact e3 j hj
  · intro i hi e
    have e4 := e3 j hj
    rw [List.getElem?_eq_getElem hj, e] at e4
    match i, hi with
    | 0, _ => rw [hx.c0] at e4; cases e4
    | 1, _ => rw [hx.c1] at e4; cases e4
    | 2, _ => rw [hx.c2] at e4; cases e4
    | 3, _ => rw [hx.c3] at e4; cases e4
    | 4, _ => rw [hx.c4] at e4; cases e4
    | 5, _ => rw [hx.c5] at e4; cases e4
    | 6, _ => rw [hx.c6] at e4; cases e4
    | 7, _ => rw [hx.c7] at e4; cases e4
/-- the end behind some ticks -/
def DInv (bk : Nat) (ses base next : Int) (ve : Value) (k : Int) (w0 w : World) : Prop :=
  ∃ vo vw lo lw, Box8 bk (.int .u64 ses) (.int .i64 base) vo vw (.int .i64 next) ve (.int .i64 k) (.bool (decide (k = 40))) w ∧ StrsN w vo lo ∧ StrsN w vw lw ∧ lo.length ≤ 4 ∧ lw.length ≤ 300 ∧ (∀ s ∈ lo, s.size ≤ 60000) ∧ (∀ s ∈ lw, s.size ≤ 60000) ∧ Below w0.heap.size w0 w
theorem lTick_len (ses : Nat) (base next : Int) (L : List ByteArray) (h : L.length ≤ 4) : 1 ≤ (lTick ses base next L).length ∧ (lTick ses base next L).length ≤ 4 := by
  unfold lTick
  split
  · simp
  · rename_i hne
    rw [outs_len]
    have : L.length ≠ 0 := fun e => hne (List.eq_nil_of_length_eq_zero e)
    omega
theorem fillL_len (lo lw : List ByteArray) (h : lo.length ≤ 4) : (lo ++ lw.take (min (4 - lo.length) lw.length)).length ≤ 4 := by
  rw [List.length_append, List.length_take]; omega
theorem fillL_all (lo lw : List ByteArray) (k : Nat) (h : ∀ s ∈ lo, s.size ≤ 60000) (h' : ∀ s ∈ lw, s.size ≤ 60000) : ∀ s ∈ lo ++ lw.take k, s.size ≤ 60000 := by
  intro s hs
  rcases List.mem_append.1 hs with hs | hs
  · exact h s hs
  · exact h' s (List.mem_of_mem_take hs)
theorem dropL_all (lw : List ByteArray) (k : Nat) (h' : ∀ s ∈ lw, s.size ≤ 60000) : ∀ s ∈ lw.drop k, s.size ≤ 60000 := fun s hs => h' s (List.mem_of_mem_drop hs)
set_option maxRecDepth 20000 in
set_option maxHeartbeats 4000000 in
theorem dies_main (W : World) (ses : UInt64) (base next idle : Int) (dead : Bool) (vo vw ve : Value) (lo lw : List ByteArray) (le : List Frm4) (ho : StrsN W vo lo) (hw : StrsN W vw lw) (he : FrsB W ve le) (hsz : (∀ s ∈ lo, s.size ≤ maxLen) ∧ (∀ s ∈ lw, s.size ≤ maxLen) ∧ ∀ f ∈ le, f.2.2.2.size ≤ maxLen) :
    Calls Try.prog 5 #[End8 ses.toNat base vo vw next ve idle dead] W fun e w' => e = .returned (.bool true) ∧ Below W.heap.size W w' := by
  have HA := Lib.hid awake_any
  have HO := Lib.hid ho
  have HW := Lib.hid hw
  have HE := Lib.hid he
  have HFE := Lib.hid (fun w (o : StrsN w vo lo) (x : StrsN w vw lw) (y : FrsB w ve le) => few_any ses base next idle dead vo vw ve lo lw le w o x y hsz)
  have HFI := Lib.hid (fun w (o : StrsN w vo lo) (x : StrsN w vw lw) (y : FrsB w ve le) => fit_any ses base next idle dead vo vw ve lo lw le w o.1 x.1 y hsz)
  obtain ⟨A1, c1, rfl, _, _⟩ := ho.1.len
  obtain ⟨A2, c2, rfl, _, _⟩ := hw.1.len
  obtain ⟨A3, c3, rfl, _, _, _⟩ := he
  obtain ⟨n1, hn1⟩ : ∃ n1, n1 = lo.length := ⟨_, rfl⟩
  obtain ⟨n2, hn2⟩ : ∃ n2, n2 = lw.length := ⟨_, rfl⟩
  obtain ⟨n3, hn3⟩ : ∃ n3, n3 = le.length := ⟨_, rfl⟩
  rw [← hn1] at HO HFE HFI ⊢
  rw [← hn2] at HW HFE HFI ⊢
  rw [← hn3] at HE HFE HFI ⊢
  clear hn1 hn2 hn3 ho hw hsz
  unfold End8 at HFE HFI ⊢
  have q1 := heap_alloc_new W (.cells #[.int .u64 ses.toNat, .int .i64 base, .slice A1 n1 c1, .slice A2 n2 c2, .int .i64 next, .slice A3 n3 c3, .int .i64 idle, .bool dead] 37)
  obtain ⟨wp, hwp⟩ : ∃ wp, wp = W.alloc (.cells #[.int .u64 ses.toNat, .int .i64 base, .slice A1 n1 c1, .slice A2 n2 c2, .int .i64 next, .slice A3 n3 c3, .int .i64 idle, .bool dead] 37) := ⟨_, rfl⟩
  rw [← hwp] at q1
  have HBp : Hid (Below W.heap.size W wp) := by unfold Hid; rw [hwp]; exact (Below.refl _ _).alloc (Nat.le_refl _) _
  have HWP : Hid (W.alloc (.cells #[.int .u64 ses.toNat, .int .i64 base, .slice A1 n1 c1, .slice A2 n2 c2, .int .i64 next, .slice A3 n3 c3, .int .i64 idle, .bool dead] 37) = wp) := hwp.symm
  have HX := Lib.hid (cells8 q1)
  obtain ⟨a0, a1, a2, a3, a4, a5, a6, a7, af, alt⟩ := HX.out
  clear q1 hwp af
  go_enter Try.func5, Try.ntmps5
  go_wp2_with fail
  rw [HWP.out]
  refine (HFE.out _ (HO.out.below HBp.out (Nat.le_refl _)) (HW.out.below HBp.out (Nat.le_refl _)) (HE.out.below HBp.out (Nat.le_refl _))).mono ?_
  rintro e w1 ⟨t1, rfl, _, b1⟩
  have HB1 := Lib.hid (HBp.out.trans (b1.mono HBp.out.size))
  have HX1 := Lib.hid (HX.out.below b1 HX.out.lt)
  clear a0 a1 a2 a3 a4 a5 a6 a7 alt b1 HX HBp HWP
  obtain ⟨a0, a1, a2, a3, a4, a5, a6, a7, af, alt⟩ := HX1.out
  clear af
  cases t1 with
  | false =>
    go_wp2_with fail
    refine (HA.out _).mono ?_
    rintro e w2 ⟨rfl, b2⟩
    go_wp2_with fail
    go_ret
    exact ⟨rfl, HB1.out.trans (b2.mono HB1.out.size)⟩
  | true =>
    go_wp2_with fail
    refine (HFI.out _ (HO.out.below HB1.out (Nat.le_refl _)) (HW.out.below HB1.out (Nat.le_refl _)) (HE.out.below HB1.out (Nat.le_refl _))).mono ?_
    rintro e w2 ⟨t2, rfl, hfit, b2⟩
    have HB2 := Lib.hid (HB1.out.trans (b2.mono HB1.out.size))
    have HX2 := Lib.hid (HX1.out.below b2 HX1.out.lt)
    clear a0 a1 a2 a3 a4 a5 a6 a7 alt b2 HX1 HB1
    obtain ⟨a0, a1, a2, a3, a4, a5, a6, a7, af, alt⟩ := HX2.out
    clear af
    cases t2 with
    | false =>
      go_wp2_with fail
      refine (HA.out _).mono ?_
      rintro e w3 ⟨rfl, b3⟩
      go_wp2_with fail
      go_ret
      exact ⟨rfl, HB2.out.trans (b3.mono HB2.out.size)⟩
    | true =>
      obtain ⟨hb0, hb1, hl4, hw3, hos, hws, hi0, hi1, hdd⟩ := hfit rfl
      obtain ⟨n, hn⟩ : ∃ n : Nat, (40 : Int) - idle = (n : Int) := ⟨(40 - idle).toNat, by omega⟩
      have HN := Lib.hid hn
      have HI0 : Hid (DInv W.heap.size ses.toNat base next (.slice A3 n3 c3) idle W w2) := ⟨_, _, lo, lw, by rw [hdd]; exact HX2.out, HO.out.below HB2.out (Nat.le_refl _), HW.out.below HB2.out (Nat.le_refl _), hl4, hw3, hos, hws, HB2.out⟩
      clear hfit hl4 hw3 hos hws hdd HFE HFI HX2
      go_wp2_with fail
      have HBB : Hid (0 ≤ base ∧ base ≤ 1073741824) := ⟨hb0, hb1⟩
      have HI9 : Hid (0 ≤ idle ∧ idle ≤ 40) := ⟨hi0, hi1⟩
      clear a0 a1 a2 a3 a4 a5 a6 a7 alt hi0 hi1 hn HB2
      go_loopw [24] (fun i wr => ∃ j : Nat, j ≤ n ∧ i = .int .i64 j ∧ Hid (∃ k : Int, k = idle + j ∧ DInv W.heap.size ses.toNat base next (.slice A3 n3 c3) k W wr)) (fun i _ => n - (intOf i).toNat)
      case atStart => exact ⟨0, Nat.zero_le _, rfl, idle, by omega, HI0.out⟩
      case round =>
        obtain ⟨j, hj, rfl, HI⟩ := hrel
        obtain ⟨k, hk, vo', vw', lo', lw', hx, g1, g2, g3, g4, g5, g6, g7⟩ := HI.out
        have hnn := HN.out
        have hi9 := HI9.out
        obtain ⟨B1, d1, rfl, _, _⟩ := g1.1.len
        obtain ⟨B2, d2, rfl, _, _⟩ := g2.1.len
        by_cases hlt : j < n
        · have hlt' : (j : Int) < (n : Int) := by omega
          have hki : 0 ≤ k := by omega
          have hn40 : (n : Int) ≤ 40 := by omega
          have hn1 : (1 : Int) ≤ (n : Int) := by omega
          have hj40 : (j : Int) ≤ 40 := by omega
          have hdk : decide (k = 40) = false := by simp; omega
          rw [hdk] at hx
          have HX := Lib.hid hx
          have HG := Lib.hid g7
          have HQ : Hid (lo'.length ≤ 4 ∧ lw'.length ≤ 300 ∧ (∀ s ∈ lo', s.size ≤ 60000) ∧ (∀ s ∈ lw', s.size ≤ 60000)) := ⟨g3, g4, g5, g6⟩
          have HG1 := Lib.hid g1
          have HG2 := Lib.hid g2
          by_cases hl : j + 1 = n
          · have HKJ : Hid ((40 : Int) = idle + ((j + 1 : Nat) : Int)) := by unfold Hid; omega
            have hk39 : k = 39 := by omega
            rw [hk39] at hx HX
            have HT := Lib.hid (fun w (o : StrsN w (.slice B1 lo'.length d1) lo') (x : StrsN w (.slice B2 lw'.length d2) lw') => tick_last ses base next _ _ A3 n3 c3 lo' lw' _ _ w o x g3 (by omega) rfl rfl)
            unfold End8 at HT
            have e1 : ((j : Int) == (n : Int) - 1) = true := by simp; omega
            have e1' : decide ((j : Int) = (n : Int) - 1) = true := by simp; omega
            obtain ⟨a0, a1, a2, a3, a4, a5, a6, a7, af, alt⟩ := hx
            clear hk hk39 hdk g1 g2 g3 g4 g5 g6 g7 hnn HI af hl hi9 hki
            go_wp2_with fail
            refine (HT.out _ HG1.out HG2.out).mono ?_
            rintro e w3 ⟨vo3, vw3, rfl, f1, f2, b3⟩
            have HX3 := Lib.hid (HX.out.below b3 HX.out.lt)
            have HB3 := Lib.hid (HG.out.trans (b3.mono HG.out.size))
            obtain ⟨C1, u1, rfl, _, _⟩ := f1.1.len
            obtain ⟨C2, u2, rfl, _, _⟩ := f2.1.len
            have HF1 := Lib.hid f1
            have HF2 := Lib.hid f2
            clear a0 a1 a2 a3 a4 a5 a6 a7 alt b3 f1 f2 HT HG1 HG2
            obtain ⟨a0, a1, a2, a3, a4, a5, a6, a7, af, alt⟩ := HX3.out
            have HDI : Hid (DInv W.heap.size ses.toNat base next (.slice A3 n3 c3) 40 W (set8 w3 W.heap.size (.int .u64 ses.toNat) (.int .i64 base) (.slice C1 (lo' ++ lw'.take (min (4 - lo'.length) lw'.length)).length u1) (.slice C2 (lw'.drop (min (4 - lo'.length) lw'.length)).length u2) (.int .i64 next) (.slice A3 n3 c3) (.int .i64 40) (.bool true))) :=
              ⟨_, _, _, _, HX3.out.set8 _ _ _ _ _ _ _ _, HF1.out.set8 HX3.out _ _ _ _ _ _ _ _, HF2.out.set8 HX3.out _ _ _ _ _ _ _ _, fillL_len _ _ HQ.out.1, by rw [List.length_drop]; have := HQ.out.2.1; omega, fillL_all _ _ _ HQ.out.2.2.1 HQ.out.2.2.2, dropL_all _ _ HQ.out.2.2.2, below_set8 HB3.out (Nat.le_refl _) _ _ _ _ _ _ _ _⟩
            unfold Go.Proofs.Ytjgjhjecgdndjaa.set8 at HDI
            generalize (lo' ++ lw'.take (min (4 - lo'.length) lw'.length)).length = z1 at *
            generalize (lw'.drop (min (4 - lo'.length) lw'.length)).length = z2 at *
            have HJ : Hid ((40 : Int) = idle + ((j + 1 : Nat) : Int)) := HKJ.out
            go_wp2_with fail
            go_roundw
            case rel => exact ⟨j + 1, by omega, by go_num, 40, HJ.out, HDI.out⟩
            case measure => simp [intOf]; omega
          · have hk38 : k + 1 < 40 := by omega
            have HKJ : Hid (k + 1 = idle + ((j + 1 : Nat) : Int)) := by unfold Hid; omega
            have HT := Lib.hid (fun w (o : StrsN w (.slice B1 lo'.length d1) lo') (x : StrsN w (.slice B2 lw'.length d2) lw') => tick_live ses base next k _ _ A3 n3 c3 lo' lw' _ _ w o x g3 (by omega) rfl rfl hki hk38 HBB.out.1 HBB.out.2 (fun s hs => Nat.le_trans (fillL_all _ _ _ g5 g6 s hs) (by omega)))
            unfold End8 at HT
            have e1 : ((j : Int) == (n : Int) - 1) = false := by simp; omega
            have e1' : decide ((j : Int) = (n : Int) - 1) = false := by simp; omega
            have HLT : Hid (1 ≤ (lTick ses.toNat base next (lo' ++ lw'.take (min (4 - lo'.length) lw'.length))).length ∧ (lTick ses.toNat base next (lo' ++ lw'.take (min (4 - lo'.length) lw'.length))).length ≤ 4) := lTick_len _ _ _ _ (fillL_len _ _ g3)
            have hdk2 : decide (k + 1 = 40) = false := by simp; omega
            have HD2 := Lib.hid hdk2
            obtain ⟨a0, a1, a2, a3, a4, a5, a6, a7, af, alt⟩ := hx
            clear hk hdk hdk2 g1 g2 g3 g4 g5 g6 g7 hnn HI af hl hi9
            go_wp2_with fail
            refine (HT.out _ HG1.out HG2.out).mono ?_
            rintro e w3 ⟨vo3, vw3, ut, rfl, f1, f2, f3, b3⟩
            have HX3 := Lib.hid (HX.out.below b3 HX.out.lt)
            have HB3 := Lib.hid (HG.out.trans (b3.mono HG.out.size))
            obtain ⟨C1, u1, rfl, _, _⟩ := f1.1.len
            obtain ⟨C2, u2, rfl, _, _⟩ := f2.1.len
            obtain ⟨C3, u3, rfl, _, _⟩ := f3.1.len
            have HF1 := Lib.hid f1
            have HF2 := Lib.hid f2
            clear a0 a1 a2 a3 a4 a5 a6 a7 alt b3 f1 f2 f3 HT HG1 HG2
            obtain ⟨a0, a1, a2, a3, a4, a5, a6, a7, af, alt⟩ := HX3.out
            have HDI : Hid (DInv W.heap.size ses.toNat base next (.slice A3 n3 c3) (k + 1) W (set8 w3 W.heap.size (.int .u64 ses.toNat) (.int .i64 base) (.slice C1 (lo' ++ lw'.take (min (4 - lo'.length) lw'.length)).length u1) (.slice C2 (lw'.drop (min (4 - lo'.length) lw'.length)).length u2) (.int .i64 next) (.slice A3 n3 c3) (.int .i64 (k + 1)) (.bool false))) :=
              ⟨_, _, _, _, by rw [HD2.out]; exact HX3.out.set8 _ _ _ _ _ _ _ _, HF1.out.set8 HX3.out _ _ _ _ _ _ _ _, HF2.out.set8 HX3.out _ _ _ _ _ _ _ _, fillL_len _ _ HQ.out.1, by rw [List.length_drop]; have := HQ.out.2.1; omega, fillL_all _ _ _ HQ.out.2.2.1 HQ.out.2.2.2, dropL_all _ _ HQ.out.2.2.2, below_set8 HB3.out (Nat.le_refl _) _ _ _ _ _ _ _ _⟩
            unfold Go.Proofs.Ytjgjhjecgdndjaa.set8 at HDI
            have hm1 := HLT.out.1
            have hm4 := HLT.out.2
            generalize (lTick ses.toNat base next (lo' ++ lw'.take (min (4 - lo'.length) lw'.length))).length = m at *
            generalize (lo' ++ lw'.take (min (4 - lo'.length) lw'.length)).length = z1 at *
            generalize (lw'.drop (min (4 - lo'.length) lw'.length)).length = z2 at *
            have t1 : decide ((m : Int) < 1) = false := by simp; omega
            have t2 : decide (m < 1) = false := by simp; omega
            have t3 : decide ((4 : Int) < (m : Int)) = false := by simp; omega
            have t4 : decide (4 < m) = false := by simp; omega
            have t5 : (m == 0) = false := by simp; omega
            go_wp2_with fail
            go_roundw
            case rel => exact ⟨j + 1, by omega, by go_num, k + 1, HKJ.out, HDI.out⟩
            case measure => simp [intOf]; omega
        · obtain rfl : j = n := by omega
          have hk40 : k = 40 := by omega
          subst hk40
          rw [show decide ((40 : Int) = 40) = true by rfl] at hx
          have HX := Lib.hid hx
          have HG := Lib.hid g7
          have HG1 := Lib.hid g1
          have HG2 := Lib.hid g2
          have HT := Lib.hid (fun w => tick_dead ses base next 40 B1 B2 A3 lo'.length d1 lw'.length d2 n3 c3 w)
          have HSD := Lib.hid (fun w => send_dead ses base next 40 B1 B2 A3 lo'.length d1 lw'.length d2 n3 c3 ⟨#[97]⟩ w)
          have HSM := Lib.hid (fun w (o : StrsN w (.slice B1 lo'.length d1) lo') (x : StrsN w (.slice B2 lw'.length d2) lw') (y : FrsB w (.slice A3 n3 c3) le) => esame_any ses base next 40 true _ _ _ _ _ lo' lw' le w o.1 o.1 x.1 x.1 y)
          unfold End8 at HT HSD HSM
          generalize lo'.length = z1 at *
          generalize lw'.length = z2 at *
          obtain ⟨a0, a1, a2, a3, a4, a5, a6, a7, af, alt⟩ := hx
          clear hk g1 g2 g3 g4 g5 g6 g7 hnn HI af hi9
          go_wp2_with fail
          refine (HT.out _).mono ?_
          rintro e w3 ⟨rfl, b3⟩
          have HX3 := Lib.hid (HX.out.below b3 HX.out.lt)
          have HB3 := Lib.hid b3
          clear a0 a1 a2 a3 a4 a5 a6 a7 alt b3 HT
          obtain ⟨a0, a1, a2, a3, a4, a5, a6, a7, af, alt⟩ := HX3.out
          clear af
          obtain ⟨w4, hw4⟩ : ∃ w4, w4 = w3.alloc (.cells #[.int .u64 ses.toNat, .int .i64 base, .slice B1 z1 d1, .slice B2 z2 d2, .int .i64 next, .slice A3 n3 c3, .int .i64 40, .bool true] 37) := ⟨_, rfl⟩
          have q4 := heap_alloc_new w3 (.cells #[.int .u64 ses.toNat, .int .i64 base, .slice B1 z1 d1, .slice B2 z2 d2, .int .i64 next, .slice A3 n3 c3, .int .i64 40, .bool true] 37)
          rw [← hw4] at q4
          have HF4 := Lib.hid (cells8 q4)
          have HW4 := Lib.hid hw4.symm
          have hb4 : Below w3.heap.size w3 w4 := by rw [hw4]; exact (Below.refl _ _).alloc (Nat.le_refl _) _
          have HX4 := Lib.hid (HX3.out.below hb4 HX3.out.lt)
          have HB4 : Hid (Below wr.heap.size wr w4) := HB3.out.trans (hb4.mono HB3.out.size)
          clear q4 hw4 hb4 HB3
          go_wp2_with fail
          rw [HW4.out]
          refine (HSD.out _).mono ?_
          rintro e w5 ⟨rfl, b5⟩
          have HX5 := Lib.hid (HX4.out.below b5 HX4.out.lt)
          have HF5 := Lib.hid (HF4.out.below b5 HF4.out.lt)
          have HB5 : Hid (Below wr.heap.size wr w5) := HB4.out.trans (b5.mono HB4.out.size)
          clear a0 a1 a2 a3 a4 a5 a6 a7 alt b5 HSD HB4
          obtain ⟨a0, a1, a2, a3, a4, a5, a6, a7, af, alt⟩ := HX5.out
          obtain ⟨f0, f1, f2, f3, f4, f5, f6, f7, ff, flt⟩ := HF5.out
          clear af ff
          obtain ⟨w6, hw6⟩ : ∃ w6, w6 = w5.alloc (.cells #[.int .u64 ses.toNat, .int .i64 base, .slice B1 z1 d1, .slice B2 z2 d2, .int .i64 next, .slice A3 n3 c3, .int .i64 40, .bool true] 37) := ⟨_, rfl⟩
          have HW6 := Lib.hid hw6.symm
          have HB6 : Hid (Below wr.heap.size wr w6) := by unfold Hid; rw [hw6]; exact HB5.out.alloc HB5.out.size _
          have HBW6 : Hid (Below W.heap.size W w6) := HG.out.trans (HB6.out.mono HG.out.size)
          clear hw6
          go_wp2_with fail
          rw [HW6.out]
          refine (HSM.out _ (HG1.out.below HB6.out (Nat.le_refl _)) (HG2.out.below HB6.out (Nat.le_refl _)) (HE.out.below HBW6.out (Nat.le_refl _))).mono ?_
          rintro e w7 ⟨rfl, b7⟩
          have HB7 := Lib.hid (HBW6.out.trans (b7.mono HBW6.out.size))
          clear b7
          go_wp2_with fail
          refine (HA.out _).mono ?_
          rintro e w8 ⟨rfl, b8⟩
          have HB8 := Lib.hid (HB7.out.trans (b8.mono HB7.out.size))
          clear b8
          go_wp2_with fail
          go_ret
          exact ⟨rfl, HB8.out⟩
theorem linkDies_ok (W : World) (x0 : (UInt64 × Int × (SlArg ByteArray) × (SlArg ByteArray) × Int × (SlArg (UInt64 × Int × Int × ByteArray)) × Int × Bool))
    (w0 : True ∧ (-9223372036854775808 ≤ x0.2.1 ∧ x0.2.1 ≤ 9223372036854775807) ∧ (Sl W x0.2.2.1.1 x0.2.2.1.2.1 x0.2.2.1.2.2.1 1 (x0.2.2.1.2.2.2.flatMap EStr) ∧ x0.2.2.1.2.2.2.length = x0.2.2.1.2.1 ∧ (x0.2.2.1.1 = none → x0.2.2.1.2.2.1 = 0) ∧ ∀ y ∈ x0.2.2.1.2.2.2, y.size ≤ maxLen) ∧
      (Sl W x0.2.2.2.1.1 x0.2.2.2.1.2.1 x0.2.2.2.1.2.2.1 1 (x0.2.2.2.1.2.2.2.flatMap EStr) ∧ x0.2.2.2.1.2.2.2.length = x0.2.2.2.1.2.1 ∧ (x0.2.2.2.1.1 = none → x0.2.2.2.1.2.2.1 = 0) ∧ ∀ y ∈ x0.2.2.2.1.2.2.2, y.size ≤ maxLen) ∧ (-9223372036854775808 ≤ x0.2.2.2.2.1 ∧ x0.2.2.2.2.1 ≤ 9223372036854775807) ∧
      (Sl W x0.2.2.2.2.2.1.1 x0.2.2.2.2.2.1.2.1 x0.2.2.2.2.2.1.2.2.1 4 (x0.2.2.2.2.2.1.2.2.2.flatMap (ES4 EU64 (EInt .i64) (EInt .i64) EStr)) ∧ x0.2.2.2.2.2.1.2.2.2.length = x0.2.2.2.2.2.1.2.1 ∧ (x0.2.2.2.2.2.1.1 = none → x0.2.2.2.2.2.1.2.2.1 = 0) ∧ ∀ y ∈ x0.2.2.2.2.2.1.2.2.2, True ∧ (-9223372036854775808 ≤ y.2.1 ∧ y.2.1 ≤ 9223372036854775807) ∧ (-9223372036854775808 ≤ y.2.2.1 ∧ y.2.2.1 ≤ 9223372036854775807) ∧ y.2.2.2.size ≤ maxLen) ∧
      (-9223372036854775808 ≤ x0.2.2.2.2.2.2.1 ∧ x0.2.2.2.2.2.2.1 ≤ 9223372036854775807) ∧ True) :
    Calls Try.prog 5 #[.agg ((ES8 EU64 (EInt .i64) ESl ESl (EInt .i64) ESl (EInt .i64) EBool) x0).toArray] W fun e w' => e = .returned (.bool true) ∧ Below W.heap.size W w' := by
  obtain ⟨ses, base, ⟨A1, n1, c1, lo⟩, ⟨A2, n2, c2, lw⟩, next, ⟨A3, n3, c3, le⟩, idle, dead⟩ := x0
  obtain ⟨_, _, ⟨s1, l1, z1, m1⟩, ⟨s2, l2, z2, m2⟩, _, ⟨s3, l3, z3, m3⟩, _, _⟩ := w0
  exact dies_main W ses base next idle dead _ _ _ lo lw le (StrsN.of_sl s1 l1 z1) (StrsN.of_sl s2 l2 z2) (FrsB.of_sl s3 l3) ⟨m1, m2, fun f hf => (m3 f hf).2.2.2⟩
end Go.Proofs.Ytjgjhjecgdndjaa
