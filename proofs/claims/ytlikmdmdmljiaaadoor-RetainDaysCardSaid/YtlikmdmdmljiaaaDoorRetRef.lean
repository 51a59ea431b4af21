/- siloref42.Civil: walk. -/
import Derived.Test.YtlikmdmdmljiaaaDoorRetMem
import Derived.Laws.CopyOwn
namespace Go.Proofs.YtlikmdmdmljiaaaDoor
open Go.RowKit
set_option linter.unusedVariables false
set_option linter.unusedSimpArgs false
theorem sY_big (n y : Int) (h : Cal.sY y ≤ n) (hn : n ≤ 8388608) : y ≤ 100000 := by
  apply Int.not_lt.mp
  intro hlt
  have := Cal.sY_lt hlt
  have : (10000000 : Int) ≤ Cal.sY 100000 := by decide
  omega
structure CvS (W : World) (y m d : Int) (w : World) : Prop where
  day : DtR (W.heap.size + 1) y m d w
  res : DtR W.heap.size 0 0 0 w
  bel : Below W.heap.size W w
theorem CvS.y {W w : World} {y m d : Int} (h : CvS W y m d w) (v : Int) : CvS W v m d (w.setCell ⟨W.heap.size + 1, 0, none⟩ (.int .i64 v)) :=
  ⟨h.day.y v, ⟨h.res.row.other _ _ (by simp)⟩, h.bel.setCell (by simp) _⟩
theorem CvS.m {W w : World} {y m d : Int} (h : CvS W y m d w) (v : Int) : CvS W y v d (w.setCell ⟨W.heap.size + 1, 1, none⟩ (.int .i64 v)) :=
  ⟨h.day.m v, ⟨h.res.row.other _ _ (by simp)⟩, h.bel.setCell (by simp) _⟩
theorem CvS.d {W w : World} {y m d : Int} (h : CvS W y m d w) (v : Int) : CvS W y m v (w.setCell ⟨W.heap.size + 1, 2, none⟩ (.int .i64 v)) :=
  ⟨h.day.d v, ⟨h.res.row.other _ _ (by simp)⟩, h.bel.setCell (by simp) _⟩
set_option maxRecDepth 20000 in
set_option maxHeartbeats 2000000 in
theorem rciv_in (n : Int) (W : World) (h0 : 0 ≤ n) (h1 : n ≤ 8388608) :
    Calls Tryd.prog 16 #[.int .i64 n] W fun e w' => e = .returned (dtV (Cal.civ n)) ∧ Below W.heap.size W w' := by
  have d1 : decide (n < 0) = false := by simp; omega
  have d2 : decide (8388608 < n) = false := by simp; omega
  have HY := Lib.hid year_any
  have HM := Lib.hid length_any
  have hS : CvS W 1970 1 1 ((W.alloc (.cells #[.int .i64 0, .int .i64 0, .int .i64 0] 42)).alloc (.cells #[.int .i64 1970, .int .i64 1, .int .i64 1] 42)) := by
    refine ⟨⟨?_⟩, ⟨(row_new _ _ _).alloc _⟩, ((Below.refl _ _).alloc (Nat.le_refl _) _).alloc (by simp) _⟩
    have := row_new (W.alloc (.cells #[.int .i64 0, .int .i64 0, .int .i64 0] 42)) 42 #[.int .i64 1970, .int .i64 1, .int .i64 1]
    simpa using this
  have HS := Lib.hid hS; clear hS
  go_enter Tryd.func16, Tryd.ntmps16
  go_wp2_with fail
  generalize ((W.alloc (.cells #[.int .i64 0, .int .i64 0, .int .i64 0] 42)).alloc (.cells #[.int .i64 1970, .int .i64 1, .int .i64 1] 42)) = wz at *
  go_loopw [4] (fun l wr => ∃ (y left : Int), l = .int .i64 left ∧ 1970 ≤ y ∧ y ≤ 100000 ∧ 0 ≤ left ∧ left ≤ 8388608 ∧ Hid (n = Cal.sY y + left) ∧ Hid (CvS W y 1 1 wr)) (fun l _ => (intOf l).toNat)
  case atStart => exact ⟨1970, n, rfl, by omega, by omega, h0, h1, by unfold Hid; rw [Cal.sY_0]; omega, HS⟩
  case round =>
    obtain ⟨y, left, rfl, hy0, hy1, hl0, hl1, HN, HC⟩ := hrel
    have hyl := Cal.ylen_bd y
    have HYY := fun w => Lib.hid (HY.out y w (by omega) (by omega))
    obtain ⟨c0, c1, c2, f0, f1, f2⟩ := HC.out.day.cells
    obtain ⟨L, hL⟩ : ∃ L, Cal.ylen y = L := ⟨_, rfl⟩
    rw [hL] at hyl
    have hst := Cal.sY_step y
    rw [hL] at HYY hst
    obtain ⟨hyl0, hyl1⟩ := hyl
    by_cases hc : L ≤ left
    · have dd : decide (L ≤ left) = true := by simpa using hc
      have HN2 : Hid (n = Cal.sY (y + 1) + (left - L)) := by unfold Hid; rw [HN.out, hst]; omega
      have hy2 : y + 1 ≤ 100000 := sY_big n (y + 1) (by have := HN2.out; omega) h1
      clear hst hL
      have HC2 := Lib.hid (HC.out.y (y + 1))
      go_wp2_with fail
      refine (HYY _).out.mono ?_
      rintro e w' ⟨rfl, rfl⟩
      go_wp2_with fail
      refine (HYY _).out.mono ?_
      rintro e w' ⟨rfl, rfl⟩
      go_wp2_with fail
      go_roundw
      case rel => exact ⟨y + 1, left - L, by go_num, by omega, hy2, by omega, by omega, HN2, HC2⟩
      case measure => simp [intOf]; omega
    · have dd : decide (L ≤ left) = false := by simp; omega
      have HLT : left < Cal.ylen y := by rw [hL]; omega
      clear hst hL hyl0 hyl1
      go_wp2_with fail
      refine (HYY _).out.mono ?_
      rintro e w' ⟨rfl, rfl⟩
      go_wp2_with fail
      clear HYY dd hc c0 c1 c2 f0 f1 f2
      go_loopw [4] (fun l wr => ∃ (m left : Int), l = .int .i64 left ∧ 1 ≤ m ∧ m ≤ 12 ∧ 0 ≤ left ∧ left ≤ 8388608 ∧ Hid (n = Cal.sY y + Cal.cR y m + left ∧ left < Cal.ylen y - Cal.cR y m) ∧ Hid (CvS W y m 1 wr)) (fun l _ => (intOf l).toNat)
      case atStart => exact ⟨1, left, rfl, by omega, by omega, hl0, hl1, ⟨by rw [Cal.cR_1]; have := HN.out; omega, by rw [Cal.cR_1]; omega⟩, HC⟩
      case round =>
        obtain ⟨m, left, rfl, hm0, hm1, hl0, hl1, HN, HC⟩ := hrel
        have hg := Cal.mlen_ge y m
        have hle := Cal.mlen_le y m
        have HMM := fun w => Lib.hid (HM.out y m w (by omega) (by omega) hm0 hm1)
        obtain ⟨c0, c1, c2, f0, f1, f2⟩ := HC.out.day.cells
        obtain ⟨hn1, hn2⟩ := HN.out
        by_cases hc : Cal.mlen y m ≤ left
        · have h12 : m ≠ 12 := fun h => by
            have := Cal.cR_12 y
            subst h; omega
          have hst := Cal.cR_step y m hm0 (by omega)
          have HN2 : Hid (n = Cal.sY y + Cal.cR y (m + 1) + (left - Cal.mlen y m) ∧ left - Cal.mlen y m < Cal.ylen y - Cal.cR y (m + 1)) := ⟨by omega, by omega⟩
          clear hst hn1 hn2
          obtain ⟨L, hL⟩ : ∃ L, Cal.mlen y m = L := ⟨_, rfl⟩
          rw [hL] at hc hg hle HMM HN2
          clear hL
          have dd : decide (L ≤ left) = true := by simpa using hc
          have HC2 := Lib.hid (HC.out.m (m + 1))
          go_wp2_with fail
          refine (HMM _).out.mono ?_
          rintro e w' ⟨rfl, rfl⟩
          go_wp2_with fail
          refine (HMM _).out.mono ?_
          rintro e w' ⟨rfl, rfl⟩
          go_wp2_with fail
          go_roundw
          case rel => exact ⟨m + 1, left - L, by go_num, by omega, by omega, by omega, by omega, HN2, HC2⟩
          case measure => simp [intOf]; omega
        · have HE : Hid (dtV (Cal.civ n) = .agg #[.int .i64 y, .int .i64 m, .int .i64 (left + 1)]) := by
            unfold Hid
            rw [Cal.civ_of n y m (left + 1) hy0 hm0 hm1 (by omega) (by omega) (by omega) h0]; rfl
          obtain ⟨L, hL⟩ : ∃ L, Cal.mlen y m = L := ⟨_, rfl⟩
          rw [hL] at hc hg hle HMM
          clear hL hn1 hn2
          have dd : decide (L ≤ left) = false := by simp; omega
          have HC2 := Lib.hid (HC.out.d (left + 1))
          go_wp2_with fail
          refine (HMM _).out.mono ?_
          rintro e w' ⟨rfl, rfl⟩
          obtain ⟨e0, e1, e2, k0, k1, k2⟩ := HC.out.res.cells
          have HB := Lib.hid HC2.out.bel
          clear HC HC2
          go_wp2_with fail
          exact bodyPost_ret (v := .agg #[.int .i64 y, .int .i64 m, .int .i64 (left + 1)]) (by simp [results, Tryd.results16, go_sem, e0, e1, e2]) rfl ⟨by rw [HE.out], ((HB.out.setCell (Nat.le_refl _) _).setCell (Nat.le_refl _) _).setCell (Nat.le_refl _) _⟩
set_option maxRecDepth 20000 in
set_option maxHeartbeats 1000000 in
theorem rciv_out (n : Int) (w : World) (h : n < 0 ∨ 8388608 < n) :
    Calls Tryd.prog 16 #[.int .i64 n] w fun e w' => e = .returned (.agg #[.int .i64 0, .int .i64 0, .int .i64 0]) ∧ Below w.heap.size w w' := by
  rcases h with h | h
  · have h1 : decide (n < 0) = true := by simpa using h
    go_enter Tryd.func16, Tryd.ntmps16
    go_wp2
    exact bodyPost_ret (v := .agg #[.int .i64 0, .int .i64 0, .int .i64 0]) (by simp [results, Tryd.results16, go_sem]) rfl ⟨rfl, (Below.refl _ _).alloc (Nat.le_refl _) _⟩
  · have h1 : decide (n < 0) = false := by simp; omega
    have h2 : decide (8388608 < n) = true := by simpa using h
    go_enter Tryd.func16, Tryd.ntmps16
    go_wp2
    exact bodyPost_ret (v := .agg #[.int .i64 0, .int .i64 0, .int .i64 0]) (by simp [results, Tryd.results16, go_sem]) rfl ⟨rfl, (Below.refl _ _).alloc (Nat.le_refl _) _⟩
theorem rcivil_any (n : Int) (w : World) : Calls Tryd.prog 16 #[.int .i64 n] w fun e w' => e = .returned (dtV (civC n)) ∧ Below w.heap.size w w' := by
  unfold civC
  by_cases h : n < 0 ∨ 8388608 < n
  · rw [if_pos h]; exact rciv_out n w h
  · rw [if_neg h]; exact rciv_in n w (by omega) (by omega)
end Go.Proofs.YtlikmdmdmljiaaaDoor
