/- The frame of bytes: siloref23.Read (written by gen-link-rread.py). -/
import Derived.Test.YtjgjhjecgdndjaaLinkRead
namespace Go.Proofs.Ytjgjhjecgdndjaa
open Go.RowKit
set_option linter.unusedVariables false
set_option linter.unusedSimpArgs false
set_option maxRecDepth 20000 in
set_option maxHeartbeats 3000000 in
theorem rread_any (s : ByteArray) (hs : s.size ≤ 1000000) (w : World) : Calls Try.prog 8 #[.string s] w fun e w' => e = .returned (.tuple #[FrV (lRead s.data.toList).1, .int .i64 ((lRead s.data.toList).2 : Nat)]) ∧ Below w.heap.size w w' := by
  have HO := Lib.hid (refOpen_any s (by omega))
  have hl : s.data.toList.length = s.size := by simp
  obtain ⟨R, hR⟩ : ∃ R, R = lRead s.data.toList := ⟨_, rfl⟩
  rw [← hR]
  unfold lRead at hR
  rw [hl] at hR
  have hsm := fOpen_len s.data.toList
  have hnle := fun h => (fOpen_back s.data.toList h).2
  rw [hl] at hsm hnle
  generalize fOpen s.data.toList = r at *
  obtain ⟨t, n, e0⟩ := r
  dsimp only at *
  have HBW : Hid (Below w.heap.size w (w.alloc (.cells #[.int .u64 0, .int .i64 0, .int .i64 0, .string ⟨#[]⟩] 24))) := (Below.refl _ _).alloc (Nat.le_refl _) _
  have HBX := Lib.hid (res0_new w)
  clear hl
  by_cases hE : e0 ≠ 0 ∨ n < s.size
  · rw [if_pos hE] at hR
    subst hR
    rw [lRead_zero]
    go_enter Try.func8, Try.ntmps8
    go_wp2_with fail
    refine (HO.out _).mono ?_
    rintro e w1 ⟨rfl, b1⟩
    replace HBX := Lib.hid (HBX.out.below b1 HBX.out.lt)
    replace HBW := Lib.hid (HBW.out.trans (b1.mono HBW.out.size))
    clear b1 HO
    by_cases h0 : e0 = 0
    · have h1 : n < s.size := by omega
      have dn : ((n : Int) != (s.size : Int)) = true := by rw [bne_iff_ne]; omega
      have dz : (((e0 : Nat) : Int) != 0) = false := by subst h0; rfl
      clear hE
      obtain ⟨d0, d1, d2, d3, gf, _⟩ := HBX.out
      have g0 := gf 0
      have g1 := gf 1
      have g2 := gf 2
      have g3 := gf 3
      clear gf HBX
      go_wp2_with fail
      (try simp only [Exit.inBlock, Exit.then])
      refine bodyPost_cell (V := .agg #[.int .u64 0, .int .i64 0, .int .i64 0, .string ⟨#[]⟩]) rfl rfl ?_ rfl ?_
      · go_simp
      · exact ⟨rfl, below_set4 HBW.out (Nat.le_refl _) _ _ _ _⟩
    · have dz : (((e0 : Nat) : Int) != 0) = true := by rw [bne_iff_ne]; omega
      clear hE
      obtain ⟨d0, d1, d2, d3, gf, _⟩ := HBX.out
      have g0 := gf 0
      have g1 := gf 1
      have g2 := gf 2
      have g3 := gf 3
      clear gf HBX
      go_wp2_with fail
      (try simp only [Exit.inBlock, Exit.then])
      refine bodyPost_cell (V := .agg #[.int .u64 0, .int .i64 0, .int .i64 0, .string ⟨#[]⟩]) rfl rfl ?_ rfl ?_
      · go_simp
      · exact ⟨rfl, below_set4 HBW.out (Nat.le_refl _) _ _ _ _⟩
  · rw [if_neg hE] at hR
    have h0 : e0 = 0 := by omega
    have h1 : ¬ n < s.size := by omega
    have h1' : n = s.size := by have := hnle h0; omega
    have dn : ((n : Int) != (s.size : Int)) = false := by rw [bne_eq_false_iff_eq]; omega
    subst h1'
    clear h1
    have dz : (((e0 : Nat) : Int) != 0) = false := by subst h0; rfl
    obtain ⟨T0, hT0⟩ : ∃ T0 : ByteArray, T0 = ⟨t.toArray⟩ := ⟨_, rfl⟩
    have hd0 : T0.data.toList = t := by rw [hT0]
    have sz0 : T0.size = t.length := by rw [hT0]; simp [ByteArray.size]
    obtain ⟨x0, k0, c0, v0⟩ : ∃ x k c, vTake t = (x, k, c) := ⟨_, _, _, rfl⟩
    obtain ⟨T1, hT1⟩ : ∃ T1, T1 = T0.extract k0 T0.size := ⟨_, rfl⟩
    have hd1 : T1.data.toList = t.drop k0 := by rw [hT1, extract_to', hd0]
    have sz1 : T1.size ≤ T0.size := by rw [hT1]; simp
    obtain ⟨x1, k1, c1, v1⟩ : ∃ x k c, vTake (t.drop k0) = (x, k, c) := ⟨_, _, _, rfl⟩
    obtain ⟨T2, hT2⟩ : ∃ T2, T2 = T1.extract k1 T1.size := ⟨_, rfl⟩
    have hd2 : T2.data.toList = (t.drop k0).drop k1 := by rw [hT2, extract_to', hd1]
    have sz2 : T2.size ≤ T1.size := by rw [hT2]; simp
    obtain ⟨x2, k2, c2, v2⟩ : ∃ x k c, vTake ((t.drop k0).drop k1) = (x, k, c) := ⟨_, _, _, rfl⟩
    obtain ⟨T3, hT3⟩ : ∃ T3, T3 = T2.extract k2 T2.size := ⟨_, rfl⟩
    have hd3 : T3.data.toList = ((t.drop k0).drop k1).drop k2 := by rw [hT3, extract_to', hd2]
    have sz3 : T3.data.toList.length = T3.size := by simp
    have hL : lTake3 t = if c0 ≠ 0 then none else if c1 ≠ 0 then none else if c2 ≠ 0 then none else some (x0, x1, x2, T3.data.toList) := by
      unfold lTake3
      rw [v0]
      dsimp only
      rw [v1]
      dsimp only
      rw [v2, hd3]
    rw [hL] at hR
    have HN0 : Hid (c0 ≠ 0 → R = (lZero, 2)) := fun h => by rw [hR, if_pos h]
    have HN1 : Hid (c0 = 0 → c1 ≠ 0 → R = (lZero, 2)) := fun h h' => by rw [hR, if_neg (by omega), if_pos h']
    have HN2 : Hid (c0 = 0 → c1 = 0 → c2 ≠ 0 → R = (lZero, 2)) := fun h h' h'' => by rw [hR, if_neg (by omega), if_neg (by omega), if_pos h'']
    have HNB : Hid (c0 = 0 → c1 = 0 → c2 = 0 → (1073741824 < x1 ∨ 1073741824 < x2 ∨ 60000 < T3.size) → R = (lZero, 2)) := fun h h' h'' hb => by
      rw [hR, if_neg (by omega), if_neg (by omega), if_neg (by omega)]; show (if _ then _ else _) = _; rw [sz3, if_pos hb]
    have HNG : Hid (c0 = 0 → c1 = 0 → c2 = 0 → ¬ (1073741824 < x1 ∨ 1073741824 < x2 ∨ 60000 < T3.size) → R = ((x0, x1, x2, T3.data.toList), 0)) := fun h h' h'' hb => by
      rw [hR, if_neg (by omega), if_neg (by omega), if_neg (by omega)]; show (if _ then _ else _) = _; rw [sz3, if_neg hb]
    have hx0 := (vTake_lt t).1
    have hx1 := (vTake_lt (t.drop k0)).1
    have hx2 := (vTake_lt ((t.drop k0).drop k1)).1
    have HOK0 : Hid (c0 = 0 → k0 ≤ T0.size) := fun h => by have := (vTake_le t (by rw [v0]; exact h)).1; rw [v0] at this; rw [sz0]; exact this
    have HOK1 : Hid (c1 = 0 → k1 ≤ T1.size) := fun h => by have := (vTake_le (t.drop k0) (by rw [v1]; exact h)).1; rw [v1, ← hd1] at this; simpa using this
    have HOK2 : Hid (c2 = 0 → k2 ≤ T2.size) := fun h => by have := (vTake_le ((t.drop k0).drop k1) (by rw [v2]; exact h)).1; rw [v2, ← hd2] at this; simpa using this
    rw [v0] at hx0
    rw [v1] at hx1
    rw [v2] at hx2
    have HT0 := Lib.hid (refTake_any T0 (by unfold maxLen; omega))
    have HT1 := Lib.hid (refTake_any T1 (by unfold maxLen; omega))
    have HT2 := Lib.hid (refTake_any T2 (by unfold maxLen; omega))
    rw [hd0, v0] at HT0
    rw [hd1, v1] at HT1
    rw [hd2, v2] at HT2
    have HE1 := Lib.hid hT1
    have HE2 := Lib.hid hT2
    have HE3 := Lib.hid hT3
    have h3 : T0.size ≤ 1000000 := by omega
    have h4 : T1.size ≤ 1000000 := by omega
    have h5 : T2.size ≤ 1000000 := by omega
    rw [← hT0] at HO
    clear hR hL v0 v1 v2 hd0 hd1 hd2 hd3 hT1 hT2 hT3 hT0 sz0 sz1 sz2 sz3 hsm hE
    dsimp only at hx0 hx1 hx2 HT0 HT1 HT2
    go_enter Try.func8, Try.ntmps8
    go_wp2_with fail
    refine (HO.out _).mono ?_
    rintro e w1 ⟨rfl, b1⟩
    replace HBX := Lib.hid (HBX.out.below b1 HBX.out.lt)
    replace HBW := Lib.hid (HBW.out.trans (b1.mono HBW.out.size))
    clear b1 HO
    go_wp2_with fail
    have hv := cells3u (heap_alloc_new w1 (.cells #[.int .u64 0, .int .u64 0, .int .u64 0] 55))
    have hbv : Below w1.heap.size w1 (w1.alloc (.cells #[.int .u64 0, .int .u64 0, .int .u64 0] 55)) := (Below.refl _ _).alloc (Nat.le_refl _) _
    obtain ⟨wv, hwv⟩ : ∃ wv, wv = w1.alloc (.cells #[.int .u64 0, .int .u64 0, .int .u64 0] 55) := ⟨_, rfl⟩
    obtain ⟨b, hb⟩ : ∃ b, b = w1.heap.size := ⟨_, rfl⟩
    rw [← hwv] at hv hbv
    rw [← hb] at hv
    have hbw : w.heap.size < b := by rw [hb]; exact HBX.out.lt
    have HV := Lib.hid hv
    replace HBX := Lib.hid (HBX.out.below hbv HBX.out.lt)
    replace HBW := Lib.hid (HBW.out.trans (hbv.mono HBW.out.size))
    rw [← hwv, ← hb]
    clear hv hbv hwv hb
    refine wp_loop_rounds 4 ?_
    rw [rounds_succ]
    go_wp2_with fail
    refine (HT0.out _).mono ?_
    rintro e wt ⟨rfl, rfl⟩
    clear HT0
    by_cases hc0 : c0 = 0
    case neg =>
      have hz : R = (lZero, 2) := HN0.out hc0
      subst hz
      have dz : (((c0 : Nat) : Int) != 0) = true := by rw [bne_iff_ne]; omega
      obtain ⟨d0, d1, d2, d3, gf, _⟩ := HBX.out
      have g0 := gf 0
      have g1 := gf 1
      have g2 := gf 2
      have g3 := gf 3
      clear gf HBX
      go_wp2_with fail
      (try simp only [Exit.inBlock, Exit.then])
      refine bodyPost_cell (V := .agg #[.int .u64 0, .int .i64 0, .int .i64 0, .string ⟨#[]⟩]) rfl rfl ?_ rfl ?_
      · go_simp
      · exact ⟨rfl, below_set4 HBW.out (Nat.le_refl _) _ _ _ _⟩
    have dz0 : (((c0 : Nat) : Int) != 0) = false := by rw [hc0]; rfl
    have hk0 := HOK0.out hc0
    have gk1 : ((k0 : Nat) : Int) ≤ (T0.size : Int) := by omega
    have gk2 : (0 : Int) ≤ ((k0 : Nat) : Int) := by omega
    have gk3 : (((k0 : Nat) : Int)).toNat = k0 := Int.toNat_natCast _
    have ge : T0.extract k0 T0.size = T1 := HE1.out.symm
    have vc := HV.out.c0
    have vf := HV.out.f 0
    go_wp2_with fail
    replace HV := Lib.hid (HV.out.set0 (u := x0))
    replace HBX := Lib.hid (HBX.out.set_other (j := 0) (u := .int .u64 x0) (show b ≠ w.heap.size by omega))
    replace HBW := Lib.hid (HBW.out.setCell (p := ⟨b, 0, none⟩) (Nat.le_of_lt hbw) (.int .u64 x0))
    obtain ⟨wu0, hwu⟩ : ∃ wu, wu = wv.setCell ⟨b, 0, none⟩ (.int .u64 x0) := ⟨_, rfl⟩
    rw [← hwu] at HV HBX HBW ⊢
    clear hwu vc vf gk1 gk2 gk3 ge
    rw [rounds_succ]
    go_wp2_with fail
    refine (HT1.out _).mono ?_
    rintro e wt ⟨rfl, rfl⟩
    clear HT1
    by_cases hc1 : c1 = 0
    case neg =>
      have hz : R = (lZero, 2) := HN1.out hc0 hc1
      subst hz
      have dz : (((c1 : Nat) : Int) != 0) = true := by rw [bne_iff_ne]; omega
      obtain ⟨d0, d1, d2, d3, gf, _⟩ := HBX.out
      have g0 := gf 0
      have g1 := gf 1
      have g2 := gf 2
      have g3 := gf 3
      clear gf HBX
      go_wp2_with fail
      (try simp only [Exit.inBlock, Exit.then])
      refine bodyPost_cell (V := .agg #[.int .u64 0, .int .i64 0, .int .i64 0, .string ⟨#[]⟩]) rfl rfl ?_ rfl ?_
      · go_simp
      · exact ⟨rfl, below_set4 HBW.out (Nat.le_refl _) _ _ _ _⟩
    have dz1 : (((c1 : Nat) : Int) != 0) = false := by rw [hc1]; rfl
    have hk1 := HOK1.out hc1
    have gk1 : ((k1 : Nat) : Int) ≤ (T1.size : Int) := by omega
    have gk2 : (0 : Int) ≤ ((k1 : Nat) : Int) := by omega
    have gk3 : (((k1 : Nat) : Int)).toNat = k1 := Int.toNat_natCast _
    have ge : T1.extract k1 T1.size = T2 := HE2.out.symm
    have vc := HV.out.c1
    have vf := HV.out.f 1
    go_wp2_with fail
    replace HV := Lib.hid (HV.out.set1 (u := x1))
    replace HBX := Lib.hid (HBX.out.set_other (j := 1) (u := .int .u64 x1) (show b ≠ w.heap.size by omega))
    replace HBW := Lib.hid (HBW.out.setCell (p := ⟨b, 1, none⟩) (Nat.le_of_lt hbw) (.int .u64 x1))
    obtain ⟨wu1, hwu⟩ : ∃ wu, wu = wu0.setCell ⟨b, 1, none⟩ (.int .u64 x1) := ⟨_, rfl⟩
    rw [← hwu] at HV HBX HBW ⊢
    clear hwu vc vf gk1 gk2 gk3 ge
    rw [rounds_succ]
    go_wp2_with fail
    refine (HT2.out _).mono ?_
    rintro e wt ⟨rfl, rfl⟩
    clear HT2
    by_cases hc2 : c2 = 0
    case neg =>
      have hz : R = (lZero, 2) := HN2.out hc0 hc1 hc2
      subst hz
      have dz : (((c2 : Nat) : Int) != 0) = true := by rw [bne_iff_ne]; omega
      obtain ⟨d0, d1, d2, d3, gf, _⟩ := HBX.out
      have g0 := gf 0
      have g1 := gf 1
      have g2 := gf 2
      have g3 := gf 3
      clear gf HBX
      go_wp2_with fail
      (try simp only [Exit.inBlock, Exit.then])
      refine bodyPost_cell (V := .agg #[.int .u64 0, .int .i64 0, .int .i64 0, .string ⟨#[]⟩]) rfl rfl ?_ rfl ?_
      · go_simp
      · exact ⟨rfl, below_set4 HBW.out (Nat.le_refl _) _ _ _ _⟩
    have dz2 : (((c2 : Nat) : Int) != 0) = false := by rw [hc2]; rfl
    have hk2 := HOK2.out hc2
    have gk1 : ((k2 : Nat) : Int) ≤ (T2.size : Int) := by omega
    have gk2 : (0 : Int) ≤ ((k2 : Nat) : Int) := by omega
    have gk3 : (((k2 : Nat) : Int)).toNat = k2 := Int.toNat_natCast _
    have ge : T2.extract k2 T2.size = T3 := HE3.out.symm
    have vc := HV.out.c2
    have vf := HV.out.f 2
    go_wp2_with fail
    replace HV := Lib.hid (HV.out.set2 (u := x2))
    replace HBX := Lib.hid (HBX.out.set_other (j := 2) (u := .int .u64 x2) (show b ≠ w.heap.size by omega))
    replace HBW := Lib.hid (HBW.out.setCell (p := ⟨b, 2, none⟩) (Nat.le_of_lt hbw) (.int .u64 x2))
    obtain ⟨wu2, hwu⟩ : ∃ wu, wu = wu1.setCell ⟨b, 2, none⟩ (.int .u64 x2) := ⟨_, rfl⟩
    rw [← hwu] at HV HBX HBW ⊢
    clear hwu vc vf gk1 gk2 gk3 ge
    rw [rounds_succ]
    have vv0 := HV.out.c0
    have vv1 := HV.out.c1
    have vv2 := HV.out.c2
    clear HV
    by_cases hM1 : 1073741824 < x1
    · have dm : decide ((1073741824 : Int) < (x1 : Int)) = true := by simp; omega
      have hz : R = (lZero, 2) := HNB.out hc0 hc1 hc2 (by omega)
      subst hz
      obtain ⟨d0, d1, d2, d3, gf, _⟩ := HBX.out
      have g0 := gf 0
      have g1 := gf 1
      have g2 := gf 2
      have g3 := gf 3
      clear gf HBX
      go_wp2_with fail
      (try simp only [Exit.inBlock, Exit.then])
      refine bodyPost_cell (V := .agg #[.int .u64 0, .int .i64 0, .int .i64 0, .string ⟨#[]⟩]) rfl rfl ?_ rfl ?_
      · go_simp
      · exact ⟨rfl, below_set4 HBW.out (Nat.le_refl _) _ _ _ _⟩
    · have dm : decide ((1073741824 : Int) < (x1 : Int)) = false := by simp; omega
      by_cases hM2 : 1073741824 < x2
      · have dm2 : decide ((1073741824 : Int) < (x2 : Int)) = true := by simp; omega
        have hz : R = (lZero, 2) := HNB.out hc0 hc1 hc2 (by omega)
        subst hz
        obtain ⟨d0, d1, d2, d3, gf, _⟩ := HBX.out
        have g0 := gf 0
        have g1 := gf 1
        have g2 := gf 2
        have g3 := gf 3
        clear gf HBX
        go_wp2_with fail
        (try simp only [Exit.inBlock, Exit.then])
        refine bodyPost_cell (V := .agg #[.int .u64 0, .int .i64 0, .int .i64 0, .string ⟨#[]⟩]) rfl rfl ?_ rfl ?_
        · go_simp
        · exact ⟨rfl, below_set4 HBW.out (Nat.le_refl _) _ _ _ _⟩
      · have dm2 : decide ((1073741824 : Int) < (x2 : Int)) = false := by simp; omega
        have hb1 : x1 ≤ 1073741824 := by omega
        have hb2 : x2 ≤ 1073741824 := by omega
        have HFT := Lib.hid (fun w => rfits_any (UInt64.ofNat x0) x1 x2 T3 w)
        have hx0u : (UInt64.ofNat x0).toNat = x0 := by rw [UInt64.toNat_ofNat']; exact Nat.mod_eq_of_lt hx0
        unfold Fr at HFT
        rw [hx0u] at HFT
        by_cases hT : 60000 < T3.size
        · have hlf : lFits (x1 : Int) (x2 : Int) T3.size = false := by unfold lFits; simp; omega
          rw [hlf] at HFT
          have hz : R = (lZero, 2) := HNB.out hc0 hc1 hc2 (by omega)
          subst hz
          go_wp2_with fail
          have hba : Below wu2.heap.size wu2 (wu2.alloc (.cells #[.int .u64 x0, .int .i64 x1, .int .i64 x2, .string T3] 24)) := (Below.refl _ _).alloc (Nat.le_refl _) _
          obtain ⟨q0, q1, q2, q3, _⟩ := cells4 (heap_alloc_new wu2 (.cells #[.int .u64 x0, .int .i64 x1, .int .i64 x2, .string T3] 24))
          refine (HFT.out _).mono ?_
          rintro e wf ⟨rfl, bf⟩
          have hbf : Below wu2.heap.size wu2 wf := hba.trans (bf.mono (by simp))
          replace q0 := (bf.cell (p := ⟨wu2.heap.size, 0, none⟩) (by simp)).trans q0
          replace q1 := (bf.cell (p := ⟨wu2.heap.size, 1, none⟩) (by simp)).trans q1
          replace q2 := (bf.cell (p := ⟨wu2.heap.size, 2, none⟩) (by simp)).trans q2
          replace q3 := (bf.cell (p := ⟨wu2.heap.size, 3, none⟩) (by simp)).trans q3
          replace HBX := Lib.hid (HBX.out.below hbf HBX.out.lt)
          replace HBW := Lib.hid (HBW.out.trans (hbf.mono HBW.out.size))
          clear hba bf hbf HFT
          obtain ⟨d0, d1, d2, d3, gf, _⟩ := HBX.out
          have g0 := gf 0
          have g1 := gf 1
          have g2 := gf 2
          have g3 := gf 3
          clear gf HBX
          go_wp2_with fail
          (try simp only [Exit.inBlock, Exit.then])
          refine bodyPost_cell (V := .agg #[.int .u64 0, .int .i64 0, .int .i64 0, .string ⟨#[]⟩]) rfl rfl ?_ rfl ?_
          · go_simp
          · exact ⟨rfl, below_set4 HBW.out (Nat.le_refl _) _ _ _ _⟩
        · have hlf : lFits (x1 : Int) (x2 : Int) T3.size = true := by unfold lFits; simp; omega
          rw [hlf] at HFT
          have hz : R = ((x0, x1, x2, T3.data.toList), 0) := HNG.out hc0 hc1 hc2 (by omega)
          subst hz
          go_wp2_with fail
          have hba : Below wu2.heap.size wu2 (wu2.alloc (.cells #[.int .u64 x0, .int .i64 x1, .int .i64 x2, .string T3] 24)) := (Below.refl _ _).alloc (Nat.le_refl _) _
          obtain ⟨q0, q1, q2, q3, _⟩ := cells4 (heap_alloc_new wu2 (.cells #[.int .u64 x0, .int .i64 x1, .int .i64 x2, .string T3] 24))
          refine (HFT.out _).mono ?_
          rintro e wf ⟨rfl, bf⟩
          have hbf : Below wu2.heap.size wu2 wf := hba.trans (bf.mono (by simp))
          replace q0 := (bf.cell (p := ⟨wu2.heap.size, 0, none⟩) (by simp)).trans q0
          replace q1 := (bf.cell (p := ⟨wu2.heap.size, 1, none⟩) (by simp)).trans q1
          replace q2 := (bf.cell (p := ⟨wu2.heap.size, 2, none⟩) (by simp)).trans q2
          replace q3 := (bf.cell (p := ⟨wu2.heap.size, 3, none⟩) (by simp)).trans q3
          replace HBX := Lib.hid (HBX.out.below hbf HBX.out.lt)
          replace HBW := Lib.hid (HBW.out.trans (hbf.mono HBW.out.size))
          clear hba bf hbf HFT
          obtain ⟨d0, d1, d2, d3, gf, _⟩ := HBX.out
          have g0 := gf 0
          have g1 := gf 1
          have g2 := gf 2
          have g3 := gf 3
          clear gf HBX
          go_wp2_with fail
          (try simp only [Exit.inBlock, Exit.then])
          refine bodyPost_cell (V := .agg #[.int .u64 x0, .int .i64 x1, .int .i64 x2, .string T3]) rfl rfl ?_ rfl ?_
          · go_simp
          · refine ⟨?_, below_set4 HBW.out (Nat.le_refl _) _ _ _ _⟩
            unfold FrV
            dsimp only
            rw [show (⟨T3.data.toList.toArray⟩ : ByteArray) = T3 from by apply ByteArray.ext; simp]
            rfl
end Go.Proofs.Ytjgjhjecgdndjaa
