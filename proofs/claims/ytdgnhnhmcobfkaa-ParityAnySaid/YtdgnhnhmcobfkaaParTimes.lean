/- Times of both packages, the result a row of the call's own: walks (written by gen-par-times.py). -/
import Derived.Test.YtdgnhnhmcobfkaaParGrow
namespace Go.Proofs.Ytdgnhnhmcobfkaa
open Go.RowKit
set_option linter.unusedVariables false
set_option linter.unusedSimpArgs false
set_option maxRecDepth 20000 in
set_option maxHeartbeats 4000000 in
theorem times_own (w : World) (va vb : Value) (m l : List ByteArray) (ha : StrsB w va m) (hb : StrsB w vb l) (hok : timesOk m l = true) (hsz : firstN l ≤ 1000000000) :
    Calls Try.prog 20 #[va, vb] w fun e w' => ∃ v, e = .returned (.tuple #[v, .bool true]) ∧ w'.ownsRow w.heap.size 9 1 v (timesL m l).length ((timesL m l).map .string) ∧ Below w.heap.size w w' := by
  have HL : Hid (timesL m l = (List.range m.length).map (timesRow m l)) := by unfold Hid timesL; rw [if_pos hok]
  unfold timesOk at hok
  rw [Bool.and_eq_true, decide_eq_true_iff] at hok
  obtain ⟨⟨hw0, hwn⟩, hev⟩ := hok
  obtain ⟨hm0, hm16, hme, hmw⟩ := widthN_ne hw0
  have hle : evenL l = true ∧ l.length ≤ 16 := by unfold evenB at hev; rwa [Bool.and_eq_true, decide_eq_true_iff] at hev
  have HWD := Lib.hid (width_any w va m ha)
  have HEV := Lib.hid (even_any w vb l hb)
  rw [hev] at HEV
  rw [hwn] at HWD hw0 hmw
  have HMR : Hid (∀ i (h : i < m.length), m[i].size = l.length) := fun i h => (evenL_get hme i h).trans hmw.symm
  have HLR : Hid (∀ i (h : i < l.length), l[i].size = firstN l) := fun i h => evenL_get hle.1 i h
  have HM16 := Lib.hid hm16
  obtain ⟨Am, cm, rfl, h1, h2⟩ := ha.len
  have HCm := Lib.hid (ha.cells hm0)
  obtain ⟨Al, cl, rfl, h3, h4⟩ := hb.len
  have hl0 : 0 < l.length := by omega
  have HCl := Lib.hid (hb.cells hl0)
  obtain ⟨bm, om, rfl, hbm, HCM⟩ := HCm.out
  obtain ⟨bl, ol, rfl, hbl, HCL⟩ := HCl.out
  have HCM := Lib.hid HCM
  have HCL := Lib.hid HCL
  have hl16 : l.length ≤ 16 := hle.2
  have hd0 : ((l.length : Int) == 0) = false := by rw [beq_eq_false_iff_ne]; omega
  clear ha hb hwn hev hme hmw hle HCm HCl h1 h2 h3 h4 hw0
  have hmI : m.length ≤ 9223372036854775807 := by omega
  have hlI : l.length ≤ 9223372036854775807 := by omega
  obtain ⟨W, hW⟩ : ∃ W, firstN l = W := ⟨_, rfl⟩
  have HFW : Hid (firstN l = W) := hW
  rw [hW] at hsz HLR
  clear hW
  go_enter Try.func20, Try.ntmps20
  go_wp2_with fail
  refine HWD.out.mono ?_
  rintro e w' ⟨rfl, rfl⟩
  go_wp2_with fail
  refine HEV.out.mono ?_
  rintro e w' ⟨rfl, rfl⟩
  go_wp2_with fail
  clear hd0 HWD HEV
  go_loopw [7, 30] (fun v i wr => ∃ j : Nat, j ≤ m.length ∧ i = .int .i64 j ∧ Hid (wr.ownsRow w.heap.size 9 1 v ((List.range j).map (timesRow m l)).length (((List.range j).map (timesRow m l)).map .string)) ∧ Hid (Below w.heap.size w wr)) (fun _ i _ => m.length - (intOf i).toNat)
  case atStart => exact ⟨0, Nat.zero_le _, rfl, World.ownsRow_nil _ _ _ _, Below.refl _ _⟩
  case round =>
    obtain ⟨i, hi, rfl, HO, HB⟩ := hrel
    obtain ⟨wo, hwo⟩ : ∃ wo, wo = wr := ⟨_, rfl⟩
    subst hwo
    by_cases hlt : i < m.length
    · have hlt' : (i : Int) < (m.length : Int) := by omega
      have e1 : wo.cell? ⟨bm, om + i, none⟩ = some (.string m[i]) := (HB.out.cell (p := ⟨bm, om + i, none⟩) hbm).trans (HCM.out i hlt)
      have e2 : wo.cell? ⟨bl, ol, none⟩ = some (.string l[0]) := (HB.out.cell (p := ⟨bl, ol, none⟩) hbl).trans (HCL.out 0 hl0)
      have z0 : l[0].size = W := HLR.out 0 hl0
      have zx : m[i].size = l.length := HMR.out i hlt
      have HX : Hid (∀ j k, um (mt m i j) (mt l j k) = um (rw' m[i] j) (mt l j k)) := fun j k => by rw [mt_get hlt]
      generalize l[0] = y0 at *
      generalize m[i] = x at *
      go_wp2_with (at_make; refine wpList_make_bytes rfl _ _ 63 rfl Try.underlying63 W rfl rfl (by omega) ?_)
      intro w1 hF hB1
      have HF := Lib.hid hF; clear hF
      have HB1 := Lib.hid hB1; clear hB1
      clear e1 e2 z0
      go_wp2_with fail
      go_loopw [41] (fun q wr => ∃ j : Nat, j ≤ l.length ∧ q = .int .i64 j ∧ Hid (FRow wr wo.heap.size W (fun k => sg j (fun q => um (rw' x q) (mt l q k)))) ∧ Hid (Below wo.heap.size wo wr)) (fun q _ => l.length - (intOf q).toNat)
      case atStart => exact ⟨0, Nat.zero_le _, rfl, HF.out, HB1.out⟩
      case round =>
        obtain ⟨j, hj, rfl, HFq, HBq⟩ := hrel
        by_cases hjl : j < l.length
        · have hjl' : (j : Int) < (l.length : Int) := by omega
          have hjx : j < x.size := by omega
          have hjx' : (j : Int) < (x.size : Int) := by omega
          have e3 : wr.cell? ⟨bl, ol + j, none⟩ = some (.string l[j]) := by
            have hb2 : bl < wo.heap.size := Nat.lt_of_lt_of_le hbl HB.out.size
            exact (HBq.out.cell (p := ⟨bl, ol + j, none⟩) hb2).trans ((HB.out.cell (p := ⟨bl, ol + j, none⟩) hbl).trans (HCL.out j hjl))
          have zj : l[j].size = W := HLR.out j hjl
          have HMJ : Hid (∀ k, mt l j k = rw' l[j] k) := fun k => mt_get hjl k
          have HXJ : Hid (x[j] = rw' x j) := rw_get x j hjx
          generalize l[j] = y at *
          obtain ⟨W2, cap, hcv, hF2, hB2⟩ := conv_bytes wr y (by omega)
          have hadd := add_any wo.heap.size W W wr.heap.size W cap x[j] (rw' y) (fun k => sg j (fun q => um (rw' x q) (mt l q k))) W2 (HFq.out.below hB2) (by rw [zj] at hF2; exact hF2) (by have := HFq.out.lt; omega) (Nat.le_refl _) (by omega)
          rw [zj] at hcv
          have HA := Lib.hid hadd; clear hadd
          have HB2 := Lib.hid hB2; clear hB2 hF2
          have hq1 := HBq.out.size
          go_wp2_with fail
          refine HA.out.mono ?_
          rintro e w3 ⟨rfl, hf3, hg3⟩
          have HF3 : Hid (FRow w3 wo.heap.size W (fun k => sg (j + 1) (fun q => um (rw' x q) (mt l q k)))) := hf3.congr fun k hk => by
            unfold adF; rw [if_pos hk]
            show _ = sg j _ ^^^ _
            rw [HXJ.out, ← HMJ.out]
          have HB3 : Hid (Below wo.heap.size wo w3) := (HBq.out.trans (HB2.out.mono hq1)).grown hg3 (Nat.le_trans hq1 HB2.out.size) (fun k e => by injection e with e; omega)
          clear hf3 hg3
          go_wp2_with fail
          go_roundw
          case rel => exact ⟨j + 1, by omega, by go_num, HF3, HB3⟩
          case measure => simp [intOf]; omega
        · obtain rfl : j = l.length := by omega
          have hcs := conv_str HFq.out 0 W W (by omega)
          have HE : Hid (bytesF W (fun k => (fun k => sg l.length (fun q => um (rw' x q) (mt l q k))) (0 + k)) = timesRow m l i) := by
            unfold Hid timesRow
            rw [HFW.out]
            exact bytesF_congr fun k hk => by
              simp only [Nat.zero_add]
              exact sg_congr fun q _ => (HX.out q k).symm
          rw [HE.out] at hcs
          have hown2 := HO.out.kept (grown_of_below HBq.out none) (by
            by_cases e : u7.ownBlock = none
            · exact .inl e
            · exact .inr e)
          have hi3 : ((List.range i).map (timesRow m l)).length + 1 ≤ 1000000000 := by simp; omega
          have hq1 := HBq.out.size
          have hs1 := HB.out.size
          have HR : Hid ((List.range i).map (timesRow m l) ++ [timesRow m l i] = (List.range (i + 1)).map (timesRow m l)) := by unfold Hid; rw [List.range_succ, List.map_append]; rfl
          generalize timesRow m l i = z at *
          generalize (List.range i).map (timesRow m l) = out at *
          go_wp2_with (at_builtin; refine wpList_push_str rfl _ _ 31 rfl Try.underlying31 w.heap.size _ out rfl (hown2.alloc _) ⟨wr.heap.size, 0, none⟩ _ z rfl (by simp) hi3 (by simp; omega) ?_)
          intro v' w4 hown4 hg4
          have HO4 : Hid (w4.ownsRow w.heap.size 9 1 v' ((List.range (i + 1)).map (timesRow m l)).length (((List.range (i + 1)).map (timesRow m l)).map .string)) := by unfold Hid; rw [← HR.out]; simpa using hown4
          have HB4 : Hid (Below w.heap.size w w4) := ((HB.out.trans (HBq.out.mono hs1)).alloc (by omega) _).grown hg4 (by simp; omega) (fun k hk => (hown2.lt k hk).1)
          clear hown4 hg4 hcs
          go_wp2_with fail
          go_roundw
          case rel => exact ⟨i + 1, by omega, by go_num, HO4, HB4⟩
          case measure => simp [intOf]; omega
    · obtain rfl : i = m.length := by omega
      go_wp2_with fail
      go_ret2
      exact ⟨_, rfl, by rw [HL.out]; exact HO.out, HB.out⟩
set_option maxRecDepth 20000 in
set_option maxHeartbeats 4000000 in
theorem rtimes_own (w : World) (va vb : Value) (m l : List ByteArray) (ha : StrsB w va m) (hb : StrsB w vb l) (hok : timesOk m l = true) (hsz : firstN l ≤ 1000000000) :
    Calls Try.prog 21 #[va, vb] w fun e w' => ∃ v, e = .returned (.tuple #[v, .bool true]) ∧ w'.ownsRow w.heap.size 9 1 v (timesL m l).length ((timesL m l).map .string) ∧ Below w.heap.size w w' := by
  have HL : Hid (timesL m l = (List.range m.length).map (timesRow m l)) := by unfold Hid timesL; rw [if_pos hok]
  rw [timesOk_ref] at hok
  simp only [Bool.and_eq_true, decide_eq_true_iff] at hok
  obtain ⟨⟨⟨⟨hem, hel⟩, hm16⟩, hl16⟩, hfm⟩ := hok
  have HEM := Lib.hid (fun w (ha : StrsB w va m) => reven_any w va m ha)
  have HEL := Lib.hid (fun w (hb : StrsB w vb l) => reven_any w vb l hb)
  have hem' : evenL m = true ∧ 0 < m.length := by unfold evenR at hem; rwa [Bool.and_eq_true, decide_eq_true_iff] at hem
  have hel' : evenL l = true ∧ 0 < l.length := by unfold evenR at hel; rwa [Bool.and_eq_true, decide_eq_true_iff] at hel
  rw [hem] at HEM
  rw [hel] at HEL
  have HMR : Hid (∀ i (h : i < m.length), m[i].size = l.length) := fun i h => (evenL_get hem'.1 i h).trans hfm
  have HLR : Hid (∀ i (h : i < l.length), l[i].size = firstN l) := fun i h => evenL_get hel'.1 i h
  have hm0 := hem'.2
  have hl0 := hel'.2
  have HSa := Lib.hid ha
  have HSb := Lib.hid hb
  obtain ⟨Am, cm, rfl, h1, h2⟩ := ha.len
  have HCm := Lib.hid (ha.cells hm0)
  obtain ⟨Al, cl, rfl, h3, h4⟩ := hb.len
  have HCl := Lib.hid (hb.cells hl0)
  obtain ⟨bm, om, rfl, hbm, HCM⟩ := HCm.out
  obtain ⟨bl, ol, rfl, hbl, HCL⟩ := HCl.out
  have HCM := Lib.hid HCM
  have HCL := Lib.hid HCL
  have hdm : decide ((16 : Int) < (m.length : Int)) = false := by rw [decide_eq_false_iff_not]; omega
  have hdl : decide ((16 : Int) < (l.length : Int)) = false := by rw [decide_eq_false_iff_not]; omega
  clear ha hb hem hel hem' hel' HCm HCl h1 h2 h3 h4 hfm
  have hmI : m.length ≤ 9223372036854775807 := by omega
  have hlI : l.length ≤ 9223372036854775807 := by omega
  obtain ⟨W, hW⟩ : ∃ W, firstN l = W := ⟨_, rfl⟩
  have HFW : Hid (firstN l = W) := hW
  rw [hW] at hsz HLR
  clear hW
  have hWI : W ≤ 9223372036854775807 := by omega
  go_enter Try.func21, Try.ntmps21
  go_wp2_with fail
  refine (HEM.out _ HSa.out).mono ?_
  rintro e w' ⟨rfl, n1, rfl⟩
  go_wp2_with fail
  refine (HEL.out _ (HSb.out.drewN n1)).mono ?_
  rintro e w' ⟨rfl, n2, rfl⟩
  have z0m : m[0].size = l.length := HMR.out 0 hm0
  have e0m : w.cell? ⟨bm, om, none⟩ = some (.string m[0]) := HCM.out 0 hm0
  generalize m[0] = x0 at *
  have HB0 : Hid (Below w.heap.size w ((w.drewN n1).drewN n2)) := Lib.hid (Below.drewN (Below.drewN (Below.refl _ _) _) _)
  go_wp2_with fail
  clear hdm hdl e0m z0m HEM HEL HSa HSb
  go_loopw [6, 7] (fun v i wr => ∃ j : Nat, j ≤ m.length ∧ i = .int .i64 j ∧ Hid (wr.ownsRow w.heap.size 9 1 v ((List.range j).map (timesRow m l)).length (((List.range j).map (timesRow m l)).map .string)) ∧ Hid (Below w.heap.size w wr)) (fun _ i _ => m.length - (intOf i).toNat)
  case atStart => exact ⟨0, Nat.zero_le _, rfl, World.ownsRow_nil _ _ _ _, Below.drewN (Below.refl _ _) _⟩
  case round =>
    obtain ⟨i, hi, rfl, HO, HB⟩ := hrel
    obtain ⟨wo, hwo⟩ : ∃ wo, wo = wr := ⟨_, rfl⟩
    subst hwo
    by_cases hlt : i < m.length
    · have hlt' : (i : Int) < (m.length : Int) := by omega
      have e1 : wo.cell? ⟨bm, om + i, none⟩ = some (.string m[i]) := (HB.out.cell (p := ⟨bm, om + i, none⟩) hbm).trans (HCM.out i hlt)
      have e2 : wo.cell? ⟨bl, ol, none⟩ = some (.string l[0]) := (HB.out.cell (p := ⟨bl, ol, none⟩) hbl).trans (HCL.out 0 hl0)
      have z0 : l[0].size = W := HLR.out 0 hl0
      have zx : m[i].size = l.length := HMR.out i hlt
      have HX : Hid (∀ j k, um (mt m i j) (mt l j k) = um (rw' m[i] j) (mt l j k)) := fun j k => by rw [mt_get hlt]
      generalize l[0] = y0 at *
      generalize m[i] = x at *
      have hbm' : bm < wo.heap.size := Nat.lt_of_lt_of_le hbm HB.out.size
      have hbl' : bl < wo.heap.size := Nat.lt_of_lt_of_le hbl HB.out.size
      have E1 := Lib.hid e1; clear e1
      have HLC : Hid (∀ j (hj : j < l.length), wo.cell? ⟨bl, ol + j, none⟩ = some (.string l[j])) := fun j hj => (HB.out.cell (p := ⟨bl, ol + j, none⟩) hbl).trans (HCL.out j hj)
      go_wp2_with (at_make; refine wpList_make_bytes rfl _ _ 63 rfl Try.underlying63 W rfl rfl (by omega) ?_)
      intro w1 hF hB1
      have HF := Lib.hid hF; clear hF
      have HB1 := Lib.hid hB1; clear hB1
      clear e2 z0
      go_wp2_with fail
      obtain ⟨F, hF⟩ : ∃ F : Nat → Nat → UInt8, F = fun q j => um (rw' x j) (mt l j q) := ⟨_, rfl⟩
      have HFd := Lib.hid hF; clear hF
      go_loopw [9] (fun q wr => ∃ k : Nat, k ≤ W ∧ q = .int .i64 k ∧ Hid (FRow wr wo.heap.size W (stT l.length F k 0)) ∧ Hid (Below wo.heap.size wo wr)) (fun q _ => W - (intOf q).toNat)
      case atStart => exact ⟨0, Nat.zero_le _, rfl, HF.out.congr fun q _ => by (unfold stT; rw [if_neg (by omega)]; split <;> rfl), HB1.out⟩
      case round =>
        obtain ⟨k, hk, rfl, HFk, HBk⟩ := hrel
        obtain ⟨wk, hwk⟩ : ∃ wk, wk = wr := ⟨_, rfl⟩
        subst hwk
        by_cases hkl : k < W
        · have hkl' : (k : Int) < (W : Int) := by omega
          go_wp2_with fail
          go_loopw [10] (fun q wr => ∃ j : Nat, j ≤ l.length ∧ q = .int .i64 j ∧ Hid (FRow wr wo.heap.size W (stT l.length F k j)) ∧ Hid (Below wo.heap.size wo wr)) (fun q _ => l.length - (intOf q).toNat)
          case atStart => exact ⟨0, Nat.zero_le _, rfl, HFk.out, HBk.out⟩
          case round =>
            obtain ⟨j, hj, rfl, HFq, HBq⟩ := hrel
            by_cases hjl : j < l.length
            · have hjl' : (j : Int) < (l.length : Int) := by omega
              have hjx : j < x.size := by omega
              have hjx' : (j : Int) < (x.size : Int) := by omega
              have e1 : wr.drew.cell? ⟨bm, om + i, none⟩ = some (.string x) := (HBq.out.cell (p := ⟨bm, om + i, none⟩) hbm').trans E1.out
              have e3 : wr.drew.cell? ⟨bl, ol + j, none⟩ = some (.string l[j]) := (HBq.out.cell (p := ⟨bl, ol + j, none⟩) hbl').trans (HLC.out j hjl)
              have zj : l[j].size = W := HLR.out j hjl
              have HFj : Hid (F k j = um (rw' x j) (rw' l[j] k)) := by unfold Hid; rw [HFd.out]; show um (rw' x j) (mt l j k) = _; rw [mt_get hjl]
              generalize l[j] = y at *
              have hky : k < y.size := by omega
              have hky' : (k : Int) < (y.size : Int) := by omega
              have e4 : wr.drew.cell? ⟨wo.heap.size, k, none⟩ = some (.int .u8 (sg j (F k)).toNat) := by
                have := HFq.out.cell k hkl; unfold stT at this; rw [if_neg (by omega), if_pos rfl] at this; exact this
              have f4 : wr.drew.frozen? ⟨wo.heap.size, k, none⟩ = false := HFq.out.free k hkl
              have HM : Hid (∀ w, Calls Try.prog 15 #[.int .u8 (x[j].toNat : Int), .int .u8 (y[k].toNat : Int)] w fun e w' => e = .returned (.int .u8 ((F k j).toNat : Int)) ∧ w' = w) := by
                intro w; rw [HFj.out, ← rw_get x j hjx, ← rw_get y k hky]; exact rumul_any x[j] y[k] w
              have HN : Hid (FRow (wr.drew.setCell ⟨wo.heap.size, k, none⟩ (.int .u8 (sg j (F k) ^^^ F k j).toNat)) wo.heap.size W (stT l.length F k (j + 1))) := by
                have := HFq.out.drew.set k (sg j (F k) ^^^ F k j) hkl
                rwa [stT_step] at this
              have HN2 : Hid (Below wo.heap.size wo (wr.drew.setCell ⟨wo.heap.size, k, none⟩ (.int .u8 (sg j (F k) ^^^ F k j).toNat))) := HBq.out.drew.setCell (Nat.le_refl _) _
              have hx := ux8 (sg j (F k)) (F k j)
              generalize sg j (F k) ^^^ F k j = q at *
              generalize sg j (F k) = s at *
              generalize F k j = v at *
              clear HFq HBq HFj
              go_wp2_with fail
              refine wp_region_still_tail 21 (by kernel_rfl) (by kernel_rfl) ?_
              simp only [List.take_succ_cons, List.take_zero, List.drop_succ_cons, List.drop_zero]
              change wpStill _ _ wr.drew _ _ _
              obtain ⟨wz, hwz⟩ : ∃ wz, wz = wr.drew := ⟨_, rfl⟩
              rw [← hwz] at e1 e3 e4 f4 HN HN2 ⊢
              have HZ := Lib.hid hwz; clear hwz
              iterate 18 still_step
              still_call (HM.out _)
              still_step
              still_step
              refine wpStill_nil ?_
              change wpList _ _ _ _ _ wr.drew
              rw [← HZ.out]
              go_wp2_with fail
              go_roundw
              case rel => exact ⟨j + 1, by omega, by go_num, HN, HN2⟩
              case measure => simp [intOf]; omega
            · obtain rfl : j = l.length := by omega
              go_wp2_with fail
              go_roundw
              case rel => exact ⟨k + 1, by omega, by go_num, HFq.out.congr fun q _ => stT_next _ _ _ _, HBq⟩
              case measure => simp [intOf]; omega
        · obtain rfl : k = W := by omega
          have hcs := conv_str HFk.out 0 k k (by omega)
          have HE : Hid (bytesF k (fun q => stT l.length F k 0 (0 + q)) = timesRow m l i) := by
            unfold Hid timesRow
            rw [HFW.out]
            exact bytesF_congr fun q hq => by
              rw [Nat.zero_add]
              unfold stT
              rw [if_pos hq, HFd.out]
              exact sg_congr fun j _ => (HX.out j q).symm
          rw [HE.out] at hcs
          have hown2 := HO.out.kept (grown_of_below HBk.out none) (by
            by_cases e : u6.ownBlock = none
            · exact .inl e
            · exact .inr e)
          have hi3 : ((List.range i).map (timesRow m l)).length + 1 ≤ 1000000000 := by simp; omega
          have hq1 := HBk.out.size
          have hs1 := HB.out.size
          have HR : Hid ((List.range i).map (timesRow m l) ++ [timesRow m l i] = (List.range (i + 1)).map (timesRow m l)) := by unfold Hid; rw [List.range_succ, List.map_append]; rfl
          generalize timesRow m l i = z at *
          generalize (List.range i).map (timesRow m l) = out at *
          go_wp2_with (at_builtin; refine wpList_push_str rfl _ _ 31 rfl Try.underlying31 w.heap.size _ out rfl (hown2.alloc _) ⟨wk.heap.size, 0, none⟩ _ z rfl (by simp) hi3 (by simp; omega) ?_)
          intro v' w4 hown4 hg4
          have HO4 : Hid (w4.ownsRow w.heap.size 9 1 v' ((List.range (i + 1)).map (timesRow m l)).length (((List.range (i + 1)).map (timesRow m l)).map .string)) := by unfold Hid; rw [← HR.out]; simpa using hown4
          have HB4 : Hid (Below w.heap.size w w4) := ((HB.out.trans (HBk.out.mono hs1)).alloc (by omega) _).grown hg4 (by simp; omega) (fun k hk => (hown2.lt k hk).1)
          clear hown4 hg4 hcs
          go_wp2_with fail
          go_roundw
          case rel => exact ⟨i + 1, by omega, by go_num, HO4, HB4⟩
          case measure => simp [intOf]; omega
    · obtain rfl : i = m.length := by omega
      go_wp2_with fail
      go_ret2
      exact ⟨_, rfl, by rw [HL.out]; exact HO.out, HB.out⟩
end Go.Proofs.Ytdgnhnhmcobfkaa
