/- siloref35.Invert: walk. -/
import Derived.Test.YtdgnhnhmcobfkaaGfSquare
namespace Go.Proofs.Ytdgnhnhmcobfkaa
open Go.RowKit
set_option linter.unusedVariables false
set_option linter.unusedSimpArgs false
theorem rdiv1_any (b : UInt8) (hb : b ≠ 0) (w : World) : Calls Try.prog 14 #[.int .u8 1, .int .u8 (b.toNat : Int)] w fun e w' => e = .returned (.tuple #[.int .u8 ((ui b).toNat : Int), .bool true]) ∧ w = w' := by
  have h := refDiv_any 1 b.toNat (by decide) b.toNat_lt w
  have hn : b.toNat ≠ 0 := fun e => hb (UInt8.toNat_inj.1 e)
  have e1 : gDiv 1 b.toNat = (ui b).toNat := by
    unfold gDiv; rw [if_neg hn, ui_nat, one_gMul (gInv_lt b.toNat_lt)]
  rw [e1, decide_eq_true hn] at h
  exact h
theorem u8_eq0 (a : UInt8) (h : a = 0) : ((a.toNat : Int) == 0) = true := by subst h; rfl
theorem u8_ne0 (a : UInt8) (h : a ≠ 0) : ((a.toNat : Int) == 0) = false := by
  rw [beq_eq_false_iff_ne]; intro e; apply h; apply UInt8.toNat_inj.1; show a.toNat = 0; omega
set_option maxRecDepth 20000 in
set_option maxHeartbeats 8000000 in
theorem rinvert_ok (w : World) (va : Value) (m : List ByteArray) (ha : StrsB w va m) (hsq : sqOk m = true) :
    Calls Try.prog 23 #[va] w fun e w' => ∃ v, e = .returned (.tuple #[v, .bool (inv m.length (mt m)).isSome]) ∧ StrsN w' v (rowsO m.length (inv m.length (mt m))) ∧ Below w.heap.size w w' := by
  obtain ⟨h0, h16, hrows⟩ := sqOk_parts hsq
  have HSQ := Lib.hid (square_ok w va m ha hsq)
  obtain ⟨A, cm, rfl, h1, h2⟩ := ha.len
  clear ha hrows hsq h1 h2
  obtain ⟨n, hn⟩ : ∃ n, m.length = n := ⟨_, rfl⟩
  rw [hn] at h0 h16 HSQ ⊢
  obtain ⟨M0, hM⟩ : ∃ M0, mt m = M0 := ⟨_, rfl⟩
  rw [hM] at HSQ ⊢
  clear hM hn
  have hnI : n ≤ 9223372036854775807 := by omega
  have hn2I : 2 * (n : Int) ≤ 9223372036854775807 := by omega
  go_enter Try.func23, Try.ntmps23
  go_wp2_with fail
  refine HSQ.out.mono ?_
  rintro e w1 ⟨o, cap, G0, C0, rfl, hc1, hc2, hS, hB⟩
  have HS := Lib.hid hS; clear hS
  have HB := Lib.hid hB; clear hB
  clear HSQ
  have hcI : cap ≤ 9223372036854775807 := by unfold maxLen at hc2; omega
  clear hc2
  go_wp2_with fail
  go_loopw [7] (fun i wr => ∃ (c : Nat) (G C : Nat → Nat) (R : Rw), c ≤ n ∧ i = .int .i64 c ∧ Hid (el n (beg n M0) c = some R) ∧ Hid (Sol wr w.heap.size o n (2 * n) G C R) ∧ Hid (Below w.heap.size w wr)) (fun i _ => n - (intOf i).toNat)
  case atStart => exact ⟨0, G0, C0, beg n M0, Nat.zero_le _, rfl, rfl, HS.out, HB.out⟩
  case round =>
    obtain ⟨c, G, C, R, hc, rfl, HE, HK, HBr⟩ := hrel
    clear HS HB
    obtain ⟨wa, hwa⟩ : ∃ wa, wa = wr := ⟨_, rfl⟩
    subst hwa
    by_cases hlt : c < n
    · have hlt' : (c : Int) < (n : Int) := by omega
      go_wp2_with fail
      go_loopw [8] (fun i wr => ∃ j : Nat, c ≤ j ∧ j ≤ n ∧ i = .int .i64 j ∧ Hid (wr = wa) ∧ Hid (∀ i, c ≤ i → i < j → R i c = 0)) (fun i _ => n - (intOf i).toNat)
      case atStart => exact ⟨c, Nat.le_refl _, by omega, rfl, rfl, fun i h1 h2 => absurd h1 (by omega)⟩
      case round =>
        obtain ⟨j, hcj, hj, rfl, HEw, HZ⟩ := hrel
        have hEw := HEw.out
        subst hEw
        by_cases hjl : j < n
        · have hjl' : (j : Int) < (n : Int) := by omega
          have hcW' : (c : Int) < ((2 * n : Nat) : Int) := by omega
          have e1 : wr.cell? ⟨o, j, none⟩ = some (.slice (some ⟨G j, 0, none⟩) (2 * n) (C j)) := HK.out.slot j hjl
          have e2 : wr.cell? ⟨G j, c, none⟩ = some (.int .u8 (R j c).toNat) := (HK.out.row j hjl).cell c (by omega)
          have hc2n : c < 2 * n := by omega
          by_cases hr : R j c = 0
          · have hd := u8_eq0 _ hr
            have HZ2 : Hid (∀ i, c ≤ i → i < j + 1 → R i c = 0) := fun i h1 h2 => by
              by_cases e : i = j
              · rw [e]; exact hr
              · exact HZ.out i h1 (by omega)
            generalize R j c = v at *
            clear hr
            go_wp2_with fail
            go_roundw
            case rel => exact ⟨j + 1, by omega, by omega, by go_num, by first | exact trivial | exact rfl, HZ2⟩
            case measure => simp [intOf]; omega
          · have hd := u8_ne0 _ hr
            have HP : Hid (pvt R c n = some j) := pvt_of hcj hjl hr HZ.out
            have HE2 : Hid (el n (beg n M0) (c + 1) = some (stp R c j)) := by
              have h1 := HE.out
              unfold Hid el; rw [h1]; simp only; rw [HP.out]
            have HS2 := Lib.hid (sol_swap HK.out c j hlt hjl)
            have e3 : wr.cell? ⟨o, c, none⟩ = some (.slice (some ⟨G c, 0, none⟩) (2 * n) (C c)) := HK.out.slot c hlt
            have f1 : wr.frozen? ⟨o, j, none⟩ = false := HK.out.free j hjl
            have f3 : wr.frozen? ⟨o, c, none⟩ = false := HK.out.free c hlt
            have e4 : ((wr.setCell ⟨o, c, none⟩ (.slice (some ⟨G j, 0, none⟩) (2 * n) (C j))).cell? ⟨o, j, none⟩).isSome = true := by
              by_cases e : c = j
              · subst e; rw [World.cell?_setCell_same _ _ _ e1]; rfl
              · rw [World.cell?_setCell_other _ _ _ _ (by intro e2; injection e2 with _ e2; exact e e2), e1]; rfl
            obtain ⟨x4, hx4⟩ := Option.isSome_iff_exists.1 e4
            have hob := HK.out.oB
            have HB5 : Hid (Below w.heap.size w ((wr.setCell ⟨o, c, none⟩ (slV (G j) (2 * n) (C j))).setCell ⟨o, j, none⟩ (slV (G c) (2 * n) (C c))).drew) := (((HBr.out.setCell (p := ⟨o, c, none⟩) hob _)).setCell (p := ⟨o, j, none⟩) hob _).drew
            have HS5 : Hid (Sol ((wr.setCell ⟨o, c, none⟩ (slV (G j) (2 * n) (C j))).setCell ⟨o, j, none⟩ (slV (G c) (2 * n) (C c))).drew w.heap.size o n (2 * n) (swN G c j) (swN C c j) (sw R c j)) := HS2.out.drew
            have hb0 : sw R c j c c ≠ 0 := by unfold sw; rw [if_pos rfl]; exact hr
            have HST : Hid (stp R c j = wp (sc (sw R c j) c (ui (sw R c j c c))) c) := rfl
            generalize R j c = v at *
            clear hr HZ e4 HS2 HP
            have hjcn : ¬ j = n := by omega
            go_wp2_with fail
            go_region
            obtain ⟨w5, hw5⟩ : ∃ w5, w5 = ((wr.setCell ⟨o, c, none⟩ (.slice (some ⟨G j, 0, none⟩) (2 * n) (C j))).setCell ⟨o, j, none⟩ (.slice (some ⟨G c, 0, none⟩) (2 * n) (C c))).drew := ⟨_, rfl⟩
            rw [← hw5]
            unfold slV at HB5 HS5
            rw [← hw5] at HB5 HS5
            clear hw5 hx4 e1 e2 e3 f1 f3 HEw HK HBr hd
            generalize sw R c j = S1 at *
            generalize swN G c j = G1 at *
            generalize swN C c j = C1 at *
            have e1 : w5.cell? ⟨o, c, none⟩ = some (.slice (some ⟨G1 c, 0, none⟩) (2 * n) (C1 c)) := HS5.out.slot c hlt
            have e2 : w5.cell? ⟨G1 c, c, none⟩ = some (.int .u8 (S1 c c).toNat) := (HS5.out.row c hlt).cell c hc2n
            have HD := Lib.hid (rdiv1_any (S1 c c) hb0)
            generalize ui (S1 c c) = f at *
            generalize S1 c c = y0 at *
            clear hb0
            go_wp2_with fail
            refine (HD.out _).mono ?_
            rintro e w' ⟨rfl, rfl⟩
            go_wp2_with fail
            clear HD e2
            have hs5 := HB5.out.size
            have hBG := HS5.out.base c hlt
            go_loopw [11] (fun i wr => ∃ k : Nat, k ≤ 2 * n ∧ i = .int .i64 k ∧ Hid (Sol wr w.heap.size o n (2 * n) G1 C1 (fun q => if q = c then scP (S1 c) f k else S1 q)) ∧ Hid (Below w.heap.size w5 wr)) (fun i _ => 2 * n - (intOf i).toNat)
            case atStart => exact ⟨0, Nat.zero_le _, rfl, HS5.out.congr fun i hi k hk => by
                by_cases e : i = c
                · subst e; rw [if_pos rfl]; unfold scP; rw [if_neg (by omega)]
                · rw [if_neg e], Below.refl _ _⟩
            case round =>
              obtain ⟨k, hk, rfl, HK, HBk⟩ := hrel
              by_cases hkl : k < 2 * n
              · have hkl' : (k : Int) < 2 * (n : Int) := by omega
                have hkl2 : (k : Int) < ((2 * n : Nat) : Int) := by omega
                have hrow := HK.out.row c hlt
                simp only [if_pos] at hrow
                have e4 : wr.drew.cell? ⟨o, c, none⟩ = some (.slice (some ⟨G1 c, 0, none⟩) (2 * n) (C1 c)) := HK.out.slot c hlt
                have f3 : wr.drew.frozen? ⟨G1 c, k, none⟩ = false := hrow.free k hkl
                have e5 : wr.drew.cell? ⟨G1 c, k, none⟩ = some (.int .u8 (S1 c k).toNat) := by
                  have := hrow.cell k hkl; unfold scP at this; rw [if_neg (by omega)] at this; exact this
                have HM := Lib.hid (rumul_any (S1 c k) f)
                have hN : FRow (wr.drew.setCell ⟨G1 c, k, none⟩ (.int .u8 (um (S1 c k) f).toNat)) (G1 c) (2 * n) (scP (S1 c) f (k + 1)) := by
                  have := hrow.drew.set k (um (S1 c k) f) hkl
                  rwa [scP_step] at this
                have HN : Hid (Sol (wr.drew.setCell ⟨G1 c, k, none⟩ (.int .u8 (um (S1 c k) f).toNat)) w.heap.size o n (2 * n) G1 C1 (fun q => if q = c then scP (S1 c) f (k + 1) else S1 q)) :=
                  (HK.out.drew.one c hlt _ (grown_set _ ⟨G1 c, k, none⟩ _) hN).congr fun i hi q hq => by
                    by_cases e : i = c
                    · subst e; simp
                    · simp [e]
                have HN2 : Hid (Below w.heap.size w5 (wr.drew.setCell ⟨G1 c, k, none⟩ (.int .u8 (um (S1 c k) f).toNat))) := HBk.out.drew.setCell hBG _
                generalize um (S1 c k) f = v2 at *
                generalize S1 c k = y at *
                clear hN hrow HK HBk e1
                go_wp2_with fail
                refine wp_region_still_tail 15 (by kernel_rfl) (by kernel_rfl) ?_
                simp only [List.take_succ_cons, List.take_zero, List.drop_succ_cons, List.drop_zero]
                change wpStill _ _ wr.drew _ _ _
                obtain ⟨wz, hwz⟩ : ∃ wz, wz = wr.drew := ⟨_, rfl⟩
                rw [← hwz] at e4 e5 f3 HN HN2 ⊢
                have HZ := Lib.hid hwz; clear hwz
                iterate 13 still_step
                still_call (HM.out _)
                still_step
                refine wpStill_nil ?_
                change wpList _ _ _ _ _ wr.drew
                rw [← HZ.out]
                go_wp2_with fail
                go_roundw
                case rel => exact ⟨k + 1, by omega, by go_num, HN, HN2⟩
                case measure => simp [intOf]; omega
              · have hk2 : k = 2 * n := by omega
                have hd3 : decide ((k : Int) < 2 * (n : Int)) = false := by rw [decide_eq_false_iff_not]; omega
                obtain ⟨S2, hS2⟩ : ∃ S2 : Rw, S2 = sc S1 c f := ⟨_, rfl⟩
                have HS3 : Hid (Sol wr w.heap.size o n (2 * n) G1 C1 S2) := HK.out.congr fun i hi q hq => by
                  rw [hS2]; unfold sc
                  by_cases e : i = c
                  · subst e; rw [if_pos rfl, if_pos rfl]; unfold scP; rw [if_pos (by omega)]
                  · rw [if_neg e, if_neg e]
                rw [← hS2] at HST
                obtain ⟨wb, hwb⟩ : ∃ wb, wb = wr := ⟨_, rfl⟩
                subst hwb
                have HB6 : Hid (Below w.heap.size w wb) := HB5.out.trans HBk.out
                have hs6 := HB6.out.size
                clear hS2 HK HS5 HB5 HBk e1 hs5 hk2 hk hkl
                go_wp2_with fail
                clear hd3
                go_loopw [12] (fun i wr => ∃ j : Nat, j ≤ n ∧ i = .int .i64 j ∧ Hid (Sol wr w.heap.size o n (2 * n) G1 C1 (wpP S2 c j)) ∧ Hid (Below w.heap.size wb wr)) (fun i _ => n - (intOf i).toNat)
                case atStart => exact ⟨0, Nat.zero_le _, rfl, HS3.out.congr fun i hi q hq => by (unfold wpP; rw [if_neg (by omega)]), Below.refl _ _⟩
                case round =>
                  obtain ⟨i, hi, rfl, HK, HBi⟩ := hrel
                  obtain ⟨wc, hwc⟩ : ∃ wc, wc = wr := ⟨_, rfl⟩
                  subst hwc
                  by_cases hil : i < n
                  · have hil' : (i : Int) < (n : Int) := by omega
                    have e6 : wc.cell? ⟨o, i, none⟩ = some (.slice (some ⟨G1 i, 0, none⟩) (2 * n) (C1 i)) := HK.out.slot i hil
                    have e7 : wc.cell? ⟨G1 i, c, none⟩ = some (.int .u8 (S2 i c).toNat) := by
                      have := (HK.out.row i hil).cell c hc2n; rwa [wpP_self] at this
                    have hcI : (c : Int) < ((2 * n : Nat) : Int) := by omega
                    have HFI : Hid (∀ F, F = S2 i c → ∀ q, q < n → ∀ k, k < 2 * n → i ≠ c → (if q = i then adF F (S2 c) (S2 i) (2 * n) else wpP S2 c i q) k = wpP S2 c (i + 1) q k) := by
                      intro F hF q hq k hk hic
                      by_cases e : q = i
                      · rw [if_pos e, hF]; unfold adF wpP wp; rw [if_pos hk, e, if_pos (by omega), if_neg hic]
                      · rw [if_neg e]; unfold wpP
                        by_cases e2 : q < i
                        · rw [if_pos e2, if_pos (by omega)]
                        · rw [if_neg e2, if_neg (by omega)]
                    obtain ⟨F, hF⟩ : ∃ F, F = S2 i c := ⟨_, rfl⟩
                    rw [← hF] at e7
                    have HF := Lib.hid hF; clear hF
                    by_cases hic : i = c
                    · have hd : ((i : Int) != (c : Int)) = false := by rw [bne_eq_false_iff_eq]; omega
                      have HK2 : Hid (Sol wc w.heap.size o n (2 * n) G1 C1 (wpP S2 c (i + 1))) := HK.out.congr fun q hq k hk => by
                        unfold wpP
                        by_cases e : q = i
                        · rw [if_neg (by omega), if_pos (by omega)]; unfold wp; rw [if_pos (by omega), e, hic]
                        · by_cases e2 : q < i
                          · rw [if_pos e2, if_pos (by omega)]
                          · rw [if_neg e2, if_neg (by omega)]
                      clear HK hic HFI HF
                      go_wp2_with fail
                      go_loopw [14] (fun q wr => q = .int .i64 0 ∧ Hid (wr = wc)) (fun q _ => 0)
                      case atStart => exact ⟨rfl, rfl⟩
                      case round =>
                        obtain ⟨rfl, HEc⟩ := hrel
                        have hEc := HEc.out
                        subst hEc
                        go_wp2_with fail
                        go_roundw
                        case rel => first | exact ⟨i + 1, by omega, by go_num, HK2, HBi⟩ | exact ⟨i + 1, by omega, by go_num, HK2⟩
                        case measure => simp [intOf]; omega
                    · have hd : ((i : Int) != (c : Int)) = true := by rw [bne_iff_ne]; omega
                      have HIC := Lib.hid hic
                      have hBGi := HK.out.base i hil
                      clear hic
                      go_wp2_with fail
                      go_loopw [14] (fun q wr => ∃ k : Nat, k ≤ 2 * n ∧ q = .int .i64 k ∧ Hid (Sol wr w.heap.size o n (2 * n) G1 C1 (fun q => if q = i then adF F (S2 c) (S2 i) k else wpP S2 c i q)) ∧ Hid (Below w.heap.size wc wr)) (fun q _ => 2 * n - (intOf q).toNat)
                      case atStart => exact ⟨0, Nat.zero_le _, rfl, HK.out.congr fun q hq k hk => by
                          by_cases e : q = i
                          · rw [if_pos e, adF_zero, e, wpP_self]
                          · rw [if_neg e], Below.refl _ _⟩
                      case round =>
                        obtain ⟨k, hk, rfl, HKk, HBk⟩ := hrel
                        by_cases hkl : k < 2 * n
                        · have hkl' : (k : Int) < 2 * (n : Int) := by omega
                          have hkl2 : (k : Int) < ((2 * n : Nat) : Int) := by omega
                          have hrow := HKk.out.row i hil
                          simp only [if_pos] at hrow
                          have hrc := HKk.out.row c hlt
                          simp only [if_neg (fun e : c = i => HIC.out e.symm)] at hrc
                          rw [wpP_c] at hrc
                          have g1 : wr.drew.cell? ⟨o, i, none⟩ = some (.slice (some ⟨G1 i, 0, none⟩) (2 * n) (C1 i)) := HKk.out.slot i hil
                          have g2 : wr.drew.cell? ⟨o, c, none⟩ = some (.slice (some ⟨G1 c, 0, none⟩) (2 * n) (C1 c)) := HKk.out.slot c hlt
                          have g3 : wr.drew.cell? ⟨G1 i, k, none⟩ = some (.int .u8 (S2 i k).toNat) := by
                            have := hrow.cell k hkl; unfold adF at this; rw [if_neg (by omega)] at this; exact this
                          have g4 : wr.drew.cell? ⟨G1 c, k, none⟩ = some (.int .u8 (S2 c k).toNat) := hrc.cell k hkl
                          have g5 : wr.drew.frozen? ⟨G1 i, k, none⟩ = false := hrow.free k hkl
                          have HM := Lib.hid (rumul_any F (S2 c k))
                          have hx := ux8 (S2 i k) (um F (S2 c k))
                          have hN : FRow (wr.drew.setCell ⟨G1 i, k, none⟩ (.int .u8 (S2 i k ^^^ um F (S2 c k)).toNat)) (G1 i) (2 * n) (adF F (S2 c) (S2 i) (k + 1)) := by
                            have := hrow.drew.set k (S2 i k ^^^ um F (S2 c k)) hkl
                            rwa [adF_step] at this
                          have HN : Hid (Sol (wr.drew.setCell ⟨G1 i, k, none⟩ (.int .u8 (S2 i k ^^^ um F (S2 c k)).toNat)) w.heap.size o n (2 * n) G1 C1 (fun q => if q = i then adF F (S2 c) (S2 i) (k + 1) else wpP S2 c i q)) :=
                            (HKk.out.drew.one i hil _ (grown_set _ ⟨G1 i, k, none⟩ _) hN).congr fun q hq k hk => by
                              by_cases e : q = i
                              · subst e; simp
                              · simp [e]
                          have HN2 : Hid (Below w.heap.size wc (wr.drew.setCell ⟨G1 i, k, none⟩ (.int .u8 (S2 i k ^^^ um F (S2 c k)).toNat))) := HBk.out.drew.setCell hBGi _
                          generalize S2 i k ^^^ um F (S2 c k) = z at *
                          generalize um F (S2 c k) = v2 at *
                          generalize S2 c k = yc at *
                          generalize S2 i k = yi at *
                          clear hN hrow hrc HKk HBk e6 e7 HFI HF HIC
                          go_wp2_with fail
                          refine wp_region_still_tail 23 (by kernel_rfl) (by kernel_rfl) ?_
                          simp only [List.take_succ_cons, List.take_zero, List.drop_succ_cons, List.drop_zero]
                          change wpStill _ _ wr.drew _ _ _
                          obtain ⟨wz, hwz⟩ : ∃ wz, wz = wr.drew := ⟨_, rfl⟩
                          rw [← hwz] at g1 g2 g3 g4 g5 HN HN2 ⊢
                          have HZ := Lib.hid hwz; clear hwz
                          iterate 20 still_step
                          still_call (HM.out _)
                          still_step
                          still_step
                          refine wpStill_nil ?_
                          change wpList _ _ _ _ _ wr.drew
                          rw [← HZ.out]
                          go_wp2_with fail
                          go_roundw
                          case rel => exact ⟨k + 1, by omega, by go_num, HN, HN2⟩
                          case measure => simp [intOf]; omega
                        · obtain rfl : k = 2 * n := by omega
                          have HK3 : Hid (Sol wr w.heap.size o n (2 * n) G1 C1 (wpP S2 c (i + 1))) := HKk.out.congr fun q hq k hk => HFI.out F HF.out q hq k hk HIC.out
                          have HB3 : Hid (Below w.heap.size wb wr) := HBi.out.trans HBk.out
                          clear HKk HBk HFI HF HIC
                          go_wp2_with fail
                          go_roundw
                          case rel => exact ⟨i + 1, by omega, by go_num, HK3, HB3⟩
                          case measure => simp [intOf]; omega
                  · obtain rfl : i = n := by omega
                    have HK4 : Hid (Sol wc w.heap.size o i (2 * i) G1 C1 (stp R c j)) := HK.out.congr fun q hq k hk => by
                      rw [HST.out]; unfold wpP; rw [if_pos hq]
                    have HB7 : Hid (Below w.heap.size w wc) := HB6.out.trans HBi.out
                    clear HK HBi HST
                    go_wp2_with fail
                    go_roundw
                    case rel => exact ⟨c + 1, _, _, _, by omega, by go_num, HE2, HK4, HB7⟩
                    case measure => simp [intOf]; omega
        · obtain rfl : j = n := by omega
          have HP : Hid (pvt R c j = none) := pvt_no HZ.out
          have HI : Hid (inv j M0 = none) := by
            have h1 : el j (beg j M0) (c + 1) = none := by
              have := HE.out
              unfold el; rw [this]; simp only; rw [HP.out]
            have h2 := el_none h1 (j - (c + 1))
            rw [show c + 1 + (j - (c + 1)) = j by omega] at h2
            unfold Hid inv; rw [h2]; rfl
          clear HP HE HK HZ
          go_wp2_with fail
          go_ret2
          exact ⟨_, by rw [HI.out]; rfl, by rw [HI.out]; exact strsN_nil _, HBr.out⟩
    · obtain rfl : c = n := by omega
      have HI : Hid (inv c M0 = some fun i k => R i (c + k)) := by unfold Hid inv; rw [HE.out]; rfl
      obtain ⟨W, hW⟩ : ∃ W, W = 2 * c := ⟨_, rfl⟩
      have HK2 : Hid (Sol wa w.heap.size o c W G C R) := by rw [hW]; exact HK.out
      have hcW : c ≤ W := by omega
      have hWc : W - c = c := by omega
      clear HE HK hW
      go_wp2_with fail
      go_loopw [15, 16] (fun v i wr => ∃ j : Nat, j ≤ c ∧ i = .int .i64 j ∧ Hid (wr.ownsRow wa.heap.size 9 1 v ((List.range j).map fun i => bytesF c (fun k => R i (c + k))).length (((List.range j).map fun i => bytesF c (fun k => R i (c + k))).map .string)) ∧ Hid (Below wa.heap.size wa wr)) (fun _ i _ => c - (intOf i).toNat)
      case atStart => exact ⟨0, Nat.zero_le _, rfl, World.ownsRow_nil _ _ _ _, Below.refl _ _⟩
      case round =>
        obtain ⟨j, hj, rfl, HO, HBq⟩ := hrel
        by_cases hjl : j < c
        · have hjl' : (j : Int) < (c : Int) := by omega
          have HKr := HK2.out.below HBq.out
          have e1 : wr.cell? ⟨o, j, none⟩ = some (.slice (some ⟨G j, 0, none⟩) W (C j)) := HKr.slot j hjl
          have hcap := HKr.cap j hjl
          have hcs := conv_str (HKr.row j hjl) c (W - c) (C j - c) (by omega)
          have HE : Hid (bytesF (W - c) (fun k => R j (c + k)) = bytesF c (fun k => R j (c + k))) := by rw [hWc]; exact rfl
          rw [HE.out, hWc] at hcs
          have hi3 : ((List.range j).map fun i => bytesF c (fun k => R i (c + k))).length + 1 ≤ 1000000000 := by simp; omega
          have HR : Hid (((List.range j).map fun i => bytesF c (fun k => R i (c + k))) ++ [bytesF c (fun k => R j (c + k))] = (List.range (j + 1)).map fun i => bytesF c (fun k => R i (c + k))) := by unfold Hid; rw [List.range_succ, List.map_append]; rfl
          have hown := HO.out
          have hq1 := HBq.out.size
          generalize bytesF c (fun k => R j (c + k)) = z at *
          generalize ((List.range j).map fun i => bytesF c (fun k => R i (c + k))) = out at *
          have hcapI : C j ≤ 9223372036854775807 := by have := hcap.2; unfold maxLen at this; omega
          have hcapc : c ≤ C j := by omega
          have hne1 : ¬ C j = c := by omega
          have hne2 : ¬ c = C j := by omega
          have hne3 : ¬ C j - c = 0 := by omega
          have hne4 : ¬ C j ≤ c := by omega
          generalize C j = cj at *
          generalize G j = gj at *
          clear HKr HE HO hcap
          go_wp2_with (at_builtin; refine wpList_push_str rfl _ _ 31 rfl Try.underlying31 wa.heap.size _ out rfl (hown.alloc _) ⟨wr.heap.size, 0, none⟩ _ z rfl (by simp) hi3 (by simp; omega) ?_)
          intro v' w4 hown4 hg4
          have HO4 : Hid (w4.ownsRow wa.heap.size 9 1 v' ((List.range (j + 1)).map fun i => bytesF c (fun k => R i (c + k))).length (((List.range (j + 1)).map fun i => bytesF c (fun k => R i (c + k))).map .string)) := by unfold Hid; rw [← HR.out]; simpa using hown4
          have HB4 : Hid (Below wa.heap.size wa w4) := (HBq.out.alloc hq1 _).grown hg4 (by simp; omega) (fun k hk => (hown.lt k hk).1)
          clear hown4 hg4 hcs
          go_wp2_with fail
          go_roundw
          case rel => exact ⟨j + 1, by omega, by go_num, HO4, HB4⟩
          case measure => simp [intOf]; omega
        · obtain rfl : j = c := by omega
          go_wp2_with fail
          go_ret2
          exact ⟨_, by rw [HI.out]; rfl, by rw [HI.out]; exact StrsN.of_owns HO.out, HBr.out.trans (HBq.out.mono HBr.out.size)⟩
end Go.Proofs.Ytdgnhnhmcobfkaa
