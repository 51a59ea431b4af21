/- gf's wipe: walk. -/
import Derived.Test.YtdgnhnhmcobfkaaGfPivot
namespace Go.Proofs.Ytdgnhnhmcobfkaa
open Go.RowKit
set_option linter.unusedVariables false
theorem uinv_any (a : UInt8) (w : World) : Calls Try.prog 39 #[.int .u8 (a.toNat : Int)] w fun e w' => e = .returned (.int .u8 ((ui a).toNat : Int)) ∧ w = w' := by
  rw [ui_nat]; exact inverse_any a.toNat a.toNat_lt w
def scP (r : Nat → UInt8) (f : UInt8) (k q : Nat) : UInt8 := if q < k then um (r q) f else r q
theorem scP_step (r : Nat → UInt8) (f : UInt8) (k : Nat) : updB (scP r f k) k (um (r k) f) = scP r f (k + 1) := by
  funext q
  unfold updB scP
  by_cases e : q = k
  · subst e; rw [if_pos rfl, if_pos (by omega)]
  · rw [if_neg e]
    by_cases h : q < k
    · rw [if_pos h, if_pos (by omega)]
    · rw [if_neg h, if_neg (by omega)]
/-- wiped up to row i -/
def wpP (S : Rw) (c i : Nat) : Rw := fun q k => if q < i then wp S c q k else S q k
theorem wpP_c (S : Rw) (c j : Nat) : wpP S c j c = S c := by
  funext q; unfold wpP wp; split <;> simp
theorem wpP_self (S : Rw) (c j : Nat) : wpP S c j j = S j := by
  funext q; unfold wpP; rw [if_neg (by omega)]
set_option maxRecDepth 20000 in
set_option maxHeartbeats 4000000 in
theorem wipe_any (w : World) (B o n W cap c : Nat) (G C : Nat → Nat) (R : Rw) (h : Sol w B o n W G C R) (hc : c < n) (hcW : c < W) (hn : n ≤ 1000000) (hW : W ≤ 1000000) (hB : B ≤ w.heap.size) :
    Calls Try.prog 47 #[.slice (some ⟨o, 0, none⟩) n cap, .int .i64 c] w fun e w' => e = .returned (.tuple #[]) ∧ Sol w' B o n W G C (wp (sc R c (ui (R c c))) c) ∧ Below B w w' := by
  have HS := Lib.hid h
  have e1 : w.cell? ⟨o, c, none⟩ = some (.slice (some ⟨G c, 0, none⟩) W (C c)) := h.slot c hc
  have e2 : w.cell? ⟨G c, c, none⟩ = some (.int .u8 (R c c).toNat) := (h.row c hc).cell c hcW
  have HI := Lib.hid (uinv_any (R c c))
  have hBG := h.base c hc
  clear h
  generalize ui (R c c) = f at *
  generalize R c c = rcc at *
  have hnI : n ≤ 9223372036854775807 := by omega
  have hWI : W ≤ 9223372036854775807 := by omega
  have hcW' : (c : Int) < (W : Int) := by omega
  have hcn' : (c : Int) < (n : Int) := by omega
  go_enter Try.func47, Try.ntmps47
  go_wp2_with fail
  refine (HI.out _).mono ?_
  rintro e w' ⟨rfl, rfl⟩
  go_wp2_with fail
  clear e2 HI
  go_loopw [22] (fun i wr => ∃ k : Nat, k ≤ W ∧ i = .int .i64 k ∧ Hid (Sol wr B o n W G C (fun q => if q = c then scP (R c) f k else R q)) ∧ Hid (Below B w wr)) (fun i _ => W - (intOf i).toNat)
  case atStart => exact ⟨0, Nat.zero_le _, rfl, HS.out.congr fun i hi k hk => by
      by_cases e : i = c
      · subst e; rw [if_pos rfl]; unfold scP; rw [if_neg (by omega)]
      · rw [if_neg e], Below.refl _ _⟩
  case round =>
    obtain ⟨k, hk, rfl, HK, HB⟩ := hrel
    by_cases hlt : k < W
    · have hlt' : (k : Int) < (W : Int) := by omega
      have hrow := HK.out.row c hc
      simp only [if_pos] at hrow
      have e3 : wr.cell? ⟨G c, k, none⟩ = some (.int .u8 (R c k).toNat) := by
        have := hrow.cell k hlt; unfold scP at this; rwa [if_neg (by omega)] at this
      have e4 : wr.drew.cell? ⟨o, c, none⟩ = some (.slice (some ⟨G c, 0, none⟩) W (C c)) := HK.out.slot c hc
      have f3 : wr.drew.frozen? ⟨G c, k, none⟩ = false := hrow.free k hlt
      have e5 : wr.drew.cell? ⟨G c, k, none⟩ = some (.int .u8 (R c k).toNat) := e3
      have HM := Lib.hid (umul_any (R c k) f)
      have hN : FRow (wr.drew.setCell ⟨G c, k, none⟩ (.int .u8 (um (R c k) f).toNat)) (G c) W (scP (R c) f (k + 1)) := by
        have := hrow.drew.set k (um (R c k) f) hlt
        rwa [scP_step] at this
      have HN : Hid (Sol (wr.drew.setCell ⟨G c, k, none⟩ (.int .u8 (um (R c k) f).toNat)) B o n W G C (fun q => if q = c then scP (R c) f (k + 1) else R q)) :=
        (HK.out.drew.one c hc _ (grown_set _ ⟨G c, k, none⟩ _) hN).congr fun i hi q hq => by
          by_cases e : i = c
          · subst e; simp
          · simp [e]
      have HN2 : Hid (Below B w (wr.drew.setCell ⟨G c, k, none⟩ (.int .u8 (um (R c k) f).toNat))) := HB.out.drew.setCell hBG _
      generalize um (R c k) f = v at *
      generalize R c k = y at *
      clear hN hrow HK HB
      go_wp2_with fail
      refine wp_region_still_tail 9 (by kernel_rfl) (by kernel_rfl) ?_
      simp only [List.take_succ_cons, List.take_zero, List.drop_succ_cons, List.drop_zero]
      change wpStill _ _ wr.drew _ _ _
      obtain ⟨wz, hwz⟩ : ∃ wz, wz = wr.drew := ⟨_, rfl⟩
      rw [← hwz] at e4 e5 f3 HN HN2 ⊢
      have HZ := Lib.hid hwz; clear hwz
      iterate 7 still_step
      still_call (HM.out _)
      still_step
      refine wpStill_nil ?_
      change wpList _ _ _ _ _ wr.drew
      rw [← HZ.out]
      go_wp2_with fail
      go_roundw
      case rel => exact ⟨k + 1, by omega, by go_num, HN, HN2⟩
      case measure => simp [intOf]; omega
    · obtain rfl : k = W := by omega
      obtain ⟨S, hS⟩ : ∃ S : Rw, S = sc R c f := ⟨_, rfl⟩
      have HS1 : Hid (Sol wr B o n k G C S) := HK.out.congr fun i hi q hq => by
        rw [hS]; unfold sc
        by_cases e : i = c
        · subst e; rw [if_pos rfl, if_pos rfl]; unfold scP; rw [if_pos hq]
        · rw [if_neg e, if_neg e]
      have HSe := Lib.hid hS
      have hBw : B ≤ wr.heap.size := Nat.le_trans hB HB.out.size
      clear hS HK HS e1
      obtain ⟨wo, hwo⟩ : ∃ wo, wo = wr := ⟨_, rfl⟩
      subst hwo
      go_wp2_with fail
      go_loopw [39] (fun i wr => ∃ j : Nat, j ≤ n ∧ i = .int .i64 j ∧ Hid (Sol wr B o n k G C (wpP S c j)) ∧ Hid (Below B wo wr)) (fun i _ => n - (intOf i).toNat)
      case atStart => exact ⟨0, Nat.zero_le _, rfl, HS1.out.congr fun i hi q hq => by unfold wpP; rw [if_neg (by omega)], Below.refl _ _⟩
      case round =>
        obtain ⟨j, hj, rfl, HK, HB2⟩ := hrel
        by_cases hlt2 : j < n
        · have hlt2' : (j : Int) < (n : Int) := by omega
          have e3 : wr.cell? ⟨o, j, none⟩ = some (.slice (some ⟨G j, 0, none⟩) k (C j)) := HK.out.slot j hlt2
          by_cases hjc : j = c
          · have hd : ((j : Int) != (c : Int)) = false := by rw [bne_eq_false_iff_eq]; omega
            have HK2 : Hid (Sol wr B o n k G C (wpP S c (j + 1))) := HK.out.congr fun i hi q hq => by
              unfold wpP
              by_cases e : i = j
              · rw [if_neg (by omega), if_pos (by omega)]; unfold wp; rw [if_pos (by omega), e, hjc]
              · by_cases e2 : i < j
                · rw [if_pos e2, if_pos (by omega)]
                · rw [if_neg e2, if_neg (by omega)]
            clear hjc
            go_wp2_with fail
            go_roundw
            case rel => exact ⟨j + 1, by omega, by go_num, HK2, HB2⟩
            case measure => simp [intOf]; omega
          · have hd : ((j : Int) != (c : Int)) = true := by rw [bne_iff_ne]; omega
            have e4 : wr.drew.cell? ⟨o, c, none⟩ = some (.slice (some ⟨G c, 0, none⟩) k (C c)) := HK.out.slot c hc
            have hrj := (HK.out.row j hlt2).drew
            have hrc := (HK.out.row c hc).drew
            have e5 : wr.drew.cell? ⟨G j, c, none⟩ = some (.int .u8 (S j c).toNat) := by
              have := hrj.cell c hcW; unfold wpP at this; rwa [if_neg (by omega)] at this
            have hadd := add_any (G j) k (C j) (G c) k (C c) (S j c) (wpP S c j c) (wpP S c j j) wr.drew hrj hrc (fun e => hjc (HK.out.inj j c hlt2 hc e)) (Nat.le_refl _) (by omega)
            have HA := Lib.hid hadd; clear hadd hrj hrc
            have HKd : Hid (Sol wr.drew B o n k G C (wpP S c j)) := HK.out.drew
            have HBd : Hid (Below B wo wr.drew) := HB2.out.drew
            have hBj := HK.out.base j hlt2
            have hBd : B ≤ wr.drew.heap.size := Nat.le_trans hBw HB2.out.size
            have HF : Hid (∀ i, i < n → ∀ q, q < k → (if i = j then adF (S j c) (wpP S c j c) (wpP S c j j) k else wpP S c j i) q = wpP S c (j + 1) i q) := fun i hi q hq => by
              by_cases e : i = j
              · subst e
                simp only [if_true]
                rw [wpP_c, wpP_self]
                unfold adF wpP wp
                rw [if_pos hq, if_pos (by omega), if_neg hjc]
              · rw [if_neg e]
                unfold wpP
                by_cases e2 : i < j
                · rw [if_pos e2, if_pos (by omega)]
                · rw [if_neg e2, if_neg (by omega)]
            generalize S j c = y at *
            clear HK HB2
            go_wp2_with fail
            refine wp_region_still_tail 9 (by kernel_rfl) (by kernel_rfl) ?_
            simp only [List.take_succ_cons, List.take_zero, List.drop_succ_cons, List.drop_zero]
            change wpStill _ _ wr.drew _ _ _
            obtain ⟨wz, hwz⟩ : ∃ wz, wz = wr.drew := ⟨_, rfl⟩
            rw [← hwz] at e4 e5 HA HKd HBd hBd ⊢
            have HZ := Lib.hid hwz; clear hwz
            iterate 9 still_step
            refine wpStill_nil ?_
            change wpList _ _ _ _ _ wr.drew
            rw [← HZ.out]
            go_wp2_with fail
            go_at_call 43
            refine HA.out.mono ?_
            rintro e w6 ⟨rfl, hf6, hg6⟩
            have HK6 : Hid (Sol w6 B o n k G C (wpP S c (j + 1))) := (HKd.out.one j hlt2 _ hg6 hf6).congr HF.out
            have HB6 : Hid (Below B wo w6) := HBd.out.grown hg6 hBd (fun q e => by injection e with e; omega)
            clear hf6 hg6
            go_wp2_with fail
            go_roundw
            case rel => exact ⟨j + 1, by omega, by go_num, HK6, HB6⟩
            case measure => simp [intOf]; omega
        · obtain rfl : j = n := by omega
          go_wp2_with fail
          go_end0
          exact ⟨rfl, HK.out.congr fun i hi q hq => by (unfold wpP; rw [if_pos hi, HSe.out]), HB.out.trans HB2.out⟩
end Go.Proofs.Ytdgnhnhmcobfkaa
