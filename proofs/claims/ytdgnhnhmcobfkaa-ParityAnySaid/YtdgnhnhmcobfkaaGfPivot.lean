/- gf's pivot: walk. -/
import Derived.Test.YtdgnhnhmcobfkaaGfBegun
import Derived.BigRegion
namespace Go.Proofs.Ytdgnhnhmcobfkaa
open Go.RowKit
set_option linter.unusedVariables false
theorem u8_ne (a : UInt8) (h : a ≠ 0) : ((a.toNat : Int) != 0) = true := by
  rw [bne_iff_ne]; intro e; apply h; apply UInt8.toNat_inj.1; show a.toNat = 0; omega
theorem u8_eq (a : UInt8) (h : a = 0) : ((a.toNat : Int) != 0) = false := by subst h; rfl
set_option maxRecDepth 20000 in
set_option maxHeartbeats 4000000 in
theorem pivot_any (w : World) (B o n W cap c : Nat) (G C : Nat → Nat) (R : Rw) (h : Sol w B o n W G C R) (hc : c < n) (hcW : c < W) (hn : n ≤ 1000000) :
    Calls Try.prog 46 #[.slice (some ⟨o, 0, none⟩) n cap, .int .i64 c] w fun e w' => (pvt R c n = none ∧ e = .returned (.bool false) ∧ w' = w) ∨
      ∃ p, pvt R c n = some p ∧ e = .returned (.bool true) ∧ Sol w' B o n W (swN G c p) (swN C c p) (sw R c p) ∧ w.grownBy w' (some o) := by
  have HS := Lib.hid h; clear h
  have hnI : n ≤ 9223372036854775807 := by omega
  go_enter Try.func46, Try.ntmps46
  go_wp2_with fail
  go_loopw [5] (fun i wr => ∃ j : Nat, c ≤ j ∧ j ≤ n ∧ i = .int .i64 j ∧ Hid (wr = w) ∧ Hid (∀ i, c ≤ i → i < j → R i c = 0)) (fun i _ => n - (intOf i).toNat)
  case atStart => exact ⟨c, Nat.le_refl _, by omega, rfl, rfl, fun i h1 h2 => absurd h1 (by omega)⟩
  case round =>
    obtain ⟨j, hcj, hj, rfl, HE, HZ⟩ := hrel
    have hE := HE.out
    subst hE
    by_cases hlt : j < n
    · have hlt' : (j : Int) < (n : Int) := by omega
      have hcW' : (c : Int) < (W : Int) := by omega
      have hcn' : (c : Int) < (n : Int) := by omega
      have e1 : wr.cell? ⟨o, j, none⟩ = some (.slice (some ⟨G j, 0, none⟩) W (C j)) := HS.out.slot j hlt
      have e2 : wr.cell? ⟨G j, c, none⟩ = some (.int .u8 (R j c).toNat) := (HS.out.row j hlt).cell c hcW
      by_cases hr : R j c = 0
      · have hd := u8_eq _ hr
        have HZ2 : Hid (∀ i, c ≤ i → i < j + 1 → R i c = 0) := fun i h1 h2 => by
          by_cases e : i = j
          · rw [e]; exact hr
          · exact HZ.out i h1 (by omega)
        generalize R j c = v at *
        clear hr
        go_wp2_with fail
        go_roundw
        case rel => exact ⟨j + 1, by omega, by omega, by go_num, by first | exact trivial | exact rfl, HZ2⟩
        case measure => simp [intOf]; omega
      · have hd := u8_ne _ hr
        have HP : Hid (pvt R c n = some j) := pvt_of hcj hlt hr HZ.out
        have HS2 := Lib.hid (sol_swap HS.out c j hc hlt)
        have e3 : wr.cell? ⟨o, c, none⟩ = some (.slice (some ⟨G c, 0, none⟩) W (C c)) := HS.out.slot c hc
        have f1 : wr.frozen? ⟨o, j, none⟩ = false := HS.out.free j hlt
        have f3 : wr.frozen? ⟨o, c, none⟩ = false := HS.out.free c hc
        have e4 : ((wr.setCell ⟨o, c, none⟩ (.slice (some ⟨G j, 0, none⟩) W (C j))).cell? ⟨o, j, none⟩).isSome = true := by
          by_cases e : c = j
          · subst e; rw [World.cell?_setCell_same _ _ _ e1]; rfl
          · rw [World.cell?_setCell_other _ _ _ _ (by intro e2; injection e2 with _ e2; exact e e2), e1]; rfl
        obtain ⟨x4, hx4⟩ := Option.isSome_iff_exists.1 e4
        have HG : Hid (wr.grownBy ((wr.setCell ⟨o, c, none⟩ (slV (G j) W (C j))).setCell ⟨o, j, none⟩ (slV (G c) W (C c))) (some o)) := grown_trans (grown_set _ ⟨o, c, none⟩ _) (grown_set _ ⟨o, j, none⟩ _)
        generalize R j c = v at *
        clear hr HZ e4
        go_wp2_with fail
        go_region
        go_wp2_with fail
        go_ret
        exact .inr ⟨j, HP.out, rfl, HS2.out.drew, grown_drew HG.out⟩
    · obtain rfl : j = n := by omega
      have HP : Hid (pvt R c j = none) := pvt_no HZ.out
      go_wp2_with fail
      go_ret
      exact .inl ⟨HP.out, rfl, rfl⟩
end Go.Proofs.Ytdgnhnhmcobfkaa
