/- gf.add: a row, times a number, added to another: walk. -/
import Derived.Test.YtdgnhnhmcobfkaaGfEven
import Derived.StillTailTactics
namespace Go.Proofs.Ytdgnhnhmcobfkaa
open Go.RowKit
set_option linter.unusedVariables false
theorem grown_then' {a b c : World} {r : Option Nat} (h : a.grownBy b r) (k : b.grownBy c r) : a.grownBy c r := grown_trans h k
theorem grown_drew {a w : World} {row : Option Nat} (h : a.grownBy w row) : a.grownBy w.drew row := ⟨h.os, h.tape, h.output, h.size, h.block⟩
theorem FRow.drew {w : World} {g n : Nat} {f : Nat → UInt8} (h : FRow w g n f) : FRow w.drew g n f := h.same (Nat.le_refl _) rfl
theorem umul_any (a b : UInt8) (w : World) : Calls Try.prog 10 #[.int .u8 (a.toNat : Int), .int .u8 (b.toNat : Int)] w fun e w' => e = .returned (.int .u8 ((um a b).toNat : Int)) ∧ w' = w := by
  rw [um_nat]
  exact (mul_any a.toNat b.toNat a.toNat_lt b.toNat_lt w).mono fun _ _ ⟨h1, h2⟩ => ⟨h1, h2.symm⟩
theorem rumul_any (a b : UInt8) (w : World) : Calls Try.prog 15 #[.int .u8 (a.toNat : Int), .int .u8 (b.toNat : Int)] w fun e w' => e = .returned (.int .u8 ((um a b).toNat : Int)) ∧ w' = w := by
  rw [um_nat]
  exact (refMul_any a.toNat b.toNat a.toNat_lt b.toNat_lt w).mono fun _ _ ⟨h1, h2⟩ => ⟨h1, h2.symm⟩
theorem ux8 (a b : UInt8) : bits .xor .u8 (a.toNat : Int) (b.toNat : Int) = ((a ^^^ b).toNat : Int) := by
  rw [x8n _ _ a.toNat_lt b.toNat_lt, UInt8.toNat_xor]
/-- the first k cells of ft with f times fr's added -/
def adF (f : UInt8) (fr ft : Nat → UInt8) (k : Nat) (i : Nat) : UInt8 := if i < k then ft i ^^^ um f (fr i) else ft i
theorem adF_zero (f : UInt8) (fr ft : Nat → UInt8) (i : Nat) : adF f fr ft 0 i = ft i := by unfold adF; rw [if_neg (by omega)]
theorem adF_step (f : UInt8) (fr ft : Nat → UInt8) (k : Nat) : updB (adF f fr ft k) k (ft k ^^^ um f (fr k)) = adF f fr ft (k + 1) := by
  funext i
  unfold updB adF
  by_cases e : i = k
  · subst e; rw [if_pos rfl, if_pos (by omega)]
  · rw [if_neg e]
    by_cases h : i < k
    · rw [if_pos h, if_pos (by omega)]
    · rw [if_neg h, if_neg (by omega)]
set_option maxRecDepth 20000 in
set_option maxHeartbeats 2000000 in
theorem add_any (gT nT cT gR n cR : Nat) (f : UInt8) (fr ft : Nat → UInt8) (w : World) (hT : FRow w gT nT ft) (hR : FRow w gR n fr) (hne : gT ≠ gR) (hn : n ≤ nT) (hm : nT ≤ 140737488351232) :
    Calls Try.prog 43 #[.slice (some ⟨gT, 0, none⟩) nT cT, .int .u8 (f.toNat : Int), .slice (some ⟨gR, 0, none⟩) n cR] w fun e w' => e = .returned (.tuple #[]) ∧ FRow w' gT nT (adF f fr ft n) ∧ w.grownBy w' (some gT) := by
  have HT := Lib.hid hT; clear hT
  have HR := Lib.hid hR; clear hR
  by_cases hf : f = 0
  · have hd : ((f.toNat : Int) == 0) = true := by subst hf; rfl
    have HA : Hid (∀ i, ft i = adF f fr ft n i) := fun i => by subst hf; unfold adF; rw [zero_um, UInt8.xor_zero]; simp
    clear hf
    go_enter Try.func43, Try.ntmps43
    go_wp2
    ((try simp only [Exit.inBlock, Exit.then]); refine bodyPost_ret (results_none rfl _ _ _) rfl ?_)
    exact ⟨rfl, HT.out.congr fun i _ => HA.out i, grown_refl _ _⟩
  · have hd : ((f.toNat : Int) == 0) = false := by
      rw [beq_eq_false_iff_ne]; intro e; apply hf; apply UInt8.toNat_inj.1; show f.toNat = 0; omega
    clear hf
    have hm2 : n ≤ 9223372036854775807 := by omega
    go_enter Try.func43, Try.ntmps43
    go_wp2_with fail
    clear hd
    go_loopw [12] (fun i wr => ∃ k : Nat, k ≤ n ∧ i = .int .i64 k ∧ Hid (FRow wr gT nT (adF f fr ft k)) ∧ Hid (w.grownBy wr (some gT))) (fun i _ => n - (intOf i).toNat)
    case atStart => exact ⟨0, Nat.zero_le _, rfl, HT.out.congr fun i _ => (adF_zero f fr ft i).symm, grown_refl _ _⟩
    case round =>
      obtain ⟨k, hk, rfl, HF, HG⟩ := hrel
      by_cases hlt : k < n
      · have hltT : k < nT := by omega
        have hk2 : (k : Int) < (n : Int) := by omega
        have hk3 : (k : Int) < (nT : Int) := by omega
        have HR2 : Hid (FRow wr gR n fr) := HR.out.grown HG.out (by intro e; injection e with e; exact hne e.symm)
        have e1 : wr.cell? ⟨gR, k, none⟩ = some (.int .u8 (fr k).toNat) := HR2.out.cell k hlt
        have e2 : wr.cell? ⟨gT, k, none⟩ = some (.int .u8 (ft k).toNat) := by
          have := HF.out.cell k hltT; unfold adF at this; rwa [if_neg (by omega)] at this
        have HN : Hid (FRow (wr.drew.setCell ⟨gT, k, none⟩ (.int .u8 (ft k ^^^ um f (fr k)).toNat)) gT nT (adF f fr ft (k + 1))) := by
          have := HF.out.drew.set k (ft k ^^^ um f (fr k)) hltT
          rwa [adF_step] at this
        have HN2 : Hid (w.grownBy (wr.drew.setCell ⟨gT, k, none⟩ (.int .u8 (ft k ^^^ um f (fr k)).toNat)) (some gT)) := grown_trans (grown_drew HG.out) (grown_set _ _ _)
        have f2 : wr.frozen? ⟨gT, k, none⟩ = false := HF.out.free k hltT
        have HM := Lib.hid (umul_any f (fr k))
        have hx := ux8 (ft k) (um f (fr k))
        generalize ft k ^^^ um f (fr k) = q at *
        generalize um f (fr k) = v at *
        generalize ft k = y at *
        generalize fr k = x at *
        clear HF HG HR2
        go_wp2_with fail
        refine wp_region_still_tail 9 (by kernel_rfl) (by kernel_rfl) ?_
        simp only [List.take_succ_cons, List.take_zero, List.drop_succ_cons, List.drop_zero]
        change wpStill _ _ wr.drew _ _ _
        have e1' : wr.drew.cell? ⟨gR, k, none⟩ = some (.int .u8 x.toNat) := e1
        have e2' : wr.drew.cell? ⟨gT, k, none⟩ = some (.int .u8 y.toNat) := e2
        have f2' : wr.drew.frozen? ⟨gT, k, none⟩ = false := f2
        clear e1 e2 f2
        obtain ⟨wz, hwz⟩ : ∃ wz, wz = wr.drew := ⟨_, rfl⟩
        rw [← hwz] at e1' e2' f2' HN HN2 ⊢
        have HZ := Lib.hid hwz; clear hwz
        still_step
        still_step
        still_step
        still_step
        still_step
        still_step
        still_call (HM.out _)
        still_step
        still_step
        refine wpStill_nil ?_
        change wpList _ _ _ _ _ wr.drew
        rw [← HZ.out]
        go_wp2_with fail
        go_roundw
        case rel => exact ⟨k + 1, by omega, by go_num, HN, HN2⟩
        case measure => simp [intOf]; omega
      · obtain rfl : k = n := by omega
        go_wp2_with fail
        go_end0
        exact ⟨rfl, HF.out, HG.out⟩
end Go.Proofs.Ytdgnhnhmcobfkaa
