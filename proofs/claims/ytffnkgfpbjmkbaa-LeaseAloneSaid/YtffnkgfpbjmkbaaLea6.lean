/- lease: Renew at one lock. -/
import Derived.Test.YtffnkgfpbjmkbaaLea5
namespace Go.Proofs.Ytffnkgfpbjmkbaa
open Go.RowKit
set_option linter.unusedVariables false
set_option linter.unusedSimpArgs false
set_option maxRecDepth 20000 in
set_option maxHeartbeats 2000000 in
theorem renew1_any (g pl pt : Nat) (now until' ticks : Int) (w : World) (hl : w.cell? ⟨pl, 0, none⟩ = some (.int .i64 now)) (ht : w.cell? ⟨pt, 0, none⟩ = some (.int .i64 ticks)) (hu : w.cell? ⟨g, 2, none⟩ = some (.int .i64 until')) (hf : w.frozen? ⟨g, 2, none⟩ = false) (h0 : 0 ≤ now) (h1 : now ≤ 1000000000000) (h2 : 0 < ticks ∧ ticks ≤ 1000) :
    Calls Try.prog 34 #[.pointer (some ⟨g, 0, none⟩), .pointer (some ⟨pl, 0, none⟩), .pointer (some ⟨pt, 0, none⟩)] w fun e w' => e = .returned (.tuple #[]) ∧ w' = w.setCell ⟨g, 2, none⟩ (.int .i64 (now + ticks)) := by
  go_enter Try.func34, Try.ntmps34
  go_wp2
  go_end0
  exact ⟨rfl, rfl⟩
set_option maxRecDepth 20000 in
set_option maxHeartbeats 2000000 in
theorem change_one (bk pl pt : Nat) (v : Value) (x : Lk) (owner : UInt64) (now ticks : Int) (w : World) (h : One w v x) (ho : x.o = owner) (hk : w.cell? ⟨bk, 1, none⟩ = some v) (hfk : w.frozen? ⟨bk, 1, none⟩ = false) (hbk : bk < w.heap.size)
    (hl : w.cell? ⟨pl, 0, none⟩ = some (.int .i64 now)) (hpl : pl < w.heap.size) (hplk : pl ≠ bk) (ht : w.cell? ⟨pt, 0, none⟩ = some (.int .i64 ticks)) (hpt : pt < w.heap.size) (hptk : pt ≠ bk) (h0 : 0 ≤ now) (h1 : now ≤ 1000000000000) (h2 : 0 < ticks ∧ ticks ≤ 1000) :
    Calls Try.prog 33 #[.pointer (some ⟨bk, 0, none⟩), .int .u64 owner.toNat, .func (.func 34) #[] #[.pointer (some ⟨pl, 0, none⟩), .pointer (some ⟨pt, 0, none⟩)]] w fun e w' => e = .returned (.int .i64 0) ∧ ∃ v', One w' v' ⟨x.o, x.s, now + ticks⟩ ∧ w'.cell? ⟨bk, 1, none⟩ = some v' ∧ w'.cell? ⟨bk, 0, none⟩ = w.cell? ⟨bk, 0, none⟩ ∧ w.grownBy w' (some bk) := by
  have HAT := Lib.hid (at_one bk v x owner w h hk)
  rw [show decide (x.o = owner) = true by simpa using ho, ho, if_neg (UInt64.lt_irrefl owner)] at HAT
  have HCl := Lib.hid (fun w' (b : Below w.heap.size w w') => clone_one v x w' (h.below b (Nat.le_refl _)))
  obtain ⟨g, c, rfl, _, _, _, _, _, _⟩ := h
  go_enter Try.func33, Try.ntmps33
  go_wp2_with fail
  refine HAT.out.mono ?_
  rintro e w1 ⟨rfl, b1⟩
  have K1 := (b1.cell (p := ⟨bk, 1, none⟩) hbk).trans hk
  have HB1 := Lib.hid b1
  clear b1 HAT
  go_wp2_with fail
  refine (HCl.out _ HB1.out).mono ?_
  rintro e w2 ⟨vc, rfl, hoc, b2⟩
  have HB2 : Hid (Below w.heap.size w w2) := HB1.out.trans (b2.mono HB1.out.size)
  have K2 := (HB2.out.cell (p := ⟨bk, 1, none⟩) hbk).trans hk
  have F2 := (HB2.out.frozen (p := ⟨bk, 1, none⟩) hbk).trans hfk
  have L2 := (HB2.out.cell (p := ⟨pl, 0, none⟩) hpl).trans hl
  have T2 := (HB2.out.cell (p := ⟨pt, 0, none⟩) hpt).trans ht
  have HON := Lib.hid hoc.one
  obtain ⟨gc, cc, hvc, hcc1, hcc2, hgc, q0, q1, q2⟩ := hoc.one
  subst hvc
  have hc9 : cc ≤ 9223372036854775807 := by unfold maxLen at hcc2; omega
  obtain ⟨hgb, hfg⟩ := OwnL.free hoc
  have hgw : w.heap.size ≤ gc := Nat.le_trans HB1.out.size hgb
  have hgk : gc ≠ bk := by omega
  have hgk' : bk ≠ gc := by omega
  have HR := Lib.hid (renew1_any gc pl pt now x.u ticks (w2.setCell ⟨bk, 1, none⟩ (.slice (some ⟨gc, 0, none⟩) 1 cc)) ((World.cell?_setCell_other _ _ _ _ (by intro e; injection e with e _; exact hplk e.symm)).trans L2) ((World.cell?_setCell_other _ _ _ _ (by intro e; injection e with e _; exact hptk e.symm)).trans T2) ((World.cell?_setCell_other _ _ _ _ (by intro e; injection e with e _; exact hgk' e)).trans q2) (by rw [World.frozen?_setCell]; exact hfg 2) h0 h1 h2)
  have Q2 : (w2.setCell ⟨bk, 1, none⟩ (.slice (some ⟨gc, 0, none⟩) 1 cc)).cell? ⟨bk, 1, none⟩ = some (.slice (some ⟨gc, 0, none⟩) 1 cc) := World.cell?_setCell_same _ _ _ K2
  have HFIN : Hid (One ((w2.setCell ⟨bk, 1, none⟩ (.slice (some ⟨gc, 0, none⟩) 1 cc)).setCell ⟨gc, 2, none⟩ (.int .i64 (now + ticks))) (.slice (some ⟨gc, 0, none⟩) 1 cc) ⟨x.o, x.s, now + ticks⟩) := by
    have hs := HON.out.set_other 1 (.slice (some ⟨gc, 0, none⟩) 1 cc) hgk'
    obtain ⟨g', c', e', m2, m3, m4, m5, m6, m7⟩ := hs
    cases e'
    refine ⟨gc, cc, rfl, m2, m3, by rw [World.size_setCell]; exact m4, ?_, ?_, ?_⟩
    · exact (World.cell?_setCell_other _ _ _ _ (by intro e; injection e with _ e; cases e)).trans m5
    · exact (World.cell?_setCell_other _ _ _ _ (by intro e; injection e with _ e; cases e)).trans m6
    · exact World.cell?_setCell_same _ _ _ m7
  have HGR : Hid (w.grownBy ((w2.setCell ⟨bk, 1, none⟩ (.slice (some ⟨gc, 0, none⟩) 1 cc)).setCell ⟨gc, 2, none⟩ (.int .i64 (now + ticks))) (some bk)) := by
    refine ⟨?_, ?_, ?_, ?_, fun i hi hne => ?_⟩
    · exact HB2.out.os
    · exact HB2.out.tape
    · exact HB2.out.output
    · rw [World.size_setCell, World.size_setCell]; exact HB2.out.size
    · rw [heap_setCell_other _ _ i _ (by dsimp only; omega), heap_setCell_other _ _ i _ (by dsimp only; intro e; exact hne (by rw [e]))]
      exact HB2.out.block i hi
  have HK0 : Hid (((w2.setCell ⟨bk, 1, none⟩ (.slice (some ⟨gc, 0, none⟩) 1 cc)).setCell ⟨gc, 2, none⟩ (.int .i64 (now + ticks))).cell? ⟨bk, 0, none⟩ = w.cell? ⟨bk, 0, none⟩) := by
    unfold Hid
    rw [World.cell?_setCell_other _ _ _ _ (by intro e; injection e with e _; exact hgk e), World.cell?_setCell_other _ _ _ _ (by intro e; injection e with _ e; cases e)]
    exact HB2.out.cell (p := ⟨bk, 0, none⟩) hbk
  have HK1 : Hid (((w2.setCell ⟨bk, 1, none⟩ (.slice (some ⟨gc, 0, none⟩) 1 cc)).setCell ⟨gc, 2, none⟩ (.int .i64 (now + ticks))).cell? ⟨bk, 1, none⟩ = some (.slice (some ⟨gc, 0, none⟩) 1 cc)) := by
    unfold Hid
    rw [World.cell?_setCell_other _ _ _ _ (by intro e; injection e with e _; exact hgk e)]
    exact Q2
  clear hoc b2 q0 q1 q2 hfg L2 T2 hl ht HON HB1 HB2 hk hfk K1 HCl
  go_wp2_with fail
  refine HR.out.mono ?_
  rintro e w3 ⟨rfl, rfl⟩
  go_wp2_with fail
  go_ret
  exact ⟨rfl, _, HFIN.out, HK1.out, HK0.out, HGR.out⟩
end Go.Proofs.Ytffnkgfpbjmkbaa
