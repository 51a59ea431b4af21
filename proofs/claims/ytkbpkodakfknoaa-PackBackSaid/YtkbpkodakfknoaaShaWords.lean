/- A block's words: the document's walk. -/
import Derived.Test.YtkbpkodakfknoaaShaSched
namespace Go.Proofs.Ytkbpkodakfknoaa
open Go.RowKit
set_option linter.unusedVariables false
theorem shlC (c : UInt8) (n : Nat) (m : Int) (h : n < 32) (hm : m = ((2 ^ n : Nat) : Int)) : (c.toNat : Int) % 4294967296 * m % 4294967296 = ((uL c.toUInt32 n).toNat : Int) := by
  rw [← shl8 c n h, hm, Int.natCast_pow]; rfl
theorem shlC' (c : UInt8) (n : Nat) (m : Int) (h : n < 32) (hm : m = ((2 ^ n : Nat) : Int)) : (c.toNat : Int) * m % 4294967296 = ((uL c.toUInt32 n).toNat : Int) := by
  have hc := c.toNat_lt
  rw [← shlC c n m h hm]
  have e : (c.toNat : Int) % 4294967296 = (c.toNat : Int) := by omega
  rw [e]
theorem shlD (c : UInt8) (n : Nat) (m : Int) (h : n ≤ 24) (hm : m = ((2 ^ n : Nat) : Int)) : (c.toNat : Int) * m = ((uL c.toUInt32 n).toNat : Int) := by
  have hc := c.toNat_lt
  rw [← shlC' c n m (by omega) hm]
  have h2 : 2 ^ n ≤ 2 ^ 24 := Nat.pow_le_pow_right (by decide) h
  have h3 : c.toNat * 2 ^ n ≤ 255 * 2 ^ 24 := Nat.mul_le_mul (by omega) h2
  rw [hm, ← Int.natCast_mul]
  omega
theorem orC (a : UInt32) (c : UInt8) : bits .or .u32 (a.toNat : Int) (c.toNat : Int) = ((uO a c.toUInt32).toNat : Int) := by
  rw [← wO]; simp
theorem orC' (a : UInt32) (c : UInt8) : bits .or .u32 (a.toNat : Int) ((c.toNat : Int) % 4294967296) = ((uO a c.toUInt32).toNat : Int) := by
  have hc := c.toNat_lt
  have e : (c.toNat : Int) % 4294967296 = (c.toNat : Int) := by omega
  rw [e, orC]
set_option maxRecDepth 20000 in
set_option maxHeartbeats 4000000 in
theorem words_any (b : List UInt8) (hb : b.length = 64) (w : World) :
    Calls Try.prog 52 #[.agg (bytesOf 64 fun i => b.getD i 0)] w fun e w' => e = .returned (.agg (cellsOf 64 (wAt b))) ∧ Below w.heap.size w w' := by
  obtain ⟨F, hF⟩ : ∃ F : Nat → UInt8, F = fun i => b.getD i 0 := ⟨_, rfl⟩
  rw [← hF]
  have HF := Lib.hid hF; clear hF
  obtain ⟨B, hB⟩ : ∃ B, B = bytesOf 64 F := ⟨_, rfl⟩
  rw [← hB]
  have HR0 := Lib.hid ((((row_new w 77 B).alloc (.cells (cellsOf 64 (fun _ => 0)) 88))).alloc (.cells (cellsOf 64 (fun _ => 0)) 88))
  have hR1 := (row_new (w.alloc (.cells B 77)) 88 (cellsOf 64 (fun _ => 0))).alloc (.cells (cellsOf 64 (fun _ => 0)) 88)
  have hR2 := row_new ((w.alloc (.cells B 77)).alloc (.cells (cellsOf 64 (fun _ => 0)) 88)) 88 (cellsOf 64 (fun _ => 0))
  simp only [World.size_alloc] at hR1 hR2
  have HR1 := Lib.hid hR1; clear hR1
  have HR2 := Lib.hid hR2; clear hR2
  have HB2 := Lib.hid ((((Below.refl w.heap.size w).alloc (Nat.le_refl _) (.cells B 77)).alloc (by simp) (.cells (cellsOf 64 (fun _ => 0)) 88)).alloc (by simp; omega) (.cells (cellsOf 64 (fun _ => 0)) 88))
  have HBB := Lib.hid hB; clear hB
  go_enter Try.func52, Try.ntmps52
  go_wp2_with fail
  rw [zero64]
  go_loopw [4] (fun i wr => ∃ k : Nat, k ≤ 16 ∧ i = .int .i64 k ∧ Hid (Row wr w.heap.size 77 (bytesOf 64 F)) ∧ Hid (Row wr (w.heap.size + 1) 88 (cellsOf 64 (fun _ => 0))) ∧ Hid (Row wr (w.heap.size + 1 + 1) 88 (cellsOf 64 (wUp b k))) ∧ Hid (Below w.heap.size w wr)) (fun i _ => 16 - (intOf i).toNat)
  case atStart => exact ⟨0, by omega, rfl, by rw [← HBB.out]; exact HR0.out, HR1.out, HR2.out, HB2.out⟩
  case round =>
    obtain ⟨k, hk, rfl, HA, HZ, HR, HW⟩ := hrel
    by_cases hlt : k < 16
    · have e0 := HA.out.cellB (j := 4 * k) (by omega)
      have e1 := HA.out.cellB (j := 4 * k + 1) (by omega)
      have e2 := HA.out.cellB (j := 4 * k + 2) (by omega)
      have e3 := HA.out.cellB (j := 4 * k + 3) (by omega)
      have ek := HR.out.cell (j := k) (by omega)
      have fk := HR.out.free k
      have HP : Hid (uO (uO (uO (uL (F (4 * k)).toUInt32 24) (uL (F (4 * k + 1)).toUInt32 16)) (uL (F (4 * k + 2)).toUInt32 8)) (F (4 * k + 3)).toUInt32 = wAt b k) := by
        unfold Hid; rw [wAt_lo b k hlt, HF.out]; rfl
      generalize F (4 * k) = c0 at *
      generalize F (4 * k + 1) = c1 at *
      generalize F (4 * k + 2) = c2 at *
      generalize F (4 * k + 3) = c3 at *
      generalize wUp b k k = z at *
      have hc0 := c0.toNat_lt
      have hc1 := c1.toNat_lt
      have hc2 := c2.toNat_lt
      have hc3 := c3.toNat_lt
      have s0 := shlC c0 24 16777216 (by decide) (by decide)
      have s1 := shlC c1 16 65536 (by decide) (by decide)
      have s2 := shlC c2 8 256 (by decide) (by decide)
      have s0'' := shlD c0 24 16777216 (by decide) (by decide)
      have s1'' := shlD c1 16 65536 (by decide) (by decide)
      have s2'' := shlD c2 8 256 (by decide) (by decide)
      have s0' := shlC' c0 24 16777216 (by decide) (by decide)
      have s1' := shlC' c1 16 65536 (by decide) (by decide)
      have s2' := shlC' c2 8 256 (by decide) (by decide)
      have o3 := fun a => orC a c3
      have o3' := fun a => orC' a c3
      have hO := wO
      have i0 : IntKind.i64.wrap (4 * (k : Int)) = 4 * (k : Int) := IntWalk.i64_in _ (by omega)
      have i1 : IntKind.i64.wrap (4 * (k : Int) + 1) = 4 * (k : Int) + 1 := IntWalk.i64_in _ (by omega)
      have i2 : IntKind.i64.wrap (4 * (k : Int) + 2) = 4 * (k : Int) + 2 := IntWalk.i64_in _ (by omega)
      have i3 : IntKind.i64.wrap (4 * (k : Int) + 3) = 4 * (k : Int) + 3 := IntWalk.i64_in _ (by omega)
      have t0 : (4 * (k : Int)).toNat = 4 * k := by omega
      have t1 : (4 * (k : Int) + 1).toNat = 4 * k + 1 := by omega
      have t2 : (4 * (k : Int) + 2).toNat = 4 * k + 2 := by omega
      have t3 : (4 * (k : Int) + 3).toNat = 4 * k + 3 := by omega
      have l0 : 4 * (k : Int) < 64 := by omega
      have l1 : 4 * (k : Int) + 1 < 64 := by omega
      have l2 : 4 * (k : Int) + 2 < 64 := by omega
      have l3 : 4 * (k : Int) + 3 < 64 := by omega
      have p0 : (0 : Int) ≤ 4 * (k : Int) := by omega
      have p1 : (0 : Int) ≤ 4 * (k : Int) + 1 := by omega
      have p2 : (0 : Int) ≤ 4 * (k : Int) + 2 := by omega
      have p3 : (0 : Int) ≤ 4 * (k : Int) + 3 := by omega
      have lk : (k : Int) < 64 := by omega
      go_wp2_with fail
      have e0' : wr.drew.cell? ⟨w.heap.size, 4 * k, none⟩ = some (.int .u8 c0.toNat) := e0
      have e1' : wr.drew.cell? ⟨w.heap.size, 4 * k + 1, none⟩ = some (.int .u8 c1.toNat) := e1
      have e2' : wr.drew.cell? ⟨w.heap.size, 4 * k + 2, none⟩ = some (.int .u8 c2.toNat) := e2
      have e3' : wr.drew.cell? ⟨w.heap.size, 4 * k + 3, none⟩ = some (.int .u8 c3.toNat) := e3
      have ek' : wr.drew.cell? ⟨w.heap.size + 1 + 1, k, none⟩ = some (.int .u32 z.toNat) := ek
      have fk' : wr.drew.frozen? ⟨w.heap.size + 1 + 1, k, none⟩ = false := fk
      have HAd : Hid (Row wr.drew w.heap.size 77 (bytesOf 64 F)) := HA.out
      have HZd : Hid (Row wr.drew (w.heap.size + 1) 88 (cellsOf 64 (fun _ => 0))) := HZ.out
      have HRd : Hid (Row wr.drew (w.heap.size + 1 + 1) 88 (cellsOf 64 (wUp b k))) := HR.out
      have HWd : Hid (Below w.heap.size w wr.drew) := HW.out.drew
      clear e0 e1 e2 e3 ek fk HA HZ HR HW
      refine wp_region_still_tail 31 (by kernel_rfl) (by kernel_rfl) ?_
      simp only [List.take_succ_cons, List.take_zero, List.drop_succ_cons, List.drop_zero]
      change wpStill _ _ wr.drew _ _ _
      obtain ⟨w3, hw3⟩ : ∃ w3, w3 = wr.drew := ⟨_, rfl⟩
      rw [← hw3] at e0' e1' e2' e3' ek' fk' HAd HZd HRd HWd ⊢
      have HW3 := Lib.hid hw3; clear hw3
      repeat still_step
      refine wpStill_nil ?_
      change wpList _ _ _ _ _ wr.drew
      rw [← HW3.out]
      go_wp2
      go_roundw
      case rel => exact ⟨k + 1, by omega, by go_num, HAd.out.other _ _ (by simp; omega), HZd.out.other _ _ (by simp), by have h := HRd.out.set (uO (uO (uO (uL c0.toUInt32 24) (uL c1.toUInt32 16)) (uL c2.toUInt32 8)) c3.toUInt32) (show k < 64 by omega); rw [wUp_next b k _ HP.out] at h; exact h, HWd.out.setCell (p := ⟨w.heap.size + 1 + 1, k, none⟩) (by simp; omega) _⟩
      case measure => simp [intOf]; omega
    · have HR16 : Hid (Row wr (w.heap.size + 1 + 1) 88 (cellsOf 64 (wUp b 16))) := by
        have h : k = 16 := by omega
        unfold Hid; subst h; exact HR.out
      clear HR HA
      go_wp2_with fail
      obtain ⟨w1, hw1⟩ : ∃ w1 : World, w1 = wr := ⟨_, rfl⟩
      rw [← hw1] at HW HR16 HZ ⊢
      clear hw1
      go_loopw [5] (fun i wr => ∃ k : Nat, 16 ≤ k ∧ k ≤ 64 ∧ i = .int .i64 k ∧ Hid (Row wr (w.heap.size + 1) 88 (cellsOf 64 (fun _ => 0))) ∧ Hid (Row wr (w.heap.size + 1 + 1) 88 (cellsOf 64 (wUp b k))) ∧ Hid (Below w.heap.size w wr)) (fun i _ => 64 - (intOf i).toNat)
      case atStart => exact ⟨16, by omega, by omega, rfl, HZ.out, HR16.out, HW.out⟩
      case round =>
        obtain ⟨k, hk16, hk, rfl, HZ, HR, HV⟩ := hrel
        by_cases hlt : k < 64
        · have HP : Hid (uA (uA (uA (wAt b (k - 16)) (sg0 (wAt b (k - 15)))) (wAt b (k - 7))) (sg1 (wAt b (k - 2))) = wAt b k) := (wAt_hi b k hk16).symm
          have e15 := HR.out.cell (j := k - 15) (by omega)
          have e2 := HR.out.cell (j := k - 2) (by omega)
          have e16 := HR.out.cell (j := k - 16) (by omega)
          have e7 := HR.out.cell (j := k - 7) (by omega)
          have ek := HR.out.cell (j := k) (by omega)
          have fk := HR.out.free k
          rw [wUp_at b k (k - 15) (by omega)] at e15
          rw [wUp_at b k (k - 2) (by omega)] at e2
          rw [wUp_at b k (k - 16) (by omega)] at e16
          rw [wUp_at b k (k - 7) (by omega)] at e7
          generalize wAt b (k - 15) = x at *
          generalize wAt b (k - 2) = y at *
          generalize wAt b (k - 16) = p at *
          generalize wAt b (k - 7) = q at *
          generalize wUp b k k = z at *
          have i15 : (k : Int) - 15 = ((k - 15 : Nat) : Int) := by omega
          have i2 : (k : Int) - 2 = ((k - 2 : Nat) : Int) := by omega
          have i16 : (k : Int) - 16 = ((k - 16 : Nat) : Int) := by omega
          have i7 : (k : Int) - 7 = ((k - 7 : Nat) : Int) := by omega
          have w16 : IntKind.i64.wrap ((k - 16 : Nat) : Int) = ((k - 16 : Nat) : Int) := IntWalk.i64_in _ (by omega)
          have w7 : IntKind.i64.wrap ((k - 7 : Nat) : Int) = ((k - 7 : Nat) : Int) := IntWalk.i64_in _ (by omega)
          have l15 : ((k - 15 : Nat) : Int) < 64 := by omega
          have l2 : ((k - 2 : Nat) : Int) < 64 := by omega
          have l16 : ((k - 16 : Nat) : Int) < 64 := by omega
          have l7 : ((k - 7 : Nat) : Int) < 64 := by omega
          have lk : (k : Int) < 64 := by omega
          have hX := wX
          have hA := wA
          have hA' := wA'
          have hR3 := wR3
          have hR10 := wR10
          go_wp2_with fail
          refine (rot7_any _ _).mono ?_
          rintro e w' ⟨rfl, rfl⟩
          go_wp2_with fail
          refine (rot18_any _ _).mono ?_
          rintro e w' ⟨rfl, rfl⟩
          go_wp2_with fail
          refine (rot17_any _ _).mono ?_
          rintro e w' ⟨rfl, rfl⟩
          go_wp2_with fail
          refine (rot19_any _ _).mono ?_
          rintro e w' ⟨rfl, rfl⟩
          go_wp2_with fail
          have e16' : wr.drew.cell? ⟨w.heap.size + 1 + 1, k - 16, none⟩ = some (.int .u32 p.toNat) := e16
          have e7' : wr.drew.cell? ⟨w.heap.size + 1 + 1, k - 7, none⟩ = some (.int .u32 q.toNat) := e7
          have ek' : wr.drew.cell? ⟨w.heap.size + 1 + 1, k, none⟩ = some (.int .u32 z.toNat) := ek
          have fk' : wr.drew.frozen? ⟨w.heap.size + 1 + 1, k, none⟩ = false := fk
          have HZd : Hid (Row wr.drew (w.heap.size + 1) 88 (cellsOf 64 (fun _ => 0))) := HZ.out
          have HRd : Hid (Row wr.drew (w.heap.size + 1 + 1) 88 (cellsOf 64 (wUp b k))) := HR.out
          have HVd : Hid (Below w.heap.size w wr.drew) := HV.out.drew
          clear e16 e7 e15 e2 ek fk HR HV HZ
          refine wp_region_still_tail 15 (by kernel_rfl) (by kernel_rfl) ?_
          simp only [List.take_succ_cons, List.take_zero, List.drop_succ_cons, List.drop_zero]
          change wpStill _ _ wr.drew _ _ _
          obtain ⟨w3, hw3⟩ : ∃ w3, w3 = wr.drew := ⟨_, rfl⟩
          rw [← hw3] at e16' e7' ek' fk' HZd HRd HVd ⊢
          have HW3 := Lib.hid hw3; clear hw3
          repeat still_step
          refine wpStill_nil ?_
          change wpList _ _ _ _ _ wr.drew
          rw [← HW3.out]
          go_wp2
          go_roundw
          case rel => exact ⟨k + 1, by omega, by omega, by go_num, HZd.out.other _ _ (by simp), by have h := HRd.out.set (uA (uA (uA p (sg0 x)) q) (sg1 y)) hlt; rw [wUp_next b k _ HP.out] at h; exact h, HVd.out.setCell (p := ⟨w.heap.size + 1 + 1, k, none⟩) (by simp; omega) _⟩
          case measure => simp [intOf]; omega
        · obtain rfl : k = 64 := by omega
          have HR64 : Hid (Row wr (w.heap.size + 1 + 1) 88 (cellsOf 64 (wAt b))) := by unfold Hid; rw [← wUp_done]; exact HR.out
          have HLd : Hid ((Try.prog.info? 88).map (·.size) = some (cellsOf 64 (wAt b)).size) := by unfold Hid; rw [cellsOf_size]; kernel_rfl
          have HO : Hid ((cellsOf 64 (wAt b)).all (·.oneCell') = true) := cellsOf_one _ _
          go_wp2_with (first | (refine wpList_load_row rfl _ _ rfl (w.heap.size + 1 + 1) rfl 88 (cellsOf 64 (wAt b)) (0, 0) _ HR64.out Try.underlying88 rfl HLd.out ?_) | (refine wpList_store_row rfl _ _ _ rfl (w.heap.size + 1) (cellsOf 64 (wAt b)) rfl rfl 88 _ HZ.out HLd.out rfl HO.out ?_))
          refine bodyPost_ret (v := .agg (cellsOf 64 (wAt b))) ?_ rfl ⟨rfl, ?_⟩
          · exact results_cell_row rfl _ _ (w.heap.size + 1) 88 _ (0, 0) _ rfl (setRow_heap _ _ _ _ _ _ HZ.out) Try.underlying88 rfl HLd.out
          · exact below_setRow HV.out (by omega) _
end Go.Proofs.Ytkbpkodakfknoaa
