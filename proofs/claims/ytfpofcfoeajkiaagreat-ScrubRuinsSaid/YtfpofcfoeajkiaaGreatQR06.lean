/- Texts of this claim's author, packed: ShaWords, ShaConst, ShaBlock. Conditions: none. -/
import Derived.Test.YtfpofcfoeajkiaaGreatQR05
import Derived.Laws.Tables
/- A block's words: the document's walk. -/
namespace Go.Proofs.YtfpofcfoeajkiaaGreat
open Go.RowKit
set_option linter.unusedVariables false
theorem shlC (c : UInt8) (n : Nat) (m : Int) (h : n < 32) (hm : m = ((2 ^ n : Nat) : Int)) : (c.toNat : Int) % 4294967296 * m % 4294967296 = ((uL c.toUInt32 n).toNat : Int) := by
  rw [← shl8 c n h, hm, Int.natCast_pow]; rfl
theorem shlC' (c : UInt8) (n : Nat) (m : Int) (h : n < 32) (hm : m = ((2 ^ n : Nat) : Int)) : (c.toNat : Int) * m % 4294967296 = ((uL c.toUInt32 n).toNat : Int) := by
  have hc := c.toNat_lt
  rw [← shlC c n m h hm]
  have e : (c.toNat : Int) % 4294967296 = (c.toNat : Int) := by omega
  rw [e]
theorem shlD (c : UInt8) (n : Nat) (m : Int) (h : n ≤ 24) (hm : m = ((2 ^ n : Nat) : Int)) : (c.toNat : Int) * m = ((uL c.toUInt32 n).toNat : Int) := by
  have hc := c.toNat_lt
  rw [← shlC' c n m (by omega) hm]
  have h2 : 2 ^ n ≤ 2 ^ 24 := Nat.pow_le_pow_right (by decide) h
  have h3 : c.toNat * 2 ^ n ≤ 255 * 2 ^ 24 := Nat.mul_le_mul (by omega) h2
  rw [hm, ← Int.natCast_mul]
  omega
theorem orC (a : UInt32) (c : UInt8) : bits .or .u32 (a.toNat : Int) (c.toNat : Int) = ((uO a c.toUInt32).toNat : Int) := by
  rw [← wO]; simp
theorem orC' (a : UInt32) (c : UInt8) : bits .or .u32 (a.toNat : Int) ((c.toNat : Int) % 4294967296) = ((uO a c.toUInt32).toNat : Int) := by
  have hc := c.toNat_lt
  have e : (c.toNat : Int) % 4294967296 = (c.toNat : Int) := by omega
  rw [e, orC]
set_option maxRecDepth 20000 in
set_option maxHeartbeats 4000000 in
theorem words_any (b : List UInt8) (hb : b.length = 64) (w : World) :
    Calls Tryz.prog 75 #[.agg (bytesOf 64 fun i => b.getD i 0)] w fun e w' => e = .returned (.agg (cellsOf 64 (wAt b))) ∧ Below w.heap.size w w' := by
  obtain ⟨F, hF⟩ : ∃ F : Nat → UInt8, F = fun i => b.getD i 0 := ⟨_, rfl⟩
  rw [← hF]
  have HF := Lib.hid hF; clear hF
  obtain ⟨B, hB⟩ : ∃ B, B = bytesOf 64 F := ⟨_, rfl⟩
  rw [← hB]
  have HR0 := Lib.hid ((((row_new w 87 B).alloc (.cells (cellsOf 64 (fun _ => 0)) 117))).alloc (.cells (cellsOf 64 (fun _ => 0)) 117))
  have hR1 := (row_new (w.alloc (.cells B 87)) 117 (cellsOf 64 (fun _ => 0))).alloc (.cells (cellsOf 64 (fun _ => 0)) 117)
  have hR2 := row_new ((w.alloc (.cells B 87)).alloc (.cells (cellsOf 64 (fun _ => 0)) 117)) 117 (cellsOf 64 (fun _ => 0))
  simp only [World.size_alloc] at hR1 hR2
  have HR1 := Lib.hid hR1; clear hR1
  have HR2 := Lib.hid hR2; clear hR2
  have HB2 := Lib.hid ((((Below.refl w.heap.size w).alloc (Nat.le_refl _) (.cells B 87)).alloc (by simp) (.cells (cellsOf 64 (fun _ => 0)) 117)).alloc (by simp; omega) (.cells (cellsOf 64 (fun _ => 0)) 117))
  have HBB := Lib.hid hB; clear hB
  go_enter Tryz.func75, Tryz.ntmps75
  go_wp2_with fail
  rw [zero64]
  go_loopw [4] (fun i wr => ∃ k : Nat, k ≤ 16 ∧ i = .int .i64 k ∧ Hid (Row wr w.heap.size 87 (bytesOf 64 F)) ∧ Hid (Row wr (w.heap.size + 1) 117 (cellsOf 64 (fun _ => 0))) ∧ Hid (Row wr (w.heap.size + 1 + 1) 117 (cellsOf 64 (wUp b k))) ∧ Hid (Below w.heap.size w wr)) (fun i _ => 16 - (intOf i).toNat)
  case atStart => exact ⟨0, by omega, rfl, by rw [← HBB.out]; exact HR0.out, HR1.out, HR2.out, HB2.out⟩
  case round =>
    obtain ⟨k, hk, rfl, HA, HZ, HR, HW⟩ := hrel
    by_cases hlt : k < 16
    · have e0 := HA.out.cellB (j := 4 * k) (by omega)
      have e1 := HA.out.cellB (j := 4 * k + 1) (by omega)
      have e2 := HA.out.cellB (j := 4 * k + 2) (by omega)
      have e3 := HA.out.cellB (j := 4 * k + 3) (by omega)
      have ek := HR.out.cell (j := k) (by omega)
      have fk := HR.out.free k
      have HP : Hid (uO (uO (uO (uL (F (4 * k)).toUInt32 24) (uL (F (4 * k + 1)).toUInt32 16)) (uL (F (4 * k + 2)).toUInt32 8)) (F (4 * k + 3)).toUInt32 = wAt b k) := by
        unfold Hid; rw [wAt_lo b k hlt, HF.out]; rfl
      generalize F (4 * k) = c0 at *
      generalize F (4 * k + 1) = c1 at *
      generalize F (4 * k + 2) = c2 at *
      generalize F (4 * k + 3) = c3 at *
      generalize wUp b k k = z at *
      have hc0 := c0.toNat_lt
      have hc1 := c1.toNat_lt
      have hc2 := c2.toNat_lt
      have hc3 := c3.toNat_lt
      have s0 := shlC c0 24 16777216 (by decide) (by decide)
      have s1 := shlC c1 16 65536 (by decide) (by decide)
      have s2 := shlC c2 8 256 (by decide) (by decide)
      have s0'' := shlD c0 24 16777216 (by decide) (by decide)
      have s1'' := shlD c1 16 65536 (by decide) (by decide)
      have s2'' := shlD c2 8 256 (by decide) (by decide)
      have s0' := shlC' c0 24 16777216 (by decide) (by decide)
      have s1' := shlC' c1 16 65536 (by decide) (by decide)
      have s2' := shlC' c2 8 256 (by decide) (by decide)
      have o3 := fun a => orC a c3
      have o3' := fun a => orC' a c3
      have hO := wO
      have i0 : IntKind.i64.wrap (4 * (k : Int)) = 4 * (k : Int) := IntWalk.i64_in _ (by omega)
      have i1 : IntKind.i64.wrap (4 * (k : Int) + 1) = 4 * (k : Int) + 1 := IntWalk.i64_in _ (by omega)
      have i2 : IntKind.i64.wrap (4 * (k : Int) + 2) = 4 * (k : Int) + 2 := IntWalk.i64_in _ (by omega)
      have i3 : IntKind.i64.wrap (4 * (k : Int) + 3) = 4 * (k : Int) + 3 := IntWalk.i64_in _ (by omega)
      have t0 : (4 * (k : Int)).toNat = 4 * k := by omega
      have t1 : (4 * (k : Int) + 1).toNat = 4 * k + 1 := by omega
      have t2 : (4 * (k : Int) + 2).toNat = 4 * k + 2 := by omega
      have t3 : (4 * (k : Int) + 3).toNat = 4 * k + 3 := by omega
      have l0 : 4 * (k : Int) < 64 := by omega
      have l1 : 4 * (k : Int) + 1 < 64 := by omega
      have l2 : 4 * (k : Int) + 2 < 64 := by omega
      have l3 : 4 * (k : Int) + 3 < 64 := by omega
      have p0 : (0 : Int) ≤ 4 * (k : Int) := by omega
      have p1 : (0 : Int) ≤ 4 * (k : Int) + 1 := by omega
      have p2 : (0 : Int) ≤ 4 * (k : Int) + 2 := by omega
      have p3 : (0 : Int) ≤ 4 * (k : Int) + 3 := by omega
      have lk : (k : Int) < 64 := by omega
      go_wp2_with fail
      have e0' : wr.drew.cell? ⟨w.heap.size, 4 * k, none⟩ = some (.int .u8 c0.toNat) := e0
      have e1' : wr.drew.cell? ⟨w.heap.size, 4 * k + 1, none⟩ = some (.int .u8 c1.toNat) := e1
      have e2' : wr.drew.cell? ⟨w.heap.size, 4 * k + 2, none⟩ = some (.int .u8 c2.toNat) := e2
      have e3' : wr.drew.cell? ⟨w.heap.size, 4 * k + 3, none⟩ = some (.int .u8 c3.toNat) := e3
      have ek' : wr.drew.cell? ⟨w.heap.size + 1 + 1, k, none⟩ = some (.int .u32 z.toNat) := ek
      have fk' : wr.drew.frozen? ⟨w.heap.size + 1 + 1, k, none⟩ = false := fk
      have HAd : Hid (Row wr.drew w.heap.size 87 (bytesOf 64 F)) := HA.out
      have HZd : Hid (Row wr.drew (w.heap.size + 1) 117 (cellsOf 64 (fun _ => 0))) := HZ.out
      have HRd : Hid (Row wr.drew (w.heap.size + 1 + 1) 117 (cellsOf 64 (wUp b k))) := HR.out
      have HWd : Hid (Below w.heap.size w wr.drew) := HW.out.drew
      clear e0 e1 e2 e3 ek fk HA HZ HR HW
      refine wp_region_still_tail 31 (by kernel_rfl) (by kernel_rfl) ?_
      simp only [List.take_succ_cons, List.take_zero, List.drop_succ_cons, List.drop_zero]
      change wpStill _ _ wr.drew _ _ _
      obtain ⟨w3, hw3⟩ : ∃ w3, w3 = wr.drew := ⟨_, rfl⟩
      rw [← hw3] at e0' e1' e2' e3' ek' fk' HAd HZd HRd HWd ⊢
      have HW3 := Lib.hid hw3; clear hw3
      repeat still_step
      refine wpStill_nil ?_
      change wpList _ _ _ _ _ wr.drew
      rw [← HW3.out]
      go_wp2
      go_roundw
      case rel => exact ⟨k + 1, by omega, by go_num, HAd.out.other _ _ (by simp; omega), HZd.out.other _ _ (by simp), by have h := HRd.out.set (uO (uO (uO (uL c0.toUInt32 24) (uL c1.toUInt32 16)) (uL c2.toUInt32 8)) c3.toUInt32) (show k < 64 by omega); rw [wUp_next b k _ HP.out] at h; exact h, HWd.out.setCell (p := ⟨w.heap.size + 1 + 1, k, none⟩) (by simp; omega) _⟩
      case measure => simp [intOf]; omega
    · have HR16 : Hid (Row wr (w.heap.size + 1 + 1) 117 (cellsOf 64 (wUp b 16))) := by
        have h : k = 16 := by omega
        unfold Hid; subst h; exact HR.out
      clear HR HA
      go_wp2_with fail
      obtain ⟨w1, hw1⟩ : ∃ w1 : World, w1 = wr := ⟨_, rfl⟩
      rw [← hw1] at HW HR16 HZ ⊢
      clear hw1
      go_loopw [5] (fun i wr => ∃ k : Nat, 16 ≤ k ∧ k ≤ 64 ∧ i = .int .i64 k ∧ Hid (Row wr (w.heap.size + 1) 117 (cellsOf 64 (fun _ => 0))) ∧ Hid (Row wr (w.heap.size + 1 + 1) 117 (cellsOf 64 (wUp b k))) ∧ Hid (Below w.heap.size w wr)) (fun i _ => 64 - (intOf i).toNat)
      case atStart => exact ⟨16, by omega, by omega, rfl, HZ.out, HR16.out, HW.out⟩
      case round =>
        obtain ⟨k, hk16, hk, rfl, HZ, HR, HV⟩ := hrel
        by_cases hlt : k < 64
        · have HP : Hid (uA (uA (uA (wAt b (k - 16)) (sg0 (wAt b (k - 15)))) (wAt b (k - 7))) (sg1 (wAt b (k - 2))) = wAt b k) := (wAt_hi b k hk16).symm
          have e15 := HR.out.cell (j := k - 15) (by omega)
          have e2 := HR.out.cell (j := k - 2) (by omega)
          have e16 := HR.out.cell (j := k - 16) (by omega)
          have e7 := HR.out.cell (j := k - 7) (by omega)
          have ek := HR.out.cell (j := k) (by omega)
          have fk := HR.out.free k
          rw [wUp_at b k (k - 15) (by omega)] at e15
          rw [wUp_at b k (k - 2) (by omega)] at e2
          rw [wUp_at b k (k - 16) (by omega)] at e16
          rw [wUp_at b k (k - 7) (by omega)] at e7
          generalize wAt b (k - 15) = x at *
          generalize wAt b (k - 2) = y at *
          generalize wAt b (k - 16) = p at *
          generalize wAt b (k - 7) = q at *
          generalize wUp b k k = z at *
          have i15 : (k : Int) - 15 = ((k - 15 : Nat) : Int) := by omega
          have i2 : (k : Int) - 2 = ((k - 2 : Nat) : Int) := by omega
          have i16 : (k : Int) - 16 = ((k - 16 : Nat) : Int) := by omega
          have i7 : (k : Int) - 7 = ((k - 7 : Nat) : Int) := by omega
          have w16 : IntKind.i64.wrap ((k - 16 : Nat) : Int) = ((k - 16 : Nat) : Int) := IntWalk.i64_in _ (by omega)
          have w7 : IntKind.i64.wrap ((k - 7 : Nat) : Int) = ((k - 7 : Nat) : Int) := IntWalk.i64_in _ (by omega)
          have l15 : ((k - 15 : Nat) : Int) < 64 := by omega
          have l2 : ((k - 2 : Nat) : Int) < 64 := by omega
          have l16 : ((k - 16 : Nat) : Int) < 64 := by omega
          have l7 : ((k - 7 : Nat) : Int) < 64 := by omega
          have lk : (k : Int) < 64 := by omega
          have hX := wX
          have hA := wA
          have hA' := wA'
          have hR3 := wR3
          have hR10 := wR10
          go_wp2_with fail
          refine (rot7_any _ _).mono ?_
          rintro e w' ⟨rfl, rfl⟩
          go_wp2_with fail
          refine (rot18_any _ _).mono ?_
          rintro e w' ⟨rfl, rfl⟩
          go_wp2_with fail
          refine (rot17_any _ _).mono ?_
          rintro e w' ⟨rfl, rfl⟩
          go_wp2_with fail
          refine (rot19_any _ _).mono ?_
          rintro e w' ⟨rfl, rfl⟩
          go_wp2_with fail
          have e16' : wr.drew.cell? ⟨w.heap.size + 1 + 1, k - 16, none⟩ = some (.int .u32 p.toNat) := e16
          have e7' : wr.drew.cell? ⟨w.heap.size + 1 + 1, k - 7, none⟩ = some (.int .u32 q.toNat) := e7
          have ek' : wr.drew.cell? ⟨w.heap.size + 1 + 1, k, none⟩ = some (.int .u32 z.toNat) := ek
          have fk' : wr.drew.frozen? ⟨w.heap.size + 1 + 1, k, none⟩ = false := fk
          have HZd : Hid (Row wr.drew (w.heap.size + 1) 117 (cellsOf 64 (fun _ => 0))) := HZ.out
          have HRd : Hid (Row wr.drew (w.heap.size + 1 + 1) 117 (cellsOf 64 (wUp b k))) := HR.out
          have HVd : Hid (Below w.heap.size w wr.drew) := HV.out.drew
          clear e16 e7 e15 e2 ek fk HR HV HZ
          refine wp_region_still_tail 15 (by kernel_rfl) (by kernel_rfl) ?_
          simp only [List.take_succ_cons, List.take_zero, List.drop_succ_cons, List.drop_zero]
          change wpStill _ _ wr.drew _ _ _
          obtain ⟨w3, hw3⟩ : ∃ w3, w3 = wr.drew := ⟨_, rfl⟩
          rw [← hw3] at e16' e7' ek' fk' HZd HRd HVd ⊢
          have HW3 := Lib.hid hw3; clear hw3
          repeat still_step
          refine wpStill_nil ?_
          change wpList _ _ _ _ _ wr.drew
          rw [← HW3.out]
          go_wp2
          go_roundw
          case rel => exact ⟨k + 1, by omega, by omega, by go_num, HZd.out.other _ _ (by simp), by have h := HRd.out.set (uA (uA (uA p (sg0 x)) q) (sg1 y)) hlt; rw [wUp_next b k _ HP.out] at h; exact h, HVd.out.setCell (p := ⟨w.heap.size + 1 + 1, k, none⟩) (by simp; omega) _⟩
          case measure => simp [intOf]; omega
        · obtain rfl : k = 64 := by omega
          have HR64 : Hid (Row wr (w.heap.size + 1 + 1) 117 (cellsOf 64 (wAt b))) := by unfold Hid; rw [← wUp_done]; exact HR.out
          have HLd : Hid ((Tryz.prog.info? 117).map (·.size) = some (cellsOf 64 (wAt b)).size) := by unfold Hid; rw [cellsOf_size]; kernel_rfl
          have HO : Hid ((cellsOf 64 (wAt b)).all (·.oneCell') = true) := cellsOf_one _ _
          go_wp2_with (first | (refine wpList_load_row rfl _ _ rfl (w.heap.size + 1 + 1) rfl 117 (cellsOf 64 (wAt b)) (0, 0) _ HR64.out Tryz.underlying117 rfl HLd.out ?_) | (refine wpList_store_row rfl _ _ _ rfl (w.heap.size + 1) (cellsOf 64 (wAt b)) rfl rfl 117 _ HZ.out HLd.out rfl HO.out ?_))
          refine bodyPost_ret (v := .agg (cellsOf 64 (wAt b))) ?_ rfl ⟨rfl, ?_⟩
          · exact results_cell_row rfl _ _ (w.heap.size + 1) 117 _ (0, 0) _ rfl (setRow_heap _ _ _ _ _ _ HZ.out) Tryz.underlying117 rfl HLd.out
          · exact below_setRow HV.out (by omega) _
end Go.Proofs.YtfpofcfoeajkiaaGreat
/- The constants: walks. -/
namespace Go.Proofs.YtfpofcfoeajkiaaGreat
open Go.RowKit
set_option linter.unusedVariables false
theorem zero64c : (#[Value.int .u32 0, Value.int .u32 0, Value.int .u32 0, Value.int .u32 0, Value.int .u32 0, Value.int .u32 0, Value.int .u32 0, Value.int .u32 0, Value.int .u32 0, Value.int .u32 0, Value.int .u32 0, Value.int .u32 0, Value.int .u32 0, Value.int .u32 0, Value.int .u32 0, Value.int .u32 0, Value.int .u32 0, Value.int .u32 0, Value.int .u32 0, Value.int .u32 0, Value.int .u32 0, Value.int .u32 0, Value.int .u32 0, Value.int .u32 0, Value.int .u32 0, Value.int .u32 0, Value.int .u32 0, Value.int .u32 0, Value.int .u32 0, Value.int .u32 0, Value.int .u32 0, Value.int .u32 0, Value.int .u32 0, Value.int .u32 0, Value.int .u32 0, Value.int .u32 0, Value.int .u32 0, Value.int .u32 0, Value.int .u32 0, Value.int .u32 0, Value.int .u32 0, Value.int .u32 0, Value.int .u32 0, Value.int .u32 0, Value.int .u32 0, Value.int .u32 0, Value.int .u32 0, Value.int .u32 0, Value.int .u32 0, Value.int .u32 0, Value.int .u32 0, Value.int .u32 0, Value.int .u32 0, Value.int .u32 0, Value.int .u32 0, Value.int .u32 0, Value.int .u32 0, Value.int .u32 0, Value.int .u32 0, Value.int .u32 0, Value.int .u32 0, Value.int .u32 0, Value.int .u32 0, Value.int .u32 0] : Array Value) = cellsOf 64 (fun _ => 0) := by rfl
theorem cellsOf_one' (n : Nat) (f : Nat → UInt32) : (cellsOf n f).all (·.oneCell') = true := by
  rw [Array.all_eq_true]
  intro i hi
  simp only [cellsOf, List.getElem_toArray, List.getElem_map]
  rfl
theorem below_setRow' {B : Nat} {a w : World} (h : Below B a w) {g : Nat} (hg : B ≤ g) (cs : Array Value) : Below B a (w.setRow g cs) :=
  ⟨h.os, h.tape, h.output, by simpa [World.setRow] using h.size, fun i hi => (setRow_other w g i cs (by omega)).trans (h.block i hi)⟩
theorem lit8 : (#[Value.int .u32 1779033703, Value.int .u32 3144134277, Value.int .u32 1013904242, Value.int .u32 2773480762, Value.int .u32 1359893119, Value.int .u32 2600822924, Value.int .u32 528734635, Value.int .u32 1541459225] : Array Value) = cellsOf 8 (fun i => shaFirst.getD i 0) := by rfl
set_option maxRecDepth 20000 in
set_option maxHeartbeats 4000000 in
theorem first_any (w : World) : Calls Tryz.prog 96 #[] w fun e w' => e = .returned (.agg (cellsOf 8 (fun i => shaFirst.getD i 0))) ∧ Below w.heap.size w w' := by
  have hL : (Tryz.prog.info? 85).map (·.size) = some (cellsOf 8 (fun i => shaFirst.getD i 0)).size := by rw [cellsOf_size]; kernel_rfl
  have HL := Lib.hid hL; clear hL
  go_enter Tryz.func96, Tryz.ntmps96
  go_wp2_with fail
  rw [lit8]
  refine bodyPost_ret (v := .agg (cellsOf 8 (fun i => shaFirst.getD i 0))) ?_ rfl ⟨rfl, (Below.refl _ _).alloc (Nat.le_refl _) _⟩
  exact results_cell_row rfl _ _ w.heap.size 85 _ (0, 0) _ rfl (row_new _ _ _) Tryz.underlying85 rfl HL.out
set_option maxRecDepth 20000 in
set_option maxHeartbeats 4000000 in
theorem refFirst_any (w : World) : Calls Tryz.prog 46 #[] w fun e w' => e = .returned (.agg (cellsOf 8 (fun i => shaFirst.getD i 0))) ∧ Below w.heap.size w w' := by
  have hL : (Tryz.prog.info? 85).map (·.size) = some (cellsOf 8 (fun i => shaFirst.getD i 0)).size := by rw [cellsOf_size]; kernel_rfl
  have HL := Lib.hid hL; clear hL
  go_enter Tryz.func46, Tryz.ntmps46
  go_wp2_with fail
  rw [lit8]
  refine bodyPost_ret (v := .agg (cellsOf 8 (fun i => shaFirst.getD i 0))) ?_ rfl ⟨rfl, (Below.refl _ _).alloc (Nat.le_refl _) _⟩
  exact results_cell_row rfl _ _ w.heap.size 85 _ (0, 0) _ rfl (row_new _ _ _) Tryz.underlying85 rfl HL.out
theorem wpList_build_to {P : Program} {ops : Array Oper} {rest : List Oper} {o : Oper} {a : Act} {w : World} {Q : Exit → Act → World → Prop} (hg : o.guard = none) (t : TypeId) (parts : Array (Nat × Operand)) (ho : o.op = .build t parts)
    (cs : Array Value) (hf : P.built t (parts.map fun (i, x) => (i, a.eval x)).toList = some cs)
    (h : wpList P ops Q rest (a.put o.dst (.agg cs)) w) : wpList P ops Q (o :: rest) a w :=
  wpList_build hg t parts ho (by rw [hf]; rfl) (by rw [hf]; exact h)
set_option maxRecDepth 20000 in
set_option maxHeartbeats 4000000 in
theorem constants_any (w : World) : Calls Tryz.prog 116 #[] w fun e w' => e = .returned (.agg (cellsOf 64 shaK)) ∧ Below w.heap.size w w' := by
  have hL : (Tryz.prog.info? 117).map (·.size) = some (cellsOf 64 shaK).size := by rw [cellsOf_size]; kernel_rfl
  have HL := Lib.hid hL; clear hL
  have HR := Lib.hid (row_new w 117 (cellsOf 64 (fun _ => 0)))
  have HO : Hid ((cellsOf 64 shaK).all (·.oneCell') = true) := cellsOf_one' _ _
  go_enter Tryz.func116, Tryz.ntmps116
  go_wp2_with (first | (rw [zero64c]; refine wpList_build_to rfl _ _ rfl (cellsOf 64 shaK) (by kernel_rfl) ?_) | (refine wpList_store_row rfl _ _ _ rfl w.heap.size (cellsOf 64 shaK) rfl rfl 117 _ HR.out HL.out rfl HO.out ?_))
  refine bodyPost_ret (v := .agg (cellsOf 64 shaK)) ?_ rfl ⟨rfl, ?_⟩
  · exact results_cell_row rfl _ _ w.heap.size 117 _ (0, 0) _ rfl (setRow_heap _ _ _ _ _ _ HR.out) Tryz.underlying117 rfl HL.out
  · exact below_setRow' ((Below.refl _ _).alloc (Nat.le_refl _) _) (Nat.le_refl _) _
set_option maxRecDepth 20000 in
set_option maxHeartbeats 4000000 in
theorem refConstants_any (w : World) : Calls Tryz.prog 76 #[] w fun e w' => e = .returned (.agg (cellsOf 64 shaK)) ∧ Below w.heap.size w w' := by
  have hL : (Tryz.prog.info? 117).map (·.size) = some (cellsOf 64 shaK).size := by rw [cellsOf_size]; kernel_rfl
  have HL := Lib.hid hL; clear hL
  have HR := Lib.hid (row_new w 117 (cellsOf 64 (fun _ => 0)))
  have HO : Hid ((cellsOf 64 shaK).all (·.oneCell') = true) := cellsOf_one' _ _
  go_enter Tryz.func76, Tryz.ntmps76
  go_wp2_with (first | (rw [zero64c]; refine wpList_build_to rfl _ _ rfl (cellsOf 64 shaK) (by kernel_rfl) ?_) | (refine wpList_store_row rfl _ _ _ rfl w.heap.size (cellsOf 64 shaK) rfl rfl 117 _ HR.out HL.out rfl HO.out ?_))
  refine bodyPost_ret (v := .agg (cellsOf 64 shaK)) ?_ rfl ⟨rfl, ?_⟩
  · exact results_cell_row rfl _ _ w.heap.size 117 _ (0, 0) _ rfl (setRow_heap _ _ _ _ _ _ HR.out) Tryz.underlying117 rfl HL.out
  · exact below_setRow' ((Below.refl _ _).alloc (Nat.le_refl _) _) (Nat.le_refl _) _
end Go.Proofs.YtfpofcfoeajkiaaGreat
/- A block: the program's walk. -/
namespace Go.Proofs.YtfpofcfoeajkiaaGreat
open Go.RowKit
set_option linter.unusedVariables false
theorem index_words (B : Array Value) (k : Nat) (v : Value) (h : k < 64) (hg : B[k]? = some v) (W : World) : (Instr.index 117 (.agg B) (.int .i64 (k : Int))).run Tryz.prog W = .ok v W := by
  simp [Instr.index, run_underlying Tryz.underlying117, go_sem, h, hg]
theorem index_eight (B : Array Value) (k : Nat) (v : Value) (h : k < 8) (hg : B[k]? = some v) (W : World) : (Instr.index 84 (.agg B) (.int .i64 (k : Int))).run Tryz.prog W = .ok v W := by
  simp [Instr.index, run_underlying Tryz.underlying84, go_sem, h, hg]
theorem zero8 : (#[Value.int .u32 0, Value.int .u32 0, Value.int .u32 0, Value.int .u32 0, Value.int .u32 0, Value.int .u32 0, Value.int .u32 0, Value.int .u32 0] : Array Value) = cellsOf 8 (fun _ => 0) := by rfl
theorem eight (v : V8) : (#[Value.int .u32 v.a.toNat, Value.int .u32 v.b.toNat, Value.int .u32 v.c.toNat, Value.int .u32 v.d.toNat, Value.int .u32 v.e.toNat, Value.int .u32 v.f.toNat, Value.int .u32 v.g.toNat, Value.int .u32 v.h.toNat] : Array Value) = cellsOf 8 (getV v) := by rfl
def bUp (f : Nat → UInt32) (b : List UInt8) (k i : Nat) : UInt32 := if i < k then blockF f b i else f i
theorem bUp_zero (f : Nat → UInt32) (b : List UInt8) : cellsOf 8 (bUp f b 0) = cellsOf 8 f := cellsOf_congr fun j _ => by unfold bUp; rw [if_neg (by omega)]
theorem bUp_done (f : Nat → UInt32) (b : List UInt8) : cellsOf 8 (bUp f b 8) = cellsOf 8 (blockF f b) := cellsOf_congr fun j hj => by unfold bUp; rw [if_pos hj]
theorem bUp_next (f : Nat → UInt32) (b : List UInt8) (k : Nat) (v : UInt32) (h : v = blockF f b k) : cellsOf 8 (upd (bUp f b k) k v) = cellsOf 8 (bUp f b (k + 1)) := by
  apply cellsOf_congr
  intro j hj
  unfold upd bUp
  by_cases h1 : j = k
  · subst h1; rw [if_pos rfl, if_pos (by omega), h]
  · rw [if_neg h1]
    by_cases h2 : j < k
    · rw [if_pos h2, if_pos (by omega)]
    · rw [if_neg h2, if_neg (by omega)]
theorem bUp_at (f : Nat → UInt32) (b : List UInt8) (k : Nat) : bUp f b k k = f k := by unfold bUp; rw [if_neg (by omega)]
/-- a round's slots -/
def Slots (v : V8) (a b c d e f g h : Value) : Prop := a = .int .u32 v.a.toNat ∧ b = .int .u32 v.b.toNat ∧ c = .int .u32 v.c.toNat ∧ d = .int .u32 v.d.toNat ∧ e = .int .u32 v.e.toNat ∧ f = .int .u32 v.f.toNat ∧ g = .int .u32 v.g.toNat ∧ h = .int .u32 v.h.toNat
def word (x : UInt32) : Value := .int .u32 x.toNat
theorem step_a (a b c d e f g h k w : UInt32) : uA (uA (uA (uA (uA h (uX (uX (rotr e 6) (rotr e 11)) (rotr e 25))) (uX g (uN e (uX f g)))) k) w) (uA (uX (uX (rotr a 2) (rotr a 13)) (rotr a 22)) (uO (uN a b) (uN c (uO a b)))) = (step8 ⟨a, b, c, d, e, f, g, h⟩ k w).a := by
  rw [bit_ch, bit_maj, ← uA_assoc]; rfl
theorem step_e (a b c d e f g h k w : UInt32) : uA d (uA (uA (uA (uA h (uX (uX (rotr e 6) (rotr e 11)) (rotr e 25))) (uX g (uN e (uX f g)))) k) w) = (step8 ⟨a, b, c, d, e, f, g, h⟩ k w).e := by
  rw [bit_ch]; rfl
set_option maxRecDepth 20000 in
set_option maxHeartbeats 8000000 in
theorem block_any (f : Nat → UInt32) (b : List UInt8) (hb : b.length = 64) (w : World) :
    Calls Tryz.prog 115 #[.agg (cellsOf 8 f), .agg (bytesOf 64 fun i => b.getD i 0)] w fun e w' => e = .returned (.agg (cellsOf 8 (blockF f b))) ∧ Below w.heap.size w w' := by
  obtain ⟨G, hG⟩ : ∃ G, G = blockF f b := ⟨_, rfl⟩
  rw [← hG]
  have HG := Lib.hid hG; clear hG
  have hs := fun w => schedule_any b hb w
  obtain ⟨B, hB⟩ : ∃ B, B = bytesOf 64 (fun i => b.getD i 0) := ⟨_, rfl⟩
  rw [← hB]
  have hBs : B.size = 64 := by rw [hB, bytesOf_size]
  rw [← hB] at hs
  have HS := Lib.hid hs; clear hs hB
  have hLB : (Tryz.prog.info? 87).map (·.size) = some B.size := by rw [hBs]; kernel_rfl
  have HLB := Lib.hid hLB; clear hLB hBs
  have h8 : ∀ g, (Tryz.prog.info? 85).map (·.size) = some (cellsOf 8 g).size := by intro g; rw [cellsOf_size]; kernel_rfl
  have H8 := Lib.hid h8; clear h8
  have h64 : ∀ g, (Tryz.prog.info? 117).map (·.size) = some (cellsOf 64 g).size := by intro g; rw [cellsOf_size]; kernel_rfl
  have H64 := Lib.hid h64; clear h64
  obtain ⟨A, hA⟩ : ∃ A, A = cellsOf 8 f := ⟨_, rfl⟩
  rw [← hA]
  have hR0 := ((row_new w 85 A).alloc (.cells B 87)).alloc (.cells (cellsOf 8 (fun _ => 0)) 85)
  have hR1 := (row_new (w.alloc (.cells A 85)) 87 B).alloc (.cells (cellsOf 8 (fun _ => 0)) 85)
  have hR2 := row_new ((w.alloc (.cells A 85)).alloc (.cells B 87)) 85 (cellsOf 8 (fun _ => 0))
  simp only [World.size_alloc] at hR1 hR2
  have HR0 := Lib.hid hR0; clear hR0
  have HR1 := Lib.hid hR1; clear hR1
  have HR2 := Lib.hid hR2; clear hR2
  have HB0 := Lib.hid ((((Below.refl w.heap.size w).alloc (Nat.le_refl _) (.cells A 85)).alloc (by simp) (.cells B 87)).alloc (by simp; omega) (.cells (cellsOf 8 (fun _ => 0)) 85))
  have HAA := Lib.hid hA; clear hA
  go_enter Tryz.func115, Tryz.ntmps115
  go_wp2_with fail
  rw [zero8]
  obtain ⟨w0, hw0⟩ : ∃ w0, w0 = (((w.alloc (.cells A 85)).alloc (.cells B 87)).alloc (.cells (cellsOf 8 (fun _ => 0)) 85)) := ⟨_, rfl⟩
  have hz0 : w0.heap.size = w.heap.size + 3 := by rw [hw0]; simp
  rw [← hw0] at HR0 HR1 HR2 HB0 ⊢
  clear hw0
  have HZ0 := Lib.hid hz0
  refine (constants_any _).mono ?_
  rintro e w1 ⟨rfl, b1⟩
  have hz1 : w.heap.size + 3 ≤ w1.heap.size := by have := b1.size; omega
  have HR0 := Lib.hid (HR0.out.below b1 (by omega))
  have HR1 := Lib.hid (HR1.out.below b1 (by omega))
  have HR2 := Lib.hid (HR2.out.below b1 (by omega))
  have HB1 := Lib.hid (HB0.out.trans (b1.mono (by omega)))
  clear b1 hz0
  have HN := Lib.hid (row_new w1 117 (cellsOf 64 (fun _ => 0)))
  have HO : Hid ((cellsOf 64 shaK).all (·.oneCell') = true) := cellsOf_one _ _
  go_wp2_with (rw [zero64]; refine wpList_store_row rfl _ _ _ rfl w1.heap.size (cellsOf 64 shaK) rfl rfl 117 _ HN.out (H64.out _) rfl HO.out ?_)
  have hK := setRow_heap _ _ _ (cellsOf 64 shaK) _ _ HN.out
  have hR0 : Row ((w1.alloc (.cells (cellsOf 64 (fun _ => 0)) 117)).setRow w1.heap.size (cellsOf 64 shaK)) w.heap.size 85 A := (setRow_other _ _ _ _ (by omega)).trans (HR0.out.alloc _)
  have hR1 : Row ((w1.alloc (.cells (cellsOf 64 (fun _ => 0)) 117)).setRow w1.heap.size (cellsOf 64 shaK)) (w.heap.size + 1) 87 B := (setRow_other _ _ _ _ (by omega)).trans (HR1.out.alloc _)
  have hR2 : Row ((w1.alloc (.cells (cellsOf 64 (fun _ => 0)) 117)).setRow w1.heap.size (cellsOf 64 shaK)) (w.heap.size + 1 + 1) 85 (cellsOf 8 (fun _ => 0)) := (setRow_other _ _ _ _ (by omega)).trans (HR2.out.alloc _)
  have hB2 : Below w.heap.size w ((w1.alloc (.cells (cellsOf 64 (fun _ => 0)) 117)).setRow w1.heap.size (cellsOf 64 shaK)) := below_setRow (HB1.out.alloc (by omega) _) (by omega) _
  have hsz2 : w1.heap.size < ((w1.alloc (.cells (cellsOf 64 (fun _ => 0)) 117)).setRow w1.heap.size (cellsOf 64 shaK)).heap.size := (show Row _ _ _ _ from hK).lt
  obtain ⟨w2, hw2⟩ : ∃ w2, w2 = ((w1.alloc (.cells (cellsOf 64 (fun _ => 0)) 117)).setRow w1.heap.size (cellsOf 64 shaK)) := ⟨_, rfl⟩
  rw [← hw2] at hK hR0 hR1 hR2 hB2 hsz2 ⊢
  clear hw2 HR0 HR1 HR2 HB1 HN HZ0 HB0 HO
  have hR0 : Row w2 w.heap.size 85 (cellsOf 8 f) := by rw [← HAA.out]; exact hR0
  have e0 := hR0.cell (j := 0) (by decide)
  have e1 := hR0.cell (j := 1) (by decide)
  have e2 := hR0.cell (j := 2) (by decide)
  have e3 := hR0.cell (j := 3) (by decide)
  have e4 := hR0.cell (j := 4) (by decide)
  have e5 := hR0.cell (j := 5) (by decide)
  have e6 := hR0.cell (j := 6) (by decide)
  have e7 := hR0.cell (j := 7) (by decide)
  have HK : Hid (Row w2 w1.heap.size 117 (cellsOf 64 shaK)) := hK
  have HR0 := Lib.hid hR0
  have HR1 := Lib.hid hR1
  have HR2 := Lib.hid hR2
  have HB2 := Lib.hid hB2
  clear hR0 hR1 hR2 hB2 hK
  go_quiet (fail)
  clear e0 e1 e2 e3 e4 e5 e6 e7
  have HR0 : Hid (Row (w2.drewN nq) w.heap.size 85 (cellsOf 8 f)) := HR0.out
  have HR1 : Hid (Row (w2.drewN nq) (w.heap.size + 1) 87 B) := HR1.out
  have HR2 : Hid (Row (w2.drewN nq) (w.heap.size + 1 + 1) 85 (cellsOf 8 (fun _ => 0))) := HR2.out
  have HK : Hid (Row (w2.drewN nq) w1.heap.size 117 (cellsOf 64 shaK)) := HK.out
  have HB2 : Hid (Below w.heap.size w (w2.drewN nq)) := Below.drewN HB2.out nq
  have hsz2 : w1.heap.size < (w2.drewN nq).heap.size := hsz2
  obtain ⟨w3, hw3⟩ : ∃ w3, w3 = w2.drewN nq := ⟨_, rfl⟩
  rw [← hw3] at HR0 HR1 HR2 HK HB2 hsz2 ⊢
  clear hw3
  go_wp2_with (refine wpList_load_row rfl _ _ rfl (w.heap.size + 1) rfl 87 B (0, 0) _ HR1.out Tryz.underlying87 rfl HLB.out ?_)
  refine (HS.out _).mono ?_
  rintro e w4 ⟨rfl, b4⟩
  have HR0 := Lib.hid (HR0.out.below b4 (by omega))
  have HR2 := Lib.hid (HR2.out.below b4 (by omega))
  have HK := Lib.hid (HK.out.below b4 hsz2)
  have HB4 := Lib.hid (HB2.out.trans (b4.mono (by omega)))
  have hm1 : w.heap.size + 3 ≤ w1.heap.size := hz1
  clear b4 hsz2
  generalize w1.heap.size = m at *
  clear HR1 HB2
  go_wp2_with fail
  have hv0 : Slots (ofF f) (.int .u32 (f 0).toNat) (.int .u32 (f 1).toNat) (.int .u32 (f 2).toNat) (.int .u32 (f 3).toNat) (.int .u32 (f 4).toNat) (.int .u32 (f 5).toNat) (.int .u32 (f 6).toNat) (.int .u32 (f 7).toNat) := ⟨rfl, rfl, rfl, rfl, rfl, rfl, rfl, rfl⟩
  go_loopw [6, 7, 8, 9, 10, 11, 12, 13, 39] (fun a1 a2 a3 a4 a5 a6 a7 a8 i wr => ∃ k : Nat, k ≤ 64 ∧ i = .int .i64 k ∧ Slots (rounds8 (ofF f) b k) a1 a2 a3 a4 a5 a6 a7 a8 ∧ Hid (∃ n, wr = w4.drewN n)) (fun _ _ _ _ _ _ _ _ i _ => 64 - (intOf i).toNat)
  case atStart => exact ⟨0, by omega, rfl, hv0, ⟨0, rfl⟩⟩
  case round =>
    obtain ⟨k, hk, rfl, ⟨rfl, rfl, rfl, rfl, rfl, rfl, rfl, rfl⟩, HW⟩ := hrel
    by_cases hlt : k < 64
    · have HNx : Hid (rounds8 (ofF f) b (k + 1) = step8 (rounds8 (ofF f) b k) (shaK k) (wAt b k)) := rfl
      have ek : wr.cell? ⟨m, k, none⟩ = some (.int .u32 (shaK k).toNat) := by obtain ⟨n, rfl⟩ := HW.out; exact HK.out.cell hlt
      have hix := fun W => index_words (cellsOf 64 (wAt b)) k _ hlt (cellsOf_get (wAt b) hlt) W
      generalize cellsOf 64 (wAt b) = D at *
      generalize rounds8 (ofF f) b k = v at *
      generalize shaK k = kk at *
      generalize wAt b k = ww at *
      obtain ⟨a, bb, c, d, e, ff, g, h⟩ := v
      have hX := wX
      have hA := wA
      have hA' := wA'
      have hN := wN
      have hO := wO
      have lk : (k : Int) < 64 := by omega
      dsimp only at *
      go_wp2_with fail
      refine wp_region_quiet_lit (by kernel_rfl) (by kernel_rfl) ?_
      repeat (go_big_quiet_step (fail))
      go_big_quiet_step (exact quiet_same (down6_any _ _))
      repeat (go_big_quiet_step (fail))
      go_big_quiet_step (exact quiet_same (down11_any _ _))
      repeat (go_big_quiet_step (fail))
      go_big_quiet_step (exact quiet_same (down25_any _ _))
      repeat (go_big_quiet_step (fail))
      refine wpQuiet_nil ?_
      intro _ hw'
      obtain ⟨nq, hw''⟩ := hw'
      subst hw''
      go_wp2_with fail
      refine (down2_any _ _).mono ?_
      rintro e w' ⟨rfl, rfl⟩
      go_wp2_with fail
      refine (down13_any _ _).mono ?_
      rintro e w' ⟨rfl, rfl⟩
      go_wp2_with fail
      refine (down22_any _ _).mono ?_
      rintro e w' ⟨rfl, rfl⟩
      go_wp2
      go_roundw
      case rel => exact ⟨k + 1, by omega, by go_num, by rw [HNx.out]; exact ⟨congrArg word (step_a a bb c d e ff g h kk ww), rfl, rfl, rfl, congrArg word (step_e a bb c d e ff g h kk ww), rfl, rfl, rfl⟩, by obtain ⟨n, rfl⟩ := HW.out; exact ⟨_, World.drewN_drewN _ _ _⟩⟩
      case measure => simp [intOf]; omega
    · have hk64 : k = 64 := by omega
      have HV : Hid (rounds8 (ofF f) b k = rounds8 (ofF f) b 64) := by unfold Hid; rw [hk64]
      have HR0 : Hid (Row wr w.heap.size 85 (cellsOf 8 (bUp f b 0))) := by unfold Hid; rw [bUp_zero]; obtain ⟨n, rfl⟩ := HW.out; exact HR0.out
      have HR2 : Hid (Row wr (w.heap.size + 1 + 1) 85 (cellsOf 8 (fun _ => 0))) := by obtain ⟨n, rfl⟩ := HW.out; exact HR2.out
      have HB5 : Hid (Below w.heap.size w wr) := by obtain ⟨n, rfl⟩ := HW.out; exact Below.drewN HB4.out n
      have HBF : Hid (∀ i, uA (f i) (getV (rounds8 (ofF f) b k) i) = blockF f b i) := fun i => by rw [HV.out]; rfl
      clear HW hk64
      generalize rounds8 (ofF f) b k = v at *
      go_wp2_with fail
      rw [eight v]
      obtain ⟨w5, hw5⟩ : ∃ w5 : World, w5 = wr := ⟨_, rfl⟩
      rw [← hw5] at HR0 HR2 HB5 ⊢
      clear hw5
      obtain ⟨D, hD⟩ : ∃ D, D = cellsOf 8 (getV v) := ⟨_, rfl⟩
      rw [← hD]
      have HD := Lib.hid hD; clear hD
      go_loopw [107] (fun i wr => ∃ k : Nat, k ≤ 8 ∧ i = .int .i64 k ∧ Hid (Row wr w.heap.size 85 (cellsOf 8 (bUp f b k))) ∧ Hid (Row wr (w.heap.size + 1 + 1) 85 (cellsOf 8 (fun _ => 0))) ∧ Hid (Below w.heap.size w wr)) (fun i _ => 8 - (intOf i).toNat)
      case atStart => exact ⟨0, by omega, rfl, HR0.out, HR2.out, HB5.out⟩
      case round =>
        obtain ⟨k, hk, rfl, HR0, HR2, HB5⟩ := hrel
        by_cases hlt : k < 8
        · have ek := HR0.out.cell (j := k) hlt
          have fk := HR0.out.free k
          rw [bUp_at] at ek
          have hgB : D[k]? = some (.int .u32 (getV v k).toNat) := by rw [HD.out]; exact cellsOf_get _ hlt
          have hix := fun W => index_eight D k _ hlt hgB W
          clear hgB
          have HF := Lib.hid (HBF.out k)
          generalize f k = x at *
          generalize getV v k = y at *
          have hA := wA
          have hA' := wA'
          have lk : (k : Int) < 8 := by omega
          go_wp2
          go_roundw
          case rel => exact ⟨k + 1, by omega, by go_num, by have h := HR0.out.set (uA x y) hlt; rw [bUp_next f b k _ HF.out] at h; exact h, HR2.out.other _ _ (by simp; omega), HB5.out.setCell (p := ⟨w.heap.size, k, none⟩) (by simp) _⟩
          case measure => simp [intOf]; omega
        · have hk8 : k = 8 := by omega
          have HR8 : Hid (Row wr w.heap.size 85 (cellsOf 8 G)) := by unfold Hid; rw [HG.out, ← bUp_done]; rw [hk8] at HR0; exact HR0.out
          clear hk8
          have HO : Hid ((cellsOf 8 G).all (·.oneCell') = true) := cellsOf_one _ _
          have HE : Hid ((cellsOf 8 (fun _ => 0)).size = (cellsOf 8 G).size) := by unfold Hid; rw [cellsOf_size, cellsOf_size]
          clear HBF HD HK HV
          go_wp2_with (first | (refine wpList_load_row rfl _ _ rfl w.heap.size rfl 85 (cellsOf 8 G) (0, 0) _ HR8.out Tryz.underlying85 rfl (H8.out _) ?_) | (refine wpList_store_row rfl _ _ _ rfl (w.heap.size + 1 + 1) (cellsOf 8 G) rfl rfl 85 _ HR2.out (H8.out _) HE.out HO.out ?_))
          refine bodyPost_ret (v := .agg (cellsOf 8 G)) ?_ rfl ⟨rfl, ?_⟩
          · exact results_cell_row rfl _ _ (w.heap.size + 1 + 1) 85 _ (0, 0) _ rfl (setRow_heap _ _ _ _ _ _ HR2.out) Tryz.underlying85 rfl (H8.out _)
          · exact below_setRow HB5.out (by omega) _
end Go.Proofs.YtfpofcfoeajkiaaGreat
