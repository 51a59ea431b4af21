/- A block: the document's walk. -/
import Derived.Test.YtkbpkodakfknoaaShaBlock
namespace Go.Proofs.Ytkbpkodakfknoaa
open Go.RowKit
set_option linter.unusedVariables false
theorem quiet_more {P : Program} {f : FuncId} {args : Array Value} {w : World} {a n : Nat} {v : Value}
    (h : Calls P f args (w.drewN (a + n)) fun e w' => e = .returned v ∧ w.drewN (a + n) = w') : Calls P f args (w.drewN (a + n)) fun e w'' => e = .returned v ∧ ∃ m, w'' = w.drewN (a + m) :=
  h.mono fun _ _ ⟨h1, h2⟩ => ⟨h1, n, h2.symm⟩
theorem wM (a : UInt32) : (a.toNat : Int) % 4294967296 = (a.toNat : Int) := by have := a.toNat_lt; omega
theorem Row.eight {w : World} {b m : Nat} {t : TypeId} {cs : Array Value} (h : Row w b t cs) (hne : b ≠ m) (v7 v6 v5 v4 v3 v2 v1 v0 : Value) :
    Row ((((((((w.setCell ⟨m, 7, none⟩ v7).setCell ⟨m, 6, none⟩ v6).setCell ⟨m, 5, none⟩ v5).setCell ⟨m, 4, none⟩ v4).setCell ⟨m, 3, none⟩ v3).setCell ⟨m, 2, none⟩ v2).setCell ⟨m, 1, none⟩ v1).setCell ⟨m, 0, none⟩ v0) b t cs := (((((((h.other _ _ hne).other _ _ hne).other _ _ hne).other _ _ hne).other _ _ hne).other _ _ hne).other _ _ hne).other _ _ hne
theorem below_eight {B m : Nat} {a w : World} (h : Below B a w) (hm : B ≤ m) (v7 v6 v5 v4 v3 v2 v1 v0 : Value) :
    Below B a ((((((((w.setCell ⟨m, 7, none⟩ v7).setCell ⟨m, 6, none⟩ v6).setCell ⟨m, 5, none⟩ v5).setCell ⟨m, 4, none⟩ v4).setCell ⟨m, 3, none⟩ v3).setCell ⟨m, 2, none⟩ v2).setCell ⟨m, 1, none⟩ v1).setCell ⟨m, 0, none⟩ v0) := (((((((h.setCell (p := ⟨m, 7, none⟩) hm _).setCell (p := ⟨m, 6, none⟩) hm _).setCell (p := ⟨m, 5, none⟩) hm _).setCell (p := ⟨m, 4, none⟩) hm _).setCell (p := ⟨m, 3, none⟩) hm _).setCell (p := ⟨m, 2, none⟩) hm _).setCell (p := ⟨m, 1, none⟩) hm _).setCell (p := ⟨m, 0, none⟩) hm _
theorem stores8 (v : V8) (k w : UInt32) : cellsOf 8 (upd (upd (upd (upd (upd (upd (upd (upd (getV v) 7 v.g) 6 v.f) 5 v.e) 4 (uA v.d (tOf v k w))) 3 v.c) 2 v.b) 1 v.a) 0 (uA (uA (tOf v k w) (big0 v.a)) (maj v.a v.b v.c))) = cellsOf 8 (getV (step8 v k w)) := by
  apply cellsOf_congr
  intro j hj
  have : j = 0 ∨ j = 1 ∨ j = 2 ∨ j = 3 ∨ j = 4 ∨ j = 5 ∨ j = 6 ∨ j = 7 := by omega
  rcases this with rfl | rfl | rfl | rfl | rfl | rfl | rfl | rfl <;> rfl
set_option maxRecDepth 20000 in
set_option maxHeartbeats 8000000 in
theorem refBlock_any (f : Nat → UInt32) (b : List UInt8) (hb : b.length = 64) (w : World) :
    Calls Try.prog 35 #[.agg (cellsOf 8 f), .agg (bytesOf 64 fun i => b.getD i 0)] w fun e w' => e = .returned (.agg (cellsOf 8 (blockF f b))) ∧ Below w.heap.size w w' := by
  obtain ⟨G, hG⟩ : ∃ G, G = blockF f b := ⟨_, rfl⟩
  rw [← hG]
  have HG := Lib.hid hG; clear hG
  have hs := fun w => words_any b hb w
  obtain ⟨B, hB⟩ : ∃ B, B = bytesOf 64 (fun i => b.getD i 0) := ⟨_, rfl⟩
  rw [← hB]
  have hBs : B.size = 64 := by rw [hB, bytesOf_size]
  rw [← hB] at hs
  have HS := Lib.hid hs; clear hs hB
  have hLB : (Try.prog.info? 77).map (·.size) = some B.size := by rw [hBs]; kernel_rfl
  have HLB := Lib.hid hLB; clear hLB hBs
  have h8 : ∀ g, (Try.prog.info? 75).map (·.size) = some (cellsOf 8 g).size := by intro g; rw [cellsOf_size]; kernel_rfl
  have H8 := Lib.hid h8; clear h8
  have h64 : ∀ g, (Try.prog.info? 88).map (·.size) = some (cellsOf 64 g).size := by intro g; rw [cellsOf_size]; kernel_rfl
  have H64 := Lib.hid h64; clear h64
  have HE : Hid (∀ g g', (cellsOf 8 g).size = (cellsOf 8 g').size) := by intro g g'; rw [cellsOf_size, cellsOf_size]
  have HE64 : Hid (∀ g g', (cellsOf 64 g).size = (cellsOf 64 g').size) := by intro g g'; rw [cellsOf_size, cellsOf_size]
  have HO8 : Hid (∀ g, (cellsOf 8 g).all (·.oneCell') = true) := fun g => cellsOf_one _ _
  have HO64 : Hid (∀ g, (cellsOf 64 g).all (·.oneCell') = true) := fun g => cellsOf_one _ _
  obtain ⟨A, hA⟩ : ∃ A, A = cellsOf 8 f := ⟨_, rfl⟩
  rw [← hA]
  have hR0 := ((row_new w 75 A).alloc (.cells B 77)).alloc (.cells (cellsOf 8 (fun _ => 0)) 75)
  have hR1 := (row_new (w.alloc (.cells A 75)) 77 B).alloc (.cells (cellsOf 8 (fun _ => 0)) 75)
  have hR2 := row_new ((w.alloc (.cells A 75)).alloc (.cells B 77)) 75 (cellsOf 8 (fun _ => 0))
  simp only [World.size_alloc] at hR1 hR2
  have HR0 := Lib.hid hR0; clear hR0
  have HR1 := Lib.hid hR1; clear hR1
  have HR2 := Lib.hid hR2; clear hR2
  have HB0 := Lib.hid ((((Below.refl w.heap.size w).alloc (Nat.le_refl _) (.cells A 75)).alloc (by simp) (.cells B 77)).alloc (by simp; omega) (.cells (cellsOf 8 (fun _ => 0)) 75))
  have HAA := Lib.hid hA; clear hA
  go_enter Try.func35, Try.ntmps35
  go_wp2_with (rw [zero8]; refine wpList_load_row rfl _ _ rfl (w.heap.size + 1) rfl 77 B (0, 0) _ HR1.out Try.underlying77 rfl HLB.out ?_)
  obtain ⟨w0, hw0⟩ : ∃ w0, w0 = (((w.alloc (.cells A 75)).alloc (.cells B 77)).alloc (.cells (cellsOf 8 (fun _ => 0)) 75)) := ⟨_, rfl⟩
  have hz0 : w0.heap.size = w.heap.size + 3 := by rw [hw0]; simp
  rw [← hw0] at HR0 HR2 HB0 ⊢
  clear hw0 HR1
  refine (HS.out _).mono ?_
  rintro e w1 ⟨rfl, b1⟩
  have hz1 : w.heap.size + 3 ≤ w1.heap.size := by have := b1.size; omega
  have HR0 := Lib.hid (HR0.out.below b1 (by omega))
  have HR2 := Lib.hid (HR2.out.below b1 (by omega))
  have HB1 := Lib.hid (HB0.out.trans (b1.mono (by omega)))
  clear b1 hz0
  have HN := Lib.hid (row_new w1 88 (cellsOf 64 (fun _ => 0)))
  have HKK : Hid (∀ w, Calls Try.prog 53 #[] w fun e w' => e = .returned (.agg (cellsOf 64 shaK)) ∧ Below w.heap.size w w') := refConstants_any
  obtain ⟨DW, hDW⟩ : ∃ DW, DW = wAt b := ⟨_, rfl⟩
  rw [← hDW]
  have HDW := Lib.hid hDW; clear hDW
  go_wp2_with (rw [zero64]; refine wpList_store_row rfl _ _ _ rfl w1.heap.size (cellsOf 64 DW) rfl rfl 88 _ HN.out (H64.out _) (HE64.out _ _) (HO64.out _) ?_)
  have hK := setRow_heap _ _ _ (cellsOf 64 DW) _ _ HN.out
  have hR0 : Row ((w1.alloc (.cells (cellsOf 64 (fun _ => 0)) 88)).setRow w1.heap.size (cellsOf 64 DW)) w.heap.size 75 A := (setRow_other _ _ _ _ (by omega)).trans (HR0.out.alloc _)
  have hR2 : Row ((w1.alloc (.cells (cellsOf 64 (fun _ => 0)) 88)).setRow w1.heap.size (cellsOf 64 DW)) (w.heap.size + 1 + 1) 75 (cellsOf 8 (fun _ => 0)) := (setRow_other _ _ _ _ (by omega)).trans (HR2.out.alloc _)
  have hB2 : Below w.heap.size w ((w1.alloc (.cells (cellsOf 64 (fun _ => 0)) 88)).setRow w1.heap.size (cellsOf 64 DW)) := below_setRow (HB1.out.alloc (by omega) _) (by omega) _
  have hsz2 : w1.heap.size < ((w1.alloc (.cells (cellsOf 64 (fun _ => 0)) 88)).setRow w1.heap.size (cellsOf 64 DW)).heap.size := (show Row _ _ _ _ from hK).lt
  obtain ⟨w2, hw2⟩ : ∃ w2, w2 = ((w1.alloc (.cells (cellsOf 64 (fun _ => 0)) 88)).setRow w1.heap.size (cellsOf 64 DW)) := ⟨_, rfl⟩
  rw [← hw2] at hK hR0 hR2 hB2 hsz2 ⊢
  clear hw2 HR0 HR2 HB1 HN HB0
  have HK : Hid (Row w2 w1.heap.size 88 (cellsOf 64 DW)) := hK
  have HR0 := Lib.hid hR0
  have HR2 := Lib.hid hR2
  have HB2 := Lib.hid hB2
  clear hR0 hR2 hB2 hK
  refine (HKK.out _).mono ?_
  rintro e w3 ⟨rfl, b3⟩
  have HR0 := Lib.hid (HR0.out.below b3 (by omega))
  have HR2 := Lib.hid (HR2.out.below b3 (by omega))
  have HK := Lib.hid (HK.out.below b3 hsz2)
  have HB3 := Lib.hid (HB2.out.trans (b3.mono (by omega)))
  have hz3 : w1.heap.size + 1 ≤ w3.heap.size := by have := b3.size; omega
  clear b3 hsz2 HB2
  obtain ⟨SK, hSK⟩ : ∃ SK, SK = shaK := ⟨_, rfl⟩
  rw [← hSK]
  have HSK := Lib.hid hSK; clear hSK
  have HN := Lib.hid (row_new w3 88 (cellsOf 64 (fun _ => 0)))
  have hK1 := (HK.out.alloc (.cells (cellsOf 64 (fun _ => 0)) 88))
  have hM : Row ((w3.alloc (.cells (cellsOf 64 (fun _ => 0)) 88)).setRow w3.heap.size (cellsOf 64 SK)) w3.heap.size 88 (cellsOf 64 SK) := setRow_heap _ _ _ (cellsOf 64 SK) _ _ HN.out
  have hK2 : Row ((w3.alloc (.cells (cellsOf 64 (fun _ => 0)) 88)).setRow w3.heap.size (cellsOf 64 SK)) w1.heap.size 88 (cellsOf 64 DW) := (setRow_other _ _ _ _ (by omega)).trans hK1
  have hR0 : Row ((w3.alloc (.cells (cellsOf 64 (fun _ => 0)) 88)).setRow w3.heap.size (cellsOf 64 SK)) w.heap.size 75 A := (setRow_other _ _ _ _ (by omega)).trans (HR0.out.alloc _)
  have hR2 : Row ((w3.alloc (.cells (cellsOf 64 (fun _ => 0)) 88)).setRow w3.heap.size (cellsOf 64 SK)) (w.heap.size + 1 + 1) 75 (cellsOf 8 (fun _ => 0)) := (setRow_other _ _ _ _ (by omega)).trans (HR2.out.alloc _)
  have hB4 : Below w.heap.size w ((w3.alloc (.cells (cellsOf 64 (fun _ => 0)) 88)).setRow w3.heap.size (cellsOf 64 SK)) := below_setRow (HB3.out.alloc (by omega) _) (by omega) _
  have hsz4 : ((w3.alloc (.cells (cellsOf 64 (fun _ => 0)) 88)).setRow w3.heap.size (cellsOf 64 SK)).heap.size = w3.heap.size + 1 := by simp
  obtain ⟨w4, hw4⟩ : ∃ w4, w4 = ((w3.alloc (.cells (cellsOf 64 (fun _ => 0)) 88)).setRow w3.heap.size (cellsOf 64 SK)) := ⟨_, rfl⟩
  rw [← hw4] at hM hK2 hR0 hR2 hB4 hsz4
  have HW4 := Lib.hid hw4; clear hw4
  have hA0 : (Try.prog.info? 75).map (·.size) = some A.size := by rw [HAA.out]; exact H8.out _
  have HA0 := Lib.hid hA0; clear hA0
  have HR0 := Lib.hid hR0
  have HN4 := Lib.hid (row_new w4 75 (cellsOf 8 (fun _ => 0)))
  have HOA : Hid (A.all (·.oneCell') = true) := by unfold Hid; rw [HAA.out]; exact HO8.out _
  have HEA : Hid ((cellsOf 8 (fun _ => 0)).size = A.size) := by unfold Hid; rw [HAA.out]; exact HE.out _ _
  have HM := Lib.hid hM
  have HK2 := Lib.hid hK2
  have HR2 := Lib.hid hR2
  have HB4 := Lib.hid hB4
  have HSZ := Lib.hid hsz4
  clear hM hK2 hR2 hB4 hK1 hR0 hsz4
  go_wp2_with (first
    | (rw [zero64]; refine wpList_store_row rfl _ _ _ rfl w3.heap.size (cellsOf 64 SK) rfl rfl 88 _ HN.out (H64.out _) (HE64.out _ _) (HO64.out _) ?_; rw [← HW4.out])
    | (refine wpList_load_row rfl _ _ rfl w.heap.size rfl 75 A (0, 0) _ HR0.out Try.underlying75 rfl HA0.out ?_)
    | (rw [zero8]; refine wpList_store_row rfl _ _ _ rfl w4.heap.size A rfl rfl 75 _ HN4.out HA0.out HEA.out HOA.out ?_))
  have hz4 := HSZ.out
  have hV : Row ((w4.alloc (.cells (cellsOf 8 (fun _ => 0)) 75)).setRow w4.heap.size A) w4.heap.size 75 (cellsOf 8 (getV (rounds8 (ofF f) b 0))) := by
    have h : A = cellsOf 8 (getV (rounds8 (ofF f) b 0)) := by
      rw [HAA.out]; apply cellsOf_congr; intro j hj
      have : j = 0 ∨ j = 1 ∨ j = 2 ∨ j = 3 ∨ j = 4 ∨ j = 5 ∨ j = 6 ∨ j = 7 := by omega
      rcases this with rfl | rfl | rfl | rfl | rfl | rfl | rfl | rfl <;> rfl
    rw [← h]; exact setRow_heap _ _ _ A _ _ HN4.out
  have hM5 : Row ((w4.alloc (.cells (cellsOf 8 (fun _ => 0)) 75)).setRow w4.heap.size A) w3.heap.size 88 (cellsOf 64 SK) := (setRow_other _ _ _ _ (by omega)).trans (HM.out.alloc _)
  have hK5 : Row ((w4.alloc (.cells (cellsOf 8 (fun _ => 0)) 75)).setRow w4.heap.size A) w1.heap.size 88 (cellsOf 64 DW) := (setRow_other _ _ _ _ (by omega)).trans (HK2.out.alloc _)
  have hR05 : Row ((w4.alloc (.cells (cellsOf 8 (fun _ => 0)) 75)).setRow w4.heap.size A) w.heap.size 75 (cellsOf 8 f) := by rw [← HAA.out]; exact (setRow_other _ _ _ _ (by omega)).trans (HR0.out.alloc _)
  have hR25 : Row ((w4.alloc (.cells (cellsOf 8 (fun _ => 0)) 75)).setRow w4.heap.size A) (w.heap.size + 1 + 1) 75 (cellsOf 8 (fun _ => 0)) := (setRow_other _ _ _ _ (by omega)).trans (HR2.out.alloc _)
  have hB5 : Below w.heap.size w ((w4.alloc (.cells (cellsOf 8 (fun _ => 0)) 75)).setRow w4.heap.size A) := below_setRow (HB4.out.alloc (by omega) _) (by omega) _
  obtain ⟨w5, hw5⟩ : ∃ w5, w5 = ((w4.alloc (.cells (cellsOf 8 (fun _ => 0)) 75)).setRow w4.heap.size A) := ⟨_, rfl⟩
  rw [← hw5] at hV hM5 hK5 hR05 hR25 hB5 ⊢
  clear hw5 HR0 HR2 HM HK2 HB4 HN4 HN HOA HEA HA0 HB3 HK HSZ HW4
  have n1 : w.heap.size + 3 ≤ w1.heap.size := hz1
  have n2 : w1.heap.size + 1 ≤ w3.heap.size := hz3
  have n3 : w3.heap.size + 1 ≤ w4.heap.size := by omega
  clear hz4 hz1 hz3
  generalize w1.heap.size = m1 at *
  generalize w3.heap.size = m2 at *
  generalize w4.heap.size = m3 at *
  have HV := Lib.hid hV; clear hV
  have HM := Lib.hid hM5; clear hM5
  have HK := Lib.hid hK5; clear hK5
  have HR0 := Lib.hid hR05; clear hR05
  have HR2 := Lib.hid hR25; clear hR25
  have HB := Lib.hid hB5; clear hB5
  go_loopw [8] (fun i wr => ∃ k : Nat, k ≤ 64 ∧ i = .int .i64 k ∧ Hid (Row wr m3 75 (cellsOf 8 (getV (rounds8 (ofF f) b k)))) ∧ Hid (Row wr m2 88 (cellsOf 64 SK)) ∧ Hid (Row wr m1 88 (cellsOf 64 DW)) ∧ Hid (Row wr w.heap.size 75 (cellsOf 8 f)) ∧ Hid (Row wr (w.heap.size + 1 + 1) 75 (cellsOf 8 (fun _ => 0))) ∧ Hid (Below w.heap.size w wr)) (fun i _ => 64 - (intOf i).toNat)
  case atStart => exact ⟨0, by omega, rfl, HV.out, HM.out, HK.out, HR0.out, HR2.out, HB.out⟩
  case round =>
    clear HV HM HK HR0 HR2 HB
    obtain ⟨k, hk, rfl, HV, HM, HK, HR0, HR2, HB⟩ := hrel
    by_cases hlt : k < 64
    · have HNx : Hid (cellsOf 8 (getV (rounds8 (ofF f) b (k + 1))) = cellsOf 8 (getV (step8 (rounds8 (ofF f) b k) (SK k) (DW k)))) := by unfold Hid; rw [HSK.out, HDW.out]; rfl
      generalize rounds8 (ofF f) b k = v at *
      obtain ⟨a, bb, c, d, e, ff, g, h⟩ := v
      have c0 : wr.cell? ⟨m3, 0, none⟩ = some (.int .u32 a.toNat) := HV.out.cell (j := 0) (by decide)
      have c1 : wr.cell? ⟨m3, 1, none⟩ = some (.int .u32 bb.toNat) := HV.out.cell (j := 1) (by decide)
      have c2 : wr.cell? ⟨m3, 2, none⟩ = some (.int .u32 c.toNat) := HV.out.cell (j := 2) (by decide)
      have c3 : wr.cell? ⟨m3, 3, none⟩ = some (.int .u32 d.toNat) := HV.out.cell (j := 3) (by decide)
      have c4 : wr.cell? ⟨m3, 4, none⟩ = some (.int .u32 e.toNat) := HV.out.cell (j := 4) (by decide)
      have c5 : wr.cell? ⟨m3, 5, none⟩ = some (.int .u32 ff.toNat) := HV.out.cell (j := 5) (by decide)
      have c6 : wr.cell? ⟨m3, 6, none⟩ = some (.int .u32 g.toNat) := HV.out.cell (j := 6) (by decide)
      have c7 : wr.cell? ⟨m3, 7, none⟩ = some (.int .u32 h.toNat) := HV.out.cell (j := 7) (by decide)
      have f0 := HV.out.free 0
      have f1 := HV.out.free 1
      have f2 := HV.out.free 2
      have f3 := HV.out.free 3
      have f4 := HV.out.free 4
      have f5 := HV.out.free 5
      have f6 := HV.out.free 6
      have f7 := HV.out.free 7
      have eK := HM.out.cell hlt
      have eW := HK.out.cell hlt
      generalize SK k = kk at *
      generalize DW k = ww at *
      have hX := wX
      have hA := wA
      have hA' := wA'
      have hN := wN
      have hC := wC
      have hM := wM
      have lk : (k : Int) < 64 := by omega
      go_wp2_with fail
      refine wp_region_quiet_lit (by kernel_rfl) (by kernel_rfl) ?_
      repeat (go_big_quiet_step (fail))
      go_big_quiet_step (exact quiet_same (rot6_any _ _))
      repeat (go_big_quiet_step (fail))
      go_big_quiet_step (exact quiet_same (rot11_any _ _))
      repeat (go_big_quiet_step (fail))
      go_big_quiet_step (exact quiet_same (rot25_any _ _))
      repeat (go_big_quiet_step (fail))
      refine wpQuiet_nil ?_
      intro _ hw'
      obtain ⟨nq, hw''⟩ := hw'
      subst hw''
      go_wp2_with fail
      go_quiet (fail)
      go_wp2_with fail
      refine wp_region_quiet_lit (by kernel_rfl) (by kernel_rfl) ?_
      repeat (go_big_quiet_step (fail))
      go_big_quiet_step (exact quiet_more (rot2_any _ _))
      repeat (go_big_quiet_step (fail))
      go_big_quiet_step (exact quiet_more (rot13_any _ _))
      repeat (go_big_quiet_step (fail))
      go_big_quiet_step (exact quiet_more (rot22_any _ _))
      repeat (go_big_quiet_step (fail))
      refine wpQuiet_nil ?_
      intro _ hw'
      obtain ⟨nq, hw''⟩ := hw'
      subst hw''
      have hE := stores8 ⟨a, bb, c, d, e, ff, g, h⟩ kk ww
      have HE2 := Lib.hid hE; clear hE
      go_wp2
      go_roundw
      case rel => exact ⟨k + 1, by omega, by go_num, by rw [HNx.out, ← HE2.out]; exact ((((((((HV.out.drewN _).set (j := 7) g (by decide)).set (j := 6) ff (by decide)).set (j := 5) e (by decide)).set (j := 4) (uA d (tOf ⟨a, bb, c, d, e, ff, g, h⟩ kk ww)) (by decide)).set (j := 3) c (by decide)).set (j := 2) bb (by decide)).set (j := 1) a (by decide)).set (j := 0) (uA (uA (tOf ⟨a, bb, c, d, e, ff, g, h⟩ kk ww) (big0 a)) (maj a bb c)) (by decide), (HM.out.drewN _).eight (by omega) _ _ _ _ _ _ _ _, (HK.out.drewN _).eight (by omega) _ _ _ _ _ _ _ _, (HR0.out.drewN _).eight (by omega) _ _ _ _ _ _ _ _, (HR2.out.drewN _).eight (by omega) _ _ _ _ _ _ _ _, below_eight (Below.drewN HB.out _) (by omega) _ _ _ _ _ _ _ _⟩
      case measure => simp [intOf]; omega
    · have hk64 : k = 64 := by omega
      obtain ⟨v, hv⟩ : ∃ v, v = rounds8 (ofF f) b 64 := ⟨_, rfl⟩
      have HBF : Hid (∀ i, uA (f i) (getV v i) = blockF f b i) := fun i => by rw [hv]; rfl
      have HV : Hid (Row wr m3 75 (cellsOf 8 (getV v))) := by unfold Hid; rw [hv, ← hk64]; exact HV.out
      have HR0 : Hid (Row wr w.heap.size 75 (cellsOf 8 (bUp f b 0))) := by unfold Hid; rw [bUp_zero]; exact HR0.out
      clear hk64 hv HM HK
      go_wp2_with fail
      obtain ⟨w6, hw6⟩ : ∃ w6 : World, w6 = wr := ⟨_, rfl⟩
      rw [← hw6] at HR0 HR2 HB HV ⊢
      clear hw6
      go_loopw [14] (fun i wr => ∃ k : Nat, k ≤ 8 ∧ i = .int .i64 k ∧ Hid (Row wr w.heap.size 75 (cellsOf 8 (bUp f b k))) ∧ Hid (Row wr m3 75 (cellsOf 8 (getV v))) ∧ Hid (Row wr (w.heap.size + 1 + 1) 75 (cellsOf 8 (fun _ => 0))) ∧ Hid (Below w.heap.size w wr)) (fun i _ => 8 - (intOf i).toNat)
      case atStart => exact ⟨0, by omega, rfl, HR0.out, HV.out, HR2.out, HB.out⟩
      case round =>
        clear HR0 HV HR2 HB
        obtain ⟨k, hk, rfl, HR0, HV, HR2, HB⟩ := hrel
        by_cases hlt : k < 8
        · have ek := HR0.out.cell (j := k) hlt
          have fk := HR0.out.free k
          have ev := HV.out.cell (j := k) hlt
          rw [bUp_at] at ek
          have HF := Lib.hid (HBF.out k)
          generalize f k = x at *
          generalize getV v k = y at *
          have hA := wA
          have hA' := wA'
          have lk : (k : Int) < 8 := by omega
          go_wp2_with fail
          go_region
          all_goals
            go_wp2
            go_roundw
            case rel => exact ⟨k + 1, by omega, by go_num, by have hq := (HR0.out.set (uA x y) hlt).drew; rw [bUp_next f b k _ HF.out] at hq; exact hq, (HV.out.other _ _ (by simp; omega)).drew, (HR2.out.other _ _ (by simp; omega)).drew, (HB.out.setCell (p := ⟨w.heap.size, k, none⟩) (by simp) _).drew⟩
            case measure => simp [intOf]; omega
        · have hk8 : k = 8 := by omega
          have HR8 : Hid (Row wr w.heap.size 75 (cellsOf 8 G)) := by unfold Hid; rw [HG.out, ← bUp_done]; rw [hk8] at HR0; exact HR0.out
          clear hk8 HBF HV
          go_wp2_with (first | (refine wpList_load_row rfl _ _ rfl w.heap.size rfl 75 (cellsOf 8 G) (0, 0) _ HR8.out Try.underlying75 rfl (H8.out _) ?_) | (refine wpList_store_row rfl _ _ _ rfl (w.heap.size + 1 + 1) (cellsOf 8 G) rfl rfl 75 _ HR2.out (H8.out _) (HE.out _ _) (HO8.out _) ?_))
          refine bodyPost_ret (v := .agg (cellsOf 8 G)) ?_ rfl ⟨rfl, ?_⟩
          · exact results_cell_row rfl _ _ (w.heap.size + 1 + 1) 75 _ (0, 0) _ rfl (setRow_heap _ _ _ _ _ _ HR2.out) Try.underlying75 rfl (H8.out _)
          · exact below_setRow HB.out (by omega) _
end Go.Proofs.Ytkbpkodakfknoaa
