/- Texts of this claim's author, packed: ShaRefBlock, RowB. Conditions: none. -/
import Derived.Test.YtfpofcfoeajkiaaGreatQB06
import Derived.Test.YtfpofcfoeajkiaaGreatQB02
import Derived.Deep.MidRow
import Derived.Lib.ConvBytes
/- A block: the document's walk. -/
namespace Go.Proofs.YtfpofcfoeajkiaaGreat
open Go.RowKit
set_option linter.unusedVariables false
theorem quiet_more {P : Program} {f : FuncId} {args : Array Value} {w : World} {a n : Nat} {v : Value}
    (h : Calls P f args (w.drewN (a + n)) fun e w' => e = .returned v ∧ w.drewN (a + n) = w') : Calls P f args (w.drewN (a + n)) fun e w'' => e = .returned v ∧ ∃ m, w'' = w.drewN (a + m) :=
  h.mono fun _ _ ⟨h1, h2⟩ => ⟨h1, n, h2.symm⟩
theorem wM (a : UInt32) : (a.toNat : Int) % 4294967296 = (a.toNat : Int) := by have := a.toNat_lt; omega
theorem Row.eight {w : World} {b m : Nat} {t : TypeId} {cs : Array Value} (h : Row w b t cs) (hne : b ≠ m) (v7 v6 v5 v4 v3 v2 v1 v0 : Value) :
    Row ((((((((w.setCell ⟨m, 7, none⟩ v7).setCell ⟨m, 6, none⟩ v6).setCell ⟨m, 5, none⟩ v5).setCell ⟨m, 4, none⟩ v4).setCell ⟨m, 3, none⟩ v3).setCell ⟨m, 2, none⟩ v2).setCell ⟨m, 1, none⟩ v1).setCell ⟨m, 0, none⟩ v0) b t cs := (((((((h.other _ _ hne).other _ _ hne).other _ _ hne).other _ _ hne).other _ _ hne).other _ _ hne).other _ _ hne).other _ _ hne
theorem below_eight {B m : Nat} {a w : World} (h : Below B a w) (hm : B ≤ m) (v7 v6 v5 v4 v3 v2 v1 v0 : Value) :
    Below B a ((((((((w.setCell ⟨m, 7, none⟩ v7).setCell ⟨m, 6, none⟩ v6).setCell ⟨m, 5, none⟩ v5).setCell ⟨m, 4, none⟩ v4).setCell ⟨m, 3, none⟩ v3).setCell ⟨m, 2, none⟩ v2).setCell ⟨m, 1, none⟩ v1).setCell ⟨m, 0, none⟩ v0) := (((((((h.setCell (p := ⟨m, 7, none⟩) hm _).setCell (p := ⟨m, 6, none⟩) hm _).setCell (p := ⟨m, 5, none⟩) hm _).setCell (p := ⟨m, 4, none⟩) hm _).setCell (p := ⟨m, 3, none⟩) hm _).setCell (p := ⟨m, 2, none⟩) hm _).setCell (p := ⟨m, 1, none⟩) hm _).setCell (p := ⟨m, 0, none⟩) hm _
theorem stores8 (v : V8) (k w : UInt32) : cellsOf 8 (upd (upd (upd (upd (upd (upd (upd (upd (getV v) 7 v.g) 6 v.f) 5 v.e) 4 (uA v.d (tOf v k w))) 3 v.c) 2 v.b) 1 v.a) 0 (uA (uA (tOf v k w) (big0 v.a)) (maj v.a v.b v.c))) = cellsOf 8 (getV (step8 v k w)) := by
  apply cellsOf_congr
  intro j hj
  have : j = 0 ∨ j = 1 ∨ j = 2 ∨ j = 3 ∨ j = 4 ∨ j = 5 ∨ j = 6 ∨ j = 7 := by omega
  rcases this with rfl | rfl | rfl | rfl | rfl | rfl | rfl | rfl <;> rfl
set_option maxRecDepth 20000 in
set_option maxHeartbeats 8000000 in
theorem refBlock_any (f : Nat → UInt32) (b : List UInt8) (hb : b.length = 64) (w : World) :
    Calls Tryz.prog 47 #[.agg (cellsOf 8 f), .agg (bytesOf 64 fun i => b.getD i 0)] w fun e w' => e = .returned (.agg (cellsOf 8 (blockF f b))) ∧ Below w.heap.size w w' := by
  obtain ⟨G, hG⟩ : ∃ G, G = blockF f b := ⟨_, rfl⟩
  rw [← hG]
  have HG := Lib.hid hG; clear hG
  have hs := fun w => words_any b hb w
  obtain ⟨B, hB⟩ : ∃ B, B = bytesOf 64 (fun i => b.getD i 0) := ⟨_, rfl⟩
  rw [← hB]
  have hBs : B.size = 64 := by rw [hB, bytesOf_size]
  rw [← hB] at hs
  have HS := Lib.hid hs; clear hs hB
  have hLB : (Tryz.prog.info? 87).map (·.size) = some B.size := by rw [hBs]; kernel_rfl
  have HLB := Lib.hid hLB; clear hLB hBs
  have h8 : ∀ g, (Tryz.prog.info? 85).map (·.size) = some (cellsOf 8 g).size := by intro g; rw [cellsOf_size]; kernel_rfl
  have H8 := Lib.hid h8; clear h8
  have h64 : ∀ g, (Tryz.prog.info? 117).map (·.size) = some (cellsOf 64 g).size := by intro g; rw [cellsOf_size]; kernel_rfl
  have H64 := Lib.hid h64; clear h64
  have HE : Hid (∀ g g', (cellsOf 8 g).size = (cellsOf 8 g').size) := by intro g g'; rw [cellsOf_size, cellsOf_size]
  have HE64 : Hid (∀ g g', (cellsOf 64 g).size = (cellsOf 64 g').size) := by intro g g'; rw [cellsOf_size, cellsOf_size]
  have HO8 : Hid (∀ g, (cellsOf 8 g).all (·.oneCell') = true) := fun g => cellsOf_one _ _
  have HO64 : Hid (∀ g, (cellsOf 64 g).all (·.oneCell') = true) := fun g => cellsOf_one _ _
  obtain ⟨A, hA⟩ : ∃ A, A = cellsOf 8 f := ⟨_, rfl⟩
  rw [← hA]
  have hR0 := ((row_new w 85 A).alloc (.cells B 87)).alloc (.cells (cellsOf 8 (fun _ => 0)) 85)
  have hR1 := (row_new (w.alloc (.cells A 85)) 87 B).alloc (.cells (cellsOf 8 (fun _ => 0)) 85)
  have hR2 := row_new ((w.alloc (.cells A 85)).alloc (.cells B 87)) 85 (cellsOf 8 (fun _ => 0))
  simp only [World.size_alloc] at hR1 hR2
  have HR0 := Lib.hid hR0; clear hR0
  have HR1 := Lib.hid hR1; clear hR1
  have HR2 := Lib.hid hR2; clear hR2
  have HB0 := Lib.hid ((((Below.refl w.heap.size w).alloc (Nat.le_refl _) (.cells A 85)).alloc (by simp) (.cells B 87)).alloc (by simp; omega) (.cells (cellsOf 8 (fun _ => 0)) 85))
  have HAA := Lib.hid hA; clear hA
  go_enter Tryz.func47, Tryz.ntmps47
  go_wp2_with (rw [zero8]; refine wpList_load_row rfl _ _ rfl (w.heap.size + 1) rfl 87 B (0, 0) _ HR1.out Tryz.underlying87 rfl HLB.out ?_)
  obtain ⟨w0, hw0⟩ : ∃ w0, w0 = (((w.alloc (.cells A 85)).alloc (.cells B 87)).alloc (.cells (cellsOf 8 (fun _ => 0)) 85)) := ⟨_, rfl⟩
  have hz0 : w0.heap.size = w.heap.size + 3 := by rw [hw0]; simp
  rw [← hw0] at HR0 HR2 HB0 ⊢
  clear hw0 HR1
  refine (HS.out _).mono ?_
  rintro e w1 ⟨rfl, b1⟩
  have hz1 : w.heap.size + 3 ≤ w1.heap.size := by have := b1.size; omega
  have HR0 := Lib.hid (HR0.out.below b1 (by omega))
  have HR2 := Lib.hid (HR2.out.below b1 (by omega))
  have HB1 := Lib.hid (HB0.out.trans (b1.mono (by omega)))
  clear b1 hz0
  have HN := Lib.hid (row_new w1 117 (cellsOf 64 (fun _ => 0)))
  have HKK : Hid (∀ w, Calls Tryz.prog 76 #[] w fun e w' => e = .returned (.agg (cellsOf 64 shaK)) ∧ Below w.heap.size w w') := refConstants_any
  obtain ⟨DW, hDW⟩ : ∃ DW, DW = wAt b := ⟨_, rfl⟩
  rw [← hDW]
  have HDW := Lib.hid hDW; clear hDW
  go_wp2_with (rw [zero64]; refine wpList_store_row rfl _ _ _ rfl w1.heap.size (cellsOf 64 DW) rfl rfl 117 _ HN.out (H64.out _) (HE64.out _ _) (HO64.out _) ?_)
  have hK := setRow_heap _ _ _ (cellsOf 64 DW) _ _ HN.out
  have hR0 : Row ((w1.alloc (.cells (cellsOf 64 (fun _ => 0)) 117)).setRow w1.heap.size (cellsOf 64 DW)) w.heap.size 85 A := (setRow_other _ _ _ _ (by omega)).trans (HR0.out.alloc _)
  have hR2 : Row ((w1.alloc (.cells (cellsOf 64 (fun _ => 0)) 117)).setRow w1.heap.size (cellsOf 64 DW)) (w.heap.size + 1 + 1) 85 (cellsOf 8 (fun _ => 0)) := (setRow_other _ _ _ _ (by omega)).trans (HR2.out.alloc _)
  have hB2 : Below w.heap.size w ((w1.alloc (.cells (cellsOf 64 (fun _ => 0)) 117)).setRow w1.heap.size (cellsOf 64 DW)) := below_setRow (HB1.out.alloc (by omega) _) (by omega) _
  have hsz2 : w1.heap.size < ((w1.alloc (.cells (cellsOf 64 (fun _ => 0)) 117)).setRow w1.heap.size (cellsOf 64 DW)).heap.size := (show Row _ _ _ _ from hK).lt
  obtain ⟨w2, hw2⟩ : ∃ w2, w2 = ((w1.alloc (.cells (cellsOf 64 (fun _ => 0)) 117)).setRow w1.heap.size (cellsOf 64 DW)) := ⟨_, rfl⟩
  rw [← hw2] at hK hR0 hR2 hB2 hsz2 ⊢
  clear hw2 HR0 HR2 HB1 HN HB0
  have HK : Hid (Row w2 w1.heap.size 117 (cellsOf 64 DW)) := hK
  have HR0 := Lib.hid hR0
  have HR2 := Lib.hid hR2
  have HB2 := Lib.hid hB2
  clear hR0 hR2 hB2 hK
  refine (HKK.out _).mono ?_
  rintro e w3 ⟨rfl, b3⟩
  have HR0 := Lib.hid (HR0.out.below b3 (by omega))
  have HR2 := Lib.hid (HR2.out.below b3 (by omega))
  have HK := Lib.hid (HK.out.below b3 hsz2)
  have HB3 := Lib.hid (HB2.out.trans (b3.mono (by omega)))
  have hz3 : w1.heap.size + 1 ≤ w3.heap.size := by have := b3.size; omega
  clear b3 hsz2 HB2
  obtain ⟨SK, hSK⟩ : ∃ SK, SK = shaK := ⟨_, rfl⟩
  rw [← hSK]
  have HSK := Lib.hid hSK; clear hSK
  have HN := Lib.hid (row_new w3 117 (cellsOf 64 (fun _ => 0)))
  have hK1 := (HK.out.alloc (.cells (cellsOf 64 (fun _ => 0)) 117))
  have hM : Row ((w3.alloc (.cells (cellsOf 64 (fun _ => 0)) 117)).setRow w3.heap.size (cellsOf 64 SK)) w3.heap.size 117 (cellsOf 64 SK) := setRow_heap _ _ _ (cellsOf 64 SK) _ _ HN.out
  have hK2 : Row ((w3.alloc (.cells (cellsOf 64 (fun _ => 0)) 117)).setRow w3.heap.size (cellsOf 64 SK)) w1.heap.size 117 (cellsOf 64 DW) := (setRow_other _ _ _ _ (by omega)).trans hK1
  have hR0 : Row ((w3.alloc (.cells (cellsOf 64 (fun _ => 0)) 117)).setRow w3.heap.size (cellsOf 64 SK)) w.heap.size 85 A := (setRow_other _ _ _ _ (by omega)).trans (HR0.out.alloc _)
  have hR2 : Row ((w3.alloc (.cells (cellsOf 64 (fun _ => 0)) 117)).setRow w3.heap.size (cellsOf 64 SK)) (w.heap.size + 1 + 1) 85 (cellsOf 8 (fun _ => 0)) := (setRow_other _ _ _ _ (by omega)).trans (HR2.out.alloc _)
  have hB4 : Below w.heap.size w ((w3.alloc (.cells (cellsOf 64 (fun _ => 0)) 117)).setRow w3.heap.size (cellsOf 64 SK)) := below_setRow (HB3.out.alloc (by omega) _) (by omega) _
  have hsz4 : ((w3.alloc (.cells (cellsOf 64 (fun _ => 0)) 117)).setRow w3.heap.size (cellsOf 64 SK)).heap.size = w3.heap.size + 1 := by simp
  obtain ⟨w4, hw4⟩ : ∃ w4, w4 = ((w3.alloc (.cells (cellsOf 64 (fun _ => 0)) 117)).setRow w3.heap.size (cellsOf 64 SK)) := ⟨_, rfl⟩
  rw [← hw4] at hM hK2 hR0 hR2 hB4 hsz4
  have HW4 := Lib.hid hw4; clear hw4
  have hA0 : (Tryz.prog.info? 85).map (·.size) = some A.size := by rw [HAA.out]; exact H8.out _
  have HA0 := Lib.hid hA0; clear hA0
  have HR0 := Lib.hid hR0
  have HN4 := Lib.hid (row_new w4 85 (cellsOf 8 (fun _ => 0)))
  have HOA : Hid (A.all (·.oneCell') = true) := by unfold Hid; rw [HAA.out]; exact HO8.out _
  have HEA : Hid ((cellsOf 8 (fun _ => 0)).size = A.size) := by unfold Hid; rw [HAA.out]; exact HE.out _ _
  have HM := Lib.hid hM
  have HK2 := Lib.hid hK2
  have HR2 := Lib.hid hR2
  have HB4 := Lib.hid hB4
  have HSZ := Lib.hid hsz4
  clear hM hK2 hR2 hB4 hK1 hR0 hsz4
  go_wp2_with (first
    | (rw [zero64]; refine wpList_store_row rfl _ _ _ rfl w3.heap.size (cellsOf 64 SK) rfl rfl 117 _ HN.out (H64.out _) (HE64.out _ _) (HO64.out _) ?_; rw [← HW4.out])
    | (refine wpList_load_row rfl _ _ rfl w.heap.size rfl 85 A (0, 0) _ HR0.out Tryz.underlying85 rfl HA0.out ?_)
    | (rw [zero8]; refine wpList_store_row rfl _ _ _ rfl w4.heap.size A rfl rfl 85 _ HN4.out HA0.out HEA.out HOA.out ?_))
  have hz4 := HSZ.out
  have hV : Row ((w4.alloc (.cells (cellsOf 8 (fun _ => 0)) 85)).setRow w4.heap.size A) w4.heap.size 85 (cellsOf 8 (getV (rounds8 (ofF f) b 0))) := by
    have h : A = cellsOf 8 (getV (rounds8 (ofF f) b 0)) := by
      rw [HAA.out]; apply cellsOf_congr; intro j hj
      have : j = 0 ∨ j = 1 ∨ j = 2 ∨ j = 3 ∨ j = 4 ∨ j = 5 ∨ j = 6 ∨ j = 7 := by omega
      rcases this with rfl | rfl | rfl | rfl | rfl | rfl | rfl | rfl <;> rfl
    rw [← h]; exact setRow_heap _ _ _ A _ _ HN4.out
  have hM5 : Row ((w4.alloc (.cells (cellsOf 8 (fun _ => 0)) 85)).setRow w4.heap.size A) w3.heap.size 117 (cellsOf 64 SK) := (setRow_other _ _ _ _ (by omega)).trans (HM.out.alloc _)
  have hK5 : Row ((w4.alloc (.cells (cellsOf 8 (fun _ => 0)) 85)).setRow w4.heap.size A) w1.heap.size 117 (cellsOf 64 DW) := (setRow_other _ _ _ _ (by omega)).trans (HK2.out.alloc _)
  have hR05 : Row ((w4.alloc (.cells (cellsOf 8 (fun _ => 0)) 85)).setRow w4.heap.size A) w.heap.size 85 (cellsOf 8 f) := by rw [← HAA.out]; exact (setRow_other _ _ _ _ (by omega)).trans (HR0.out.alloc _)
  have hR25 : Row ((w4.alloc (.cells (cellsOf 8 (fun _ => 0)) 85)).setRow w4.heap.size A) (w.heap.size + 1 + 1) 85 (cellsOf 8 (fun _ => 0)) := (setRow_other _ _ _ _ (by omega)).trans (HR2.out.alloc _)
  have hB5 : Below w.heap.size w ((w4.alloc (.cells (cellsOf 8 (fun _ => 0)) 85)).setRow w4.heap.size A) := below_setRow (HB4.out.alloc (by omega) _) (by omega) _
  obtain ⟨w5, hw5⟩ : ∃ w5, w5 = ((w4.alloc (.cells (cellsOf 8 (fun _ => 0)) 85)).setRow w4.heap.size A) := ⟨_, rfl⟩
  rw [← hw5] at hV hM5 hK5 hR05 hR25 hB5 ⊢
  clear hw5 HR0 HR2 HM HK2 HB4 HN4 HN HOA HEA HA0 HB3 HK HSZ HW4
  have n1 : w.heap.size + 3 ≤ w1.heap.size := hz1
  have n2 : w1.heap.size + 1 ≤ w3.heap.size := hz3
  have n3 : w3.heap.size + 1 ≤ w4.heap.size := by omega
  clear hz4 hz1 hz3
  generalize w1.heap.size = m1 at *
  generalize w3.heap.size = m2 at *
  generalize w4.heap.size = m3 at *
  have HV := Lib.hid hV; clear hV
  have HM := Lib.hid hM5; clear hM5
  have HK := Lib.hid hK5; clear hK5
  have HR0 := Lib.hid hR05; clear hR05
  have HR2 := Lib.hid hR25; clear hR25
  have HB := Lib.hid hB5; clear hB5
  go_loopw [8] (fun i wr => ∃ k : Nat, k ≤ 64 ∧ i = .int .i64 k ∧ Hid (Row wr m3 85 (cellsOf 8 (getV (rounds8 (ofF f) b k)))) ∧ Hid (Row wr m2 117 (cellsOf 64 SK)) ∧ Hid (Row wr m1 117 (cellsOf 64 DW)) ∧ Hid (Row wr w.heap.size 85 (cellsOf 8 f)) ∧ Hid (Row wr (w.heap.size + 1 + 1) 85 (cellsOf 8 (fun _ => 0))) ∧ Hid (Below w.heap.size w wr)) (fun i _ => 64 - (intOf i).toNat)
  case atStart => exact ⟨0, by omega, rfl, HV.out, HM.out, HK.out, HR0.out, HR2.out, HB.out⟩
  case round =>
    clear HV HM HK HR0 HR2 HB
    obtain ⟨k, hk, rfl, HV, HM, HK, HR0, HR2, HB⟩ := hrel
    by_cases hlt : k < 64
    · have HNx : Hid (cellsOf 8 (getV (rounds8 (ofF f) b (k + 1))) = cellsOf 8 (getV (step8 (rounds8 (ofF f) b k) (SK k) (DW k)))) := by unfold Hid; rw [HSK.out, HDW.out]; rfl
      generalize rounds8 (ofF f) b k = v at *
      obtain ⟨a, bb, c, d, e, ff, g, h⟩ := v
      have c0 : wr.cell? ⟨m3, 0, none⟩ = some (.int .u32 a.toNat) := HV.out.cell (j := 0) (by decide)
      have c1 : wr.cell? ⟨m3, 1, none⟩ = some (.int .u32 bb.toNat) := HV.out.cell (j := 1) (by decide)
      have c2 : wr.cell? ⟨m3, 2, none⟩ = some (.int .u32 c.toNat) := HV.out.cell (j := 2) (by decide)
      have c3 : wr.cell? ⟨m3, 3, none⟩ = some (.int .u32 d.toNat) := HV.out.cell (j := 3) (by decide)
      have c4 : wr.cell? ⟨m3, 4, none⟩ = some (.int .u32 e.toNat) := HV.out.cell (j := 4) (by decide)
      have c5 : wr.cell? ⟨m3, 5, none⟩ = some (.int .u32 ff.toNat) := HV.out.cell (j := 5) (by decide)
      have c6 : wr.cell? ⟨m3, 6, none⟩ = some (.int .u32 g.toNat) := HV.out.cell (j := 6) (by decide)
      have c7 : wr.cell? ⟨m3, 7, none⟩ = some (.int .u32 h.toNat) := HV.out.cell (j := 7) (by decide)
      have f0 := HV.out.free 0
      have f1 := HV.out.free 1
      have f2 := HV.out.free 2
      have f3 := HV.out.free 3
      have f4 := HV.out.free 4
      have f5 := HV.out.free 5
      have f6 := HV.out.free 6
      have f7 := HV.out.free 7
      have eK := HM.out.cell hlt
      have eW := HK.out.cell hlt
      generalize SK k = kk at *
      generalize DW k = ww at *
      have hX := wX
      have hA := wA
      have hA' := wA'
      have hN := wN
      have hC := wC
      have hM := wM
      have lk : (k : Int) < 64 := by omega
      go_wp2_with fail
      refine wp_region_quiet_lit (by kernel_rfl) (by kernel_rfl) ?_
      repeat (go_big_quiet_step (fail))
      go_big_quiet_step (exact quiet_same (rot6_any _ _))
      repeat (go_big_quiet_step (fail))
      go_big_quiet_step (exact quiet_same (rot11_any _ _))
      repeat (go_big_quiet_step (fail))
      go_big_quiet_step (exact quiet_same (rot25_any _ _))
      repeat (go_big_quiet_step (fail))
      refine wpQuiet_nil ?_
      intro _ hw'
      obtain ⟨nq, hw''⟩ := hw'
      subst hw''
      go_wp2_with fail
      go_quiet (fail)
      go_wp2_with fail
      refine wp_region_quiet_lit (by kernel_rfl) (by kernel_rfl) ?_
      repeat (go_big_quiet_step (fail))
      go_big_quiet_step (exact quiet_more (rot2_any _ _))
      repeat (go_big_quiet_step (fail))
      go_big_quiet_step (exact quiet_more (rot13_any _ _))
      repeat (go_big_quiet_step (fail))
      go_big_quiet_step (exact quiet_more (rot22_any _ _))
      repeat (go_big_quiet_step (fail))
      refine wpQuiet_nil ?_
      intro _ hw'
      obtain ⟨nq, hw''⟩ := hw'
      subst hw''
      have hE := stores8 ⟨a, bb, c, d, e, ff, g, h⟩ kk ww
      have HE2 := Lib.hid hE; clear hE
      go_wp2
      go_roundw
      case rel => exact ⟨k + 1, by omega, by go_num, by rw [HNx.out, ← HE2.out]; exact ((((((((HV.out.drewN _).set (j := 7) g (by decide)).set (j := 6) ff (by decide)).set (j := 5) e (by decide)).set (j := 4) (uA d (tOf ⟨a, bb, c, d, e, ff, g, h⟩ kk ww)) (by decide)).set (j := 3) c (by decide)).set (j := 2) bb (by decide)).set (j := 1) a (by decide)).set (j := 0) (uA (uA (tOf ⟨a, bb, c, d, e, ff, g, h⟩ kk ww) (big0 a)) (maj a bb c)) (by decide), (HM.out.drewN _).eight (by omega) _ _ _ _ _ _ _ _, (HK.out.drewN _).eight (by omega) _ _ _ _ _ _ _ _, (HR0.out.drewN _).eight (by omega) _ _ _ _ _ _ _ _, (HR2.out.drewN _).eight (by omega) _ _ _ _ _ _ _ _, below_eight (Below.drewN HB.out _) (by omega) _ _ _ _ _ _ _ _⟩
      case measure => simp [intOf]; omega
    · have hk64 : k = 64 := by omega
      obtain ⟨v, hv⟩ : ∃ v, v = rounds8 (ofF f) b 64 := ⟨_, rfl⟩
      have HBF : Hid (∀ i, uA (f i) (getV v i) = blockF f b i) := fun i => by rw [hv]; rfl
      have HV : Hid (Row wr m3 85 (cellsOf 8 (getV v))) := by unfold Hid; rw [hv, ← hk64]; exact HV.out
      have HR0 : Hid (Row wr w.heap.size 85 (cellsOf 8 (bUp f b 0))) := by unfold Hid; rw [bUp_zero]; exact HR0.out
      clear hk64 hv HM HK
      go_wp2_with fail
      obtain ⟨w6, hw6⟩ : ∃ w6 : World, w6 = wr := ⟨_, rfl⟩
      rw [← hw6] at HR0 HR2 HB HV ⊢
      clear hw6
      go_loopw [14] (fun i wr => ∃ k : Nat, k ≤ 8 ∧ i = .int .i64 k ∧ Hid (Row wr w.heap.size 85 (cellsOf 8 (bUp f b k))) ∧ Hid (Row wr m3 85 (cellsOf 8 (getV v))) ∧ Hid (Row wr (w.heap.size + 1 + 1) 85 (cellsOf 8 (fun _ => 0))) ∧ Hid (Below w.heap.size w wr)) (fun i _ => 8 - (intOf i).toNat)
      case atStart => exact ⟨0, by omega, rfl, HR0.out, HV.out, HR2.out, HB.out⟩
      case round =>
        clear HR0 HV HR2 HB
        obtain ⟨k, hk, rfl, HR0, HV, HR2, HB⟩ := hrel
        by_cases hlt : k < 8
        · have ek := HR0.out.cell (j := k) hlt
          have fk := HR0.out.free k
          have ev := HV.out.cell (j := k) hlt
          rw [bUp_at] at ek
          have HF := Lib.hid (HBF.out k)
          generalize f k = x at *
          generalize getV v k = y at *
          have hA := wA
          have hA' := wA'
          have lk : (k : Int) < 8 := by omega
          go_wp2_with fail
          go_region
          all_goals
            go_wp2
            go_roundw
            case rel => exact ⟨k + 1, by omega, by go_num, by have hq := (HR0.out.set (uA x y) hlt).drew; rw [bUp_next f b k _ HF.out] at hq; exact hq, (HV.out.other _ _ (by simp; omega)).drew, (HR2.out.other _ _ (by simp; omega)).drew, (HB.out.setCell (p := ⟨w.heap.size, k, none⟩) (by simp) _).drew⟩
            case measure => simp [intOf]; omega
        · have hk8 : k = 8 := by omega
          have HR8 : Hid (Row wr w.heap.size 85 (cellsOf 8 G)) := by unfold Hid; rw [HG.out, ← bUp_done]; rw [hk8] at HR0; exact HR0.out
          clear hk8 HBF HV
          go_wp2_with (first | (refine wpList_load_row rfl _ _ rfl w.heap.size rfl 85 (cellsOf 8 G) (0, 0) _ HR8.out Tryz.underlying85 rfl (H8.out _) ?_) | (refine wpList_store_row rfl _ _ _ rfl (w.heap.size + 1 + 1) (cellsOf 8 G) rfl rfl 85 _ HR2.out (H8.out _) (HE.out _ _) (HO8.out _) ?_))
          refine bodyPost_ret (v := .agg (cellsOf 8 G)) ?_ rfl ⟨rfl, ?_⟩
          · exact results_cell_row rfl _ _ (w.heap.size + 1 + 1) 85 _ (0, 0) _ rfl (setRow_heap _ _ _ _ _ _ HR2.out) Tryz.underlying85 rfl (H8.out _)
          · exact below_setRow HB.out (by omega) _
end Go.Proofs.YtfpofcfoeajkiaaGreat
/- Bytes that a call owns, told by their cells alone (a conversion's row bears a mark behind its end, so it is no owned row): append of one byte. -/
namespace Go.Proofs.YtfpofcfoeajkiaaGreat
open Go.RowKit
set_option linter.unusedVariables false
structure RowB (w : World) (B g cap : Nat) (l : List UInt8) : Prop where
  base : B ≤ g
  lt : g < w.heap.size
  len : l.length ≤ cap
  max : cap ≤ maxLen
  there : w.there g 0 cap
  cells : ∀ j (h : j < l.length), w.cell? ⟨g, j, none⟩ = some (.int .u8 (l[j]).toNat)
theorem RowB.same {w w' : World} {B g cap : Nat} {l : List UInt8} (h : RowB w B g cap l) (hs : w.heap.size ≤ w'.heap.size) (hb : w'.heap[g]? = w.heap[g]?) : RowB w' B g cap l :=
  ⟨h.base, Nat.lt_of_lt_of_le h.lt hs, h.len, h.max, fun j hj => ⟨by rw [World.cell?_of_block (a := ⟨g, 0 + j, none⟩) hb]; exact (h.there j hj).1, by rw [World.frozen?_of_block (a := ⟨g, 0 + j, none⟩) hb]; exact (h.there j hj).2⟩, fun j hj => (World.cell?_of_block (a := ⟨g, j, none⟩) hb).trans (h.cells j hj)⟩
theorem RowB.grown {w w' : World} {B g cap : Nat} {l : List UInt8} {row : Option Nat} (h : RowB w B g cap l) (hg : w.grownBy w' row) (hne : some g ≠ row) : RowB w' B g cap l := h.same hg.size (hg.block g h.lt hne)
theorem RowB.below {w w' : World} {C B g cap : Nat} {l : List UInt8} (h : RowB w B g cap l) (hb : Below C w w') (hg : g < C) : RowB w' B g cap l := h.same hb.size (hb.block g hg)
theorem RowB.alloc {w : World} {B g cap : Nat} {l : List UInt8} (h : RowB w B g cap l) (o : Obj) : RowB (w.alloc o) B g cap l :=
  h.same (by simp) (Lib.alloc_old w o g h.lt)
theorem RowB.at {w : World} {B g cap : Nat} {l : List UInt8} (h : RowB w B g cap l) (j : Nat) (hj : j < l.length) : w.cell? ⟨g, j, none⟩ = some (.int .u8 (l.getD j 0).toNat) := by
  rw [h.cells j hj, List.getD_eq_getElem?_getD, List.getElem?_eq_getElem hj]; rfl
/-- '[]byte(s)' -/
theorem RowB.made (w : World) (s : ByteArray) (hs : s.size ≤ 140737488351232) : ∃ (W2 : World) (cap : Nat), (convert 9 83 (.string s)).run Tryz.prog w = .ok (.slice (some ⟨w.heap.size, 0, none⟩) s.size cap) W2 ∧ RowB W2 w.heap.size w.heap.size cap s.data.toList ∧ Below w.heap.size w W2 := by
  have hnew := Lib.bytesWorld_at_new w 5 s
  have hge := grownCap_ge w s.size 0 5
  have hsz : (Lib.bytesCells w 5 s).size = grownCap w s.size 0 5 := by simp [Lib.bytesCells]; omega
  refine ⟨_, _, Lib.run_convert_string_bytes w _ _ 5 s Tryz.underlying9 Tryz.underlying83 Tryz.underlying5, ⟨Nat.le_refl _, by rw [Lib.bytesWorld_size]; omega, by simpa using hge, grownCap_le_maxLen w s.size 0 _ (by unfold maxLen; omega), fun j hj => ⟨?_, ?_⟩, fun j hj => ?_⟩, ⟨rfl, rfl, rfl, by rw [Lib.bytesWorld_size]; omega, fun i hi => Lib.bytesWorld_at_old _ _ _ _ hi⟩⟩
  · rw [Nat.zero_add, World.cell?, hnew]
    simp; omega
  · rw [Nat.zero_add]
    simp only [World.frozen?, hnew, Bool.and_eq_false_iff, decide_eq_false_iff_not]
    left; omega
  · rw [Lib.bytesWorld_cell _ _ _ _ (by simpa using hj)]
    simp only [List.getD_eq_getElem?_getD, List.getElem?_eq_getElem hj, Option.getD_some]
theorem RowB.append {P : Program} (w : World) (B g cap : Nat) (l : List UInt8) (t ty e : TypeId) (i : TypeInfo) (ht : P.underlying t = some (.slice e)) (hi : P.info? e = some i) (hz : i.zero = some (.int .u8 0)) (hs : i.size = 1) (hby : i.bytes = 1)
    (hr : RowB w B g cap l) (b2 c2 : Nat) (c : UInt8) (hc : w.cell? ⟨b2, 0, none⟩ = some (.int .u8 c.toNat)) (hn : l.length + 1 ≤ 140737488351232) (hB : B ≤ w.heap.size) :
    ∃ g' cap' w', (Builtin.append_ #[t, t] ty #[.slice (some ⟨g, 0, none⟩) l.length cap, .slice (some ⟨b2, 0, none⟩) 1 c2]).run P w = .ok (.slice (some ⟨g', 0, none⟩) (l.length + 1) cap') w' ∧ RowB w' B g' cap' (l ++ [c]) ∧ w.grownBy w' (some g) := by
  have hnews : ∀ j u, [Value.int .u8 c.toNat][j]? = some u → w.cell? ((⟨b2, 0, none⟩ : Addr).add j) = some u := by
    intro j u hj
    match j, hj with
    | 0, hj => simp at hj; subst hj; simpa [Addr.add] using hc
  have hget : ∀ j (h : j < (l ++ [c]).length), ((l ++ [c])[j]) = if h2 : j < l.length then l[j] else c := by
    intro j h
    by_cases h2 : j < l.length
    · rw [dif_pos h2, List.getElem_append_left h2]
    · rw [dif_neg h2, List.getElem_append_right (by omega)]; simp
  have hll : (l ++ [c]).length = l.length + 1 := by simp
  by_cases hroom : l.length + 1 ≤ cap
  · have hf := run_firstCells_some (P := P) w i.size 1 ⟨b2, 0, none⟩ 1 c2 [.int .u8 c.toNat] (by rw [hs]; rfl) hnews
    have ht0 := hr.there l.length (by omega)
    rw [Nat.zero_add] at ht0
    obtain ⟨x, hx⟩ := Option.isSome_iff_exists.1 ht0.1
    have hst : (storeCells ⟨g, l.length, none⟩ [.int .u8 c.toNat] 0).run P w = .ok () (w.setCell ⟨g, l.length, none⟩ (.int .u8 c.toNat)) := by
      simp only [storeCells, Sem.run_bind, Addr.add_mid, Nat.add_zero]
      rw [run_store P w _ _ _ rfl, hx]
      simp [ht0.2, Result.andThen]
    refine ⟨g, cap, w.setCell ⟨g, l.length, none⟩ (.int .u8 c.toNat), ?_, ⟨hr.base, by rw [World.size_setCell]; exact hr.lt, by rw [hll]; exact hroom, hr.max, fun j hj => ⟨?_, by rw [World.frozen?_setCell]; exact (hr.there j hj).2⟩, fun j hj => ?_⟩, ⟨rfl, rfl, rfl, by simp, fun k hk hne => heap_setCell_other w _ k _ (fun e => hne (by rw [e]))⟩⟩
    · simp [Builtin.append_, run_underlying ht, sizeOf, typeInfo, hi, hs, Builtin.lenOf, hroom, Addr.add_lit]
      rw [hs] at hf
      simp [hf, hst]
    · rw [Nat.zero_add]
      by_cases e : l.length = j
      · subst e; rw [World.cell?_setCell_same _ _ _ hx]; rfl
      · rw [World.cell?_setCell_other _ _ _ _ (by intro e'; injection e' with _ e'; omega)]
        have := (hr.there j hj).1; rw [Nat.zero_add] at this; exact this
    · rw [hget j hj]
      by_cases e : l.length = j
      · subst e; rw [dif_neg (by omega), World.cell?_setCell_same _ _ _ hx]
      · rw [dif_pos (by omega), World.cell?_setCell_other _ _ _ _ (by intro e'; injection e' with _ e'; omega)]
        exact hr.cells j (by omega)
  · have hcap : cap = l.length := by have := hr.len; omega
    have holds : ∀ j v, (Lib.byteCells l)[j]? = some v → w.cell? ((⟨g, 0, none⟩ : Addr).add j) = some v := by
      intro j v hj
      have hjl : j < l.length := by have := (List.getElem?_eq_some_iff.1 hj).1; rwa [Lib.byteCells_length] at this
      rw [Addr.add_mid, Nat.zero_add, hr.cells j hjl, ← hj]
      simp [Lib.byteCells, hjl]
    have hrun := run_append_grow (P := P) w t ty e i (.int .u8 0) ht hi hz ⟨g, 0, none⟩ l.length cap (Lib.byteCells l) (by rw [Lib.byteCells_length, hs]; omega) holds ⟨b2, 0, none⟩ 1 c2 [.int .u8 c.toNat] (by rw [hs]; rfl) hnews (by omega) (by omega) (growslice_fits (by omega) (by rw [hby]; omega))
    have hge := grownCap_ge w (l.length + 1) cap e
    have hmx := grownCap_le_maxLen w (l.length + 1) cap e (by unfold maxLen; omega)
    refine ⟨w.heap.size, _, _, hrun, ?_, ⟨rfl, rfl, rfl, by simp, fun k hk _ => Lib.alloc_old w.drew _ k hk⟩⟩
    generalize hC : ((Lib.byteCells l).toArray ++ [Value.int .u8 c.toNat].toArray ++ Builtin.zeroCells (Value.int .u8 0).cells (grownCap w (l.length + 1) cap e - (l.length + 1))) = C at *
    have hCs : C.size = grownCap w (l.length + 1) cap e := by
      rw [← hC]
      have hz1 : (Value.int IntKind.u8 0).cells.size = 1 := rfl
      simp only [Array.size_append, List.size_toArray, size_zeroCells, hz1, Lib.byteCells_length, List.length_cons, List.length_nil]
      omega
    have hh : (w.drew.alloc (.cells C e)).heap[w.heap.size]? = some (.cells C e (0, 0)) := heap_alloc_new w.drew _
    refine ⟨hB, by simp, by rw [hll]; exact hge, hmx, fun j hj => ⟨?_, Lib.frozen_of_heap hh _⟩, fun j hj => ?_⟩
    · rw [Nat.zero_add, Lib.cell_of_heap hh, Array.getElem?_eq_getElem (by omega)]; rfl
    · rw [Lib.cell_of_heap hh, hget j hj, ← hC, Array.getElem?_append, Array.getElem?_append]
      have s1 : (Lib.byteCells l).toArray.size = l.length := by rw [List.size_toArray, Lib.byteCells_length]
      have s2 : ((Lib.byteCells l).toArray ++ [Value.int .u8 c.toNat].toArray).size = l.length + 1 := by rw [Array.size_append, s1]; rfl
      rw [hll] at hj
      rw [s1, s2, if_pos hj]
      by_cases e2 : j < l.length
      · rw [if_pos e2, dif_pos e2]; simp [Lib.byteCells, e2]
      · rw [if_neg e2, dif_neg e2, show j - l.length = 0 by omega]; rfl
theorem RowB.wp {P : Program} {w : World} {ops : Array Oper} {rest : List Oper} {o : Oper} {a : Act} {Q : Exit → Act → World → Prop} (hgd : o.guard = none) (s x : Operand) (t : TypeId)
    (ho : o.op = .call { callee := .builtin .append, args := #[s, x], argTypes := #[t, t] }) (B g cap : Nat) (l : List UInt8) (e : TypeId) (i : TypeInfo) (ht : P.underlying t = some (.slice e)) (hi : P.info? e = some i) (hz : i.zero = some (.int .u8 0)) (hsz : i.size = 1) (hby : i.bytes = 1)
    (hs : a.eval s = .slice (some ⟨g, 0, none⟩) l.length cap) (hr : RowB w B g cap l) (b2 c2 : Nat) (c : UInt8) (hx : a.eval x = .slice (some ⟨b2, 0, none⟩) 1 c2) (hc : w.cell? ⟨b2, 0, none⟩ = some (.int .u8 c.toNat)) (hn : l.length + 1 ≤ 140737488351232) (hB : B ≤ w.heap.size)
    (h : ∀ g' cap' w', RowB w' B g' cap' (l ++ [c]) → w.grownBy w' (some g) → wpList P ops Q rest (a.put o.dst (.slice (some ⟨g', 0, none⟩) (l.length + 1) cap')) w') : wpList P ops Q (o :: rest) a w := by
  refine wpList_plain hgd fun K hK => ?_
  obtain ⟨g', cap', w', hrun, h2, h3⟩ := RowB.append (P := P) w B g cap l t o.type e i ht hi hz hsz hby hr b2 c2 c hc hn hB
  unfold Oper.wp execOp
  simp only [ho, resolve, invoke, builtin, Sem.run_bind, Sem.run_pure, Result.andThen_ok, List.map_toArray, List.map_cons, List.map_nil, hs, hx, hrun]
  exact hK _ _ (h g' cap' w' h2 h3)
end Go.Proofs.YtfpofcfoeajkiaaGreat
