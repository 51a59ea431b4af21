/- A block: the program's walk. -/
import Derived.Test.YtkbpkodakfknoaaShaWords
import Derived.Test.YtkbpkodakfknoaaShaConst
namespace Go.Proofs.Ytkbpkodakfknoaa
open Go.RowKit
set_option linter.unusedVariables false
theorem index_words (B : Array Value) (k : Nat) (v : Value) (h : k < 64) (hg : B[k]? = some v) (W : World) : (Instr.index 88 (.agg B) (.int .i64 (k : Int))).run Try.prog W = .ok v W := by
  simp [Instr.index, run_underlying Try.underlying88, go_sem, h, hg]
theorem index_eight (B : Array Value) (k : Nat) (v : Value) (h : k < 8) (hg : B[k]? = some v) (W : World) : (Instr.index 74 (.agg B) (.int .i64 (k : Int))).run Try.prog W = .ok v W := by
  simp [Instr.index, run_underlying Try.underlying74, go_sem, h, hg]
theorem zero8 : (#[Value.int .u32 0, Value.int .u32 0, Value.int .u32 0, Value.int .u32 0, Value.int .u32 0, Value.int .u32 0, Value.int .u32 0, Value.int .u32 0] : Array Value) = cellsOf 8 (fun _ => 0) := by rfl
theorem eight (v : V8) : (#[Value.int .u32 v.a.toNat, Value.int .u32 v.b.toNat, Value.int .u32 v.c.toNat, Value.int .u32 v.d.toNat, Value.int .u32 v.e.toNat, Value.int .u32 v.f.toNat, Value.int .u32 v.g.toNat, Value.int .u32 v.h.toNat] : Array Value) = cellsOf 8 (getV v) := by rfl
def bUp (f : Nat → UInt32) (b : List UInt8) (k i : Nat) : UInt32 := if i < k then blockF f b i else f i
theorem bUp_zero (f : Nat → UInt32) (b : List UInt8) : cellsOf 8 (bUp f b 0) = cellsOf 8 f := cellsOf_congr fun j _ => by unfold bUp; rw [if_neg (by omega)]
theorem bUp_done (f : Nat → UInt32) (b : List UInt8) : cellsOf 8 (bUp f b 8) = cellsOf 8 (blockF f b) := cellsOf_congr fun j hj => by unfold bUp; rw [if_pos hj]
theorem bUp_next (f : Nat → UInt32) (b : List UInt8) (k : Nat) (v : UInt32) (h : v = blockF f b k) : cellsOf 8 (upd (bUp f b k) k v) = cellsOf 8 (bUp f b (k + 1)) := by
  apply cellsOf_congr
  intro j hj
  unfold upd bUp
  by_cases h1 : j = k
  · subst h1; rw [if_pos rfl, if_pos (by omega), h]
  · rw [if_neg h1]
    by_cases h2 : j < k
    · rw [if_pos h2, if_pos (by omega)]
    · rw [if_neg h2, if_neg (by omega)]
theorem bUp_at (f : Nat → UInt32) (b : List UInt8) (k : Nat) : bUp f b k k = f k := by unfold bUp; rw [if_neg (by omega)]
/-- a round's slots -/
def Slots (v : V8) (a b c d e f g h : Value) : Prop := a = .int .u32 v.a.toNat ∧ b = .int .u32 v.b.toNat ∧ c = .int .u32 v.c.toNat ∧ d = .int .u32 v.d.toNat ∧ e = .int .u32 v.e.toNat ∧ f = .int .u32 v.f.toNat ∧ g = .int .u32 v.g.toNat ∧ h = .int .u32 v.h.toNat
def word (x : UInt32) : Value := .int .u32 x.toNat
theorem step_a (a b c d e f g h k w : UInt32) : uA (uA (uA (uA (uA h (uX (uX (rotr e 6) (rotr e 11)) (rotr e 25))) (uX g (uN e (uX f g)))) k) w) (uA (uX (uX (rotr a 2) (rotr a 13)) (rotr a 22)) (uO (uN a b) (uN c (uO a b)))) = (step8 ⟨a, b, c, d, e, f, g, h⟩ k w).a := by
  rw [bit_ch, bit_maj, ← uA_assoc]; rfl
theorem step_e (a b c d e f g h k w : UInt32) : uA d (uA (uA (uA (uA h (uX (uX (rotr e 6) (rotr e 11)) (rotr e 25))) (uX g (uN e (uX f g)))) k) w) = (step8 ⟨a, b, c, d, e, f, g, h⟩ k w).e := by
  rw [bit_ch]; rfl
set_option maxRecDepth 20000 in
set_option maxHeartbeats 8000000 in
theorem block_any (f : Nat → UInt32) (b : List UInt8) (hb : b.length = 64) (w : World) :
    Calls Try.prog 77 #[.agg (cellsOf 8 f), .agg (bytesOf 64 fun i => b.getD i 0)] w fun e w' => e = .returned (.agg (cellsOf 8 (blockF f b))) ∧ Below w.heap.size w w' := by
  obtain ⟨G, hG⟩ : ∃ G, G = blockF f b := ⟨_, rfl⟩
  rw [← hG]
  have HG := Lib.hid hG; clear hG
  have hs := fun w => schedule_any b hb w
  obtain ⟨B, hB⟩ : ∃ B, B = bytesOf 64 (fun i => b.getD i 0) := ⟨_, rfl⟩
  rw [← hB]
  have hBs : B.size = 64 := by rw [hB, bytesOf_size]
  rw [← hB] at hs
  have HS := Lib.hid hs; clear hs hB
  have hLB : (Try.prog.info? 77).map (·.size) = some B.size := by rw [hBs]; kernel_rfl
  have HLB := Lib.hid hLB; clear hLB hBs
  have h8 : ∀ g, (Try.prog.info? 75).map (·.size) = some (cellsOf 8 g).size := by intro g; rw [cellsOf_size]; kernel_rfl
  have H8 := Lib.hid h8; clear h8
  have h64 : ∀ g, (Try.prog.info? 88).map (·.size) = some (cellsOf 64 g).size := by intro g; rw [cellsOf_size]; kernel_rfl
  have H64 := Lib.hid h64; clear h64
  obtain ⟨A, hA⟩ : ∃ A, A = cellsOf 8 f := ⟨_, rfl⟩
  rw [← hA]
  have hR0 := ((row_new w 75 A).alloc (.cells B 77)).alloc (.cells (cellsOf 8 (fun _ => 0)) 75)
  have hR1 := (row_new (w.alloc (.cells A 75)) 77 B).alloc (.cells (cellsOf 8 (fun _ => 0)) 75)
  have hR2 := row_new ((w.alloc (.cells A 75)).alloc (.cells B 77)) 75 (cellsOf 8 (fun _ => 0))
  simp only [World.size_alloc] at hR1 hR2
  have HR0 := Lib.hid hR0; clear hR0
  have HR1 := Lib.hid hR1; clear hR1
  have HR2 := Lib.hid hR2; clear hR2
  have HB0 := Lib.hid ((((Below.refl w.heap.size w).alloc (Nat.le_refl _) (.cells A 75)).alloc (by simp) (.cells B 77)).alloc (by simp; omega) (.cells (cellsOf 8 (fun _ => 0)) 75))
  have HAA := Lib.hid hA; clear hA
  go_enter Try.func77, Try.ntmps77
  go_wp2_with fail
  rw [zero8]
  obtain ⟨w0, hw0⟩ : ∃ w0, w0 = (((w.alloc (.cells A 75)).alloc (.cells B 77)).alloc (.cells (cellsOf 8 (fun _ => 0)) 75)) := ⟨_, rfl⟩
  have hz0 : w0.heap.size = w.heap.size + 3 := by rw [hw0]; simp
  rw [← hw0] at HR0 HR1 HR2 HB0 ⊢
  clear hw0
  have HZ0 := Lib.hid hz0
  refine (constants_any _).mono ?_
  rintro e w1 ⟨rfl, b1⟩
  have hz1 : w.heap.size + 3 ≤ w1.heap.size := by have := b1.size; omega
  have HR0 := Lib.hid (HR0.out.below b1 (by omega))
  have HR1 := Lib.hid (HR1.out.below b1 (by omega))
  have HR2 := Lib.hid (HR2.out.below b1 (by omega))
  have HB1 := Lib.hid (HB0.out.trans (b1.mono (by omega)))
  clear b1 hz0
  have HN := Lib.hid (row_new w1 88 (cellsOf 64 (fun _ => 0)))
  have HO : Hid ((cellsOf 64 shaK).all (·.oneCell') = true) := cellsOf_one _ _
  go_wp2_with (rw [zero64]; refine wpList_store_row rfl _ _ _ rfl w1.heap.size (cellsOf 64 shaK) rfl rfl 88 _ HN.out (H64.out _) rfl HO.out ?_)
  have hK := setRow_heap _ _ _ (cellsOf 64 shaK) _ _ HN.out
  have hR0 : Row ((w1.alloc (.cells (cellsOf 64 (fun _ => 0)) 88)).setRow w1.heap.size (cellsOf 64 shaK)) w.heap.size 75 A := (setRow_other _ _ _ _ (by omega)).trans (HR0.out.alloc _)
  have hR1 : Row ((w1.alloc (.cells (cellsOf 64 (fun _ => 0)) 88)).setRow w1.heap.size (cellsOf 64 shaK)) (w.heap.size + 1) 77 B := (setRow_other _ _ _ _ (by omega)).trans (HR1.out.alloc _)
  have hR2 : Row ((w1.alloc (.cells (cellsOf 64 (fun _ => 0)) 88)).setRow w1.heap.size (cellsOf 64 shaK)) (w.heap.size + 1 + 1) 75 (cellsOf 8 (fun _ => 0)) := (setRow_other _ _ _ _ (by omega)).trans (HR2.out.alloc _)
  have hB2 : Below w.heap.size w ((w1.alloc (.cells (cellsOf 64 (fun _ => 0)) 88)).setRow w1.heap.size (cellsOf 64 shaK)) := below_setRow (HB1.out.alloc (by omega) _) (by omega) _
  have hsz2 : w1.heap.size < ((w1.alloc (.cells (cellsOf 64 (fun _ => 0)) 88)).setRow w1.heap.size (cellsOf 64 shaK)).heap.size := (show Row _ _ _ _ from hK).lt
  obtain ⟨w2, hw2⟩ : ∃ w2, w2 = ((w1.alloc (.cells (cellsOf 64 (fun _ => 0)) 88)).setRow w1.heap.size (cellsOf 64 shaK)) := ⟨_, rfl⟩
  rw [← hw2] at hK hR0 hR1 hR2 hB2 hsz2 ⊢
  clear hw2 HR0 HR1 HR2 HB1 HN HZ0 HB0 HO
  have hR0 : Row w2 w.heap.size 75 (cellsOf 8 f) := by rw [← HAA.out]; exact hR0
  have e0 := hR0.cell (j := 0) (by decide)
  have e1 := hR0.cell (j := 1) (by decide)
  have e2 := hR0.cell (j := 2) (by decide)
  have e3 := hR0.cell (j := 3) (by decide)
  have e4 := hR0.cell (j := 4) (by decide)
  have e5 := hR0.cell (j := 5) (by decide)
  have e6 := hR0.cell (j := 6) (by decide)
  have e7 := hR0.cell (j := 7) (by decide)
  have HK : Hid (Row w2 w1.heap.size 88 (cellsOf 64 shaK)) := hK
  have HR0 := Lib.hid hR0
  have HR1 := Lib.hid hR1
  have HR2 := Lib.hid hR2
  have HB2 := Lib.hid hB2
  clear hR0 hR1 hR2 hB2 hK
  go_quiet (fail)
  clear e0 e1 e2 e3 e4 e5 e6 e7
  have HR0 : Hid (Row (w2.drewN nq) w.heap.size 75 (cellsOf 8 f)) := HR0.out
  have HR1 : Hid (Row (w2.drewN nq) (w.heap.size + 1) 77 B) := HR1.out
  have HR2 : Hid (Row (w2.drewN nq) (w.heap.size + 1 + 1) 75 (cellsOf 8 (fun _ => 0))) := HR2.out
  have HK : Hid (Row (w2.drewN nq) w1.heap.size 88 (cellsOf 64 shaK)) := HK.out
  have HB2 : Hid (Below w.heap.size w (w2.drewN nq)) := Below.drewN HB2.out nq
  have hsz2 : w1.heap.size < (w2.drewN nq).heap.size := hsz2
  obtain ⟨w3, hw3⟩ : ∃ w3, w3 = w2.drewN nq := ⟨_, rfl⟩
  rw [← hw3] at HR0 HR1 HR2 HK HB2 hsz2 ⊢
  clear hw3
  go_wp2_with (refine wpList_load_row rfl _ _ rfl (w.heap.size + 1) rfl 77 B (0, 0) _ HR1.out Try.underlying77 rfl HLB.out ?_)
  refine (HS.out _).mono ?_
  rintro e w4 ⟨rfl, b4⟩
  have HR0 := Lib.hid (HR0.out.below b4 (by omega))
  have HR2 := Lib.hid (HR2.out.below b4 (by omega))
  have HK := Lib.hid (HK.out.below b4 hsz2)
  have HB4 := Lib.hid (HB2.out.trans (b4.mono (by omega)))
  have hm1 : w.heap.size + 3 ≤ w1.heap.size := hz1
  clear b4 hsz2
  generalize w1.heap.size = m at *
  clear HR1 HB2
  go_wp2_with fail
  have hv0 : Slots (ofF f) (.int .u32 (f 0).toNat) (.int .u32 (f 1).toNat) (.int .u32 (f 2).toNat) (.int .u32 (f 3).toNat) (.int .u32 (f 4).toNat) (.int .u32 (f 5).toNat) (.int .u32 (f 6).toNat) (.int .u32 (f 7).toNat) := ⟨rfl, rfl, rfl, rfl, rfl, rfl, rfl, rfl⟩
  go_loopw [6, 7, 8, 9, 10, 11, 12, 13, 39] (fun a1 a2 a3 a4 a5 a6 a7 a8 i wr => ∃ k : Nat, k ≤ 64 ∧ i = .int .i64 k ∧ Slots (rounds8 (ofF f) b k) a1 a2 a3 a4 a5 a6 a7 a8 ∧ Hid (∃ n, wr = w4.drewN n)) (fun _ _ _ _ _ _ _ _ i _ => 64 - (intOf i).toNat)
  case atStart => exact ⟨0, by omega, rfl, hv0, ⟨0, rfl⟩⟩
  case round =>
    obtain ⟨k, hk, rfl, ⟨rfl, rfl, rfl, rfl, rfl, rfl, rfl, rfl⟩, HW⟩ := hrel
    by_cases hlt : k < 64
    · have HNx : Hid (rounds8 (ofF f) b (k + 1) = step8 (rounds8 (ofF f) b k) (shaK k) (wAt b k)) := rfl
      have ek : wr.cell? ⟨m, k, none⟩ = some (.int .u32 (shaK k).toNat) := by obtain ⟨n, rfl⟩ := HW.out; exact HK.out.cell hlt
      have hix := fun W => index_words (cellsOf 64 (wAt b)) k _ hlt (cellsOf_get (wAt b) hlt) W
      generalize cellsOf 64 (wAt b) = D at *
      generalize rounds8 (ofF f) b k = v at *
      generalize shaK k = kk at *
      generalize wAt b k = ww at *
      obtain ⟨a, bb, c, d, e, ff, g, h⟩ := v
      have hX := wX
      have hA := wA
      have hA' := wA'
      have hN := wN
      have hO := wO
      have lk : (k : Int) < 64 := by omega
      dsimp only at *
      go_wp2_with fail
      refine wp_region_quiet_lit (by kernel_rfl) (by kernel_rfl) ?_
      repeat (go_big_quiet_step (fail))
      go_big_quiet_step (exact quiet_same (down6_any _ _))
      repeat (go_big_quiet_step (fail))
      go_big_quiet_step (exact quiet_same (down11_any _ _))
      repeat (go_big_quiet_step (fail))
      go_big_quiet_step (exact quiet_same (down25_any _ _))
      repeat (go_big_quiet_step (fail))
      refine wpQuiet_nil ?_
      intro _ hw'
      obtain ⟨nq, hw''⟩ := hw'
      subst hw''
      go_wp2_with fail
      refine (down2_any _ _).mono ?_
      rintro e w' ⟨rfl, rfl⟩
      go_wp2_with fail
      refine (down13_any _ _).mono ?_
      rintro e w' ⟨rfl, rfl⟩
      go_wp2_with fail
      refine (down22_any _ _).mono ?_
      rintro e w' ⟨rfl, rfl⟩
      go_wp2
      go_roundw
      case rel => exact ⟨k + 1, by omega, by go_num, by rw [HNx.out]; exact ⟨congrArg word (step_a a bb c d e ff g h kk ww), rfl, rfl, rfl, congrArg word (step_e a bb c d e ff g h kk ww), rfl, rfl, rfl⟩, by obtain ⟨n, rfl⟩ := HW.out; exact ⟨_, World.drewN_drewN _ _ _⟩⟩
      case measure => simp [intOf]; omega
    · have hk64 : k = 64 := by omega
      have HV : Hid (rounds8 (ofF f) b k = rounds8 (ofF f) b 64) := by unfold Hid; rw [hk64]
      have HR0 : Hid (Row wr w.heap.size 75 (cellsOf 8 (bUp f b 0))) := by unfold Hid; rw [bUp_zero]; obtain ⟨n, rfl⟩ := HW.out; exact HR0.out
      have HR2 : Hid (Row wr (w.heap.size + 1 + 1) 75 (cellsOf 8 (fun _ => 0))) := by obtain ⟨n, rfl⟩ := HW.out; exact HR2.out
      have HB5 : Hid (Below w.heap.size w wr) := by obtain ⟨n, rfl⟩ := HW.out; exact Below.drewN HB4.out n
      have HBF : Hid (∀ i, uA (f i) (getV (rounds8 (ofF f) b k) i) = blockF f b i) := fun i => by rw [HV.out]; rfl
      clear HW hk64
      generalize rounds8 (ofF f) b k = v at *
      go_wp2_with fail
      rw [eight v]
      obtain ⟨w5, hw5⟩ : ∃ w5 : World, w5 = wr := ⟨_, rfl⟩
      rw [← hw5] at HR0 HR2 HB5 ⊢
      clear hw5
      obtain ⟨D, hD⟩ : ∃ D, D = cellsOf 8 (getV v) := ⟨_, rfl⟩
      rw [← hD]
      have HD := Lib.hid hD; clear hD
      go_loopw [107] (fun i wr => ∃ k : Nat, k ≤ 8 ∧ i = .int .i64 k ∧ Hid (Row wr w.heap.size 75 (cellsOf 8 (bUp f b k))) ∧ Hid (Row wr (w.heap.size + 1 + 1) 75 (cellsOf 8 (fun _ => 0))) ∧ Hid (Below w.heap.size w wr)) (fun i _ => 8 - (intOf i).toNat)
      case atStart => exact ⟨0, by omega, rfl, HR0.out, HR2.out, HB5.out⟩
      case round =>
        obtain ⟨k, hk, rfl, HR0, HR2, HB5⟩ := hrel
        by_cases hlt : k < 8
        · have ek := HR0.out.cell (j := k) hlt
          have fk := HR0.out.free k
          rw [bUp_at] at ek
          have hgB : D[k]? = some (.int .u32 (getV v k).toNat) := by rw [HD.out]; exact cellsOf_get _ hlt
          have hix := fun W => index_eight D k _ hlt hgB W
          clear hgB
          have HF := Lib.hid (HBF.out k)
          generalize f k = x at *
          generalize getV v k = y at *
          have hA := wA
          have hA' := wA'
          have lk : (k : Int) < 8 := by omega
          go_wp2
          go_roundw
          case rel => exact ⟨k + 1, by omega, by go_num, by have h := HR0.out.set (uA x y) hlt; rw [bUp_next f b k _ HF.out] at h; exact h, HR2.out.other _ _ (by simp; omega), HB5.out.setCell (p := ⟨w.heap.size, k, none⟩) (by simp) _⟩
          case measure => simp [intOf]; omega
        · have hk8 : k = 8 := by omega
          have HR8 : Hid (Row wr w.heap.size 75 (cellsOf 8 G)) := by unfold Hid; rw [HG.out, ← bUp_done]; rw [hk8] at HR0; exact HR0.out
          clear hk8
          have HO : Hid ((cellsOf 8 G).all (·.oneCell') = true) := cellsOf_one _ _
          have HE : Hid ((cellsOf 8 (fun _ => 0)).size = (cellsOf 8 G).size) := by unfold Hid; rw [cellsOf_size, cellsOf_size]
          clear HBF HD HK HV
          go_wp2_with (first | (refine wpList_load_row rfl _ _ rfl w.heap.size rfl 75 (cellsOf 8 G) (0, 0) _ HR8.out Try.underlying75 rfl (H8.out _) ?_) | (refine wpList_store_row rfl _ _ _ rfl (w.heap.size + 1 + 1) (cellsOf 8 G) rfl rfl 75 _ HR2.out (H8.out _) HE.out HO.out ?_))
          refine bodyPost_ret (v := .agg (cellsOf 8 G)) ?_ rfl ⟨rfl, ?_⟩
          · exact results_cell_row rfl _ _ (w.heap.size + 1 + 1) 75 _ (0, 0) _ rfl (setRow_heap _ _ _ _ _ _ HR2.out) Try.underlying75 rfl (H8.out _)
          · exact below_setRow HB5.out (by omega) _
end Go.Proofs.Ytkbpkodakfknoaa
