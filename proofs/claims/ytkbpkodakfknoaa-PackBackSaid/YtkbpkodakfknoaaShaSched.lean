/- A block's words: the walks of schedule and words. -/
import Derived.Test.YtkbpkodakfknoaaShaMem
import Derived.BigRegion
import Derived.StillTailTactics
import Derived.Deep.QuietTactic
import Derived.BigQuiet
namespace Go.Proofs.Ytkbpkodakfknoaa
open Go.RowKit
set_option linter.unusedVariables false
/-- the words, byte by byte -/
def sch1 (b : List UInt8) : Nat → Nat → UInt32
  | 0 => fun _ => 0
  | k + 1 => upd (sch1 b k) (k / 4) (uO (sch1 b k (k / 4)) (uL (byteAt b k) (24 - 8 * (k % 4))))
theorem uL_nat (x : UInt32) (n : Nat) (h : n < 32) : (uL x n).toNat = x.toNat * 2 ^ n % 4294967296 := by
  unfold uL
  rw [UInt32.toNat_shiftLeft, Nat.shiftLeft_eq, UInt32.toNat_ofNat', Nat.mod_eq_of_lt (a := n) (by omega), Nat.mod_eq_of_lt h]
theorem shl8 (c : UInt8) (n : Nat) (h : n < 32) : (c.toNat : Int) % 4294967296 * 2 ^ n % 4294967296 = ((uL c.toUInt32 n).toNat : Int) := by
  rw [uL_nat _ _ h]
  have hc := c.toNat_lt
  have e : (c.toNat : Int) % 4294967296 = (c.toNat : Int) := by omega
  rw [e, UInt8.toNat_toUInt32, Int.natCast_emod, Int.natCast_mul, Int.natCast_pow]
  rfl
theorem run_index_u8 (B : Array Value) (k : Nat) (v : Value) (h : k < 64) (hg : B[k]? = some v) (W : World) : (Instr.index 77 (.agg B) (.int .i64 (k : Int))).run Try.prog W = .ok v W := by
  simp [Instr.index, run_underlying Try.underlying77, go_sem, h, hg]
theorem zero64 : (#[Value.int .u32 0, Value.int .u32 0, Value.int .u32 0, Value.int .u32 0, Value.int .u32 0, Value.int .u32 0, Value.int .u32 0, Value.int .u32 0, Value.int .u32 0, Value.int .u32 0, Value.int .u32 0, Value.int .u32 0, Value.int .u32 0, Value.int .u32 0, Value.int .u32 0, Value.int .u32 0, Value.int .u32 0, Value.int .u32 0, Value.int .u32 0, Value.int .u32 0, Value.int .u32 0, Value.int .u32 0, Value.int .u32 0, Value.int .u32 0, Value.int .u32 0, Value.int .u32 0, Value.int .u32 0, Value.int .u32 0, Value.int .u32 0, Value.int .u32 0, Value.int .u32 0, Value.int .u32 0, Value.int .u32 0, Value.int .u32 0, Value.int .u32 0, Value.int .u32 0, Value.int .u32 0, Value.int .u32 0, Value.int .u32 0, Value.int .u32 0, Value.int .u32 0, Value.int .u32 0, Value.int .u32 0, Value.int .u32 0, Value.int .u32 0, Value.int .u32 0, Value.int .u32 0, Value.int .u32 0, Value.int .u32 0, Value.int .u32 0, Value.int .u32 0, Value.int .u32 0, Value.int .u32 0, Value.int .u32 0, Value.int .u32 0, Value.int .u32 0, Value.int .u32 0, Value.int .u32 0, Value.int .u32 0, Value.int .u32 0, Value.int .u32 0, Value.int .u32 0, Value.int .u32 0, Value.int .u32 0] : Array Value) = cellsOf 64 (fun _ => 0) := by rfl
theorem cellsOf_one (n : Nat) (f : Nat → UInt32) : (cellsOf n f).all (·.oneCell') = true := by
  rw [Array.all_eq_true]
  intro i hi
  simp only [cellsOf, List.getElem_toArray, List.getElem_map]
  rfl
theorem below_setRow {B : Nat} {a w : World} (h : Below B a w) {g : Nat} (hg : B ≤ g) (cs : Array Value) : Below B a (w.setRow g cs) :=
  ⟨h.os, h.tape, h.output, by simpa [World.setRow] using h.size, fun i hi => (setRow_other w g i cs (by omega)).trans (h.block i hi)⟩
theorem rev {P : Program} {f : FuncId} {args : Array Value} {w : World} {v : Value} (h : Calls P f args w fun e w' => e = .returned v ∧ w = w') : Calls P f args w fun e w' => e = .returned v ∧ w' = w :=
  h.mono fun _ _ ⟨a, b⟩ => ⟨a, b.symm⟩
def pt (b : List UInt8) (j : Nat) : Nat → UInt32
  | 0 => 0
  | n + 1 => uO (pt b j n) (uL (byteAt b (4 * j + n)) (24 - 8 * n))
theorem pt4 (b : List UInt8) (j : Nat) : pt b j 4 = be4 b j := by
  have h0 : ∀ x, uO 0 x = x := fun x => UInt32.zero_or
  have h1 : ∀ x, uL x 0 = x := fun x => by unfold uL; simp
  simp only [pt, h0, Nat.mul_zero, Nat.sub_zero, Nat.add_zero, be4, Nat.reduceMul, Nat.reduceSub, h1]
theorem sch1_val (b : List UInt8) : ∀ k, ∀ j, sch1 b k j = pt b j (min 4 (k - 4 * j))
  | 0, j => by rw [show min 4 (0 - 4 * j) = 0 by omega]; rfl
  | k + 1, j => by
    rw [sch1]
    unfold upd
    by_cases h : j = k / 4
    · rw [if_pos h, ← h, sch1_val b k j, show min 4 (k - 4 * j) = k % 4 by omega, show min 4 (k + 1 - 4 * j) = k % 4 + 1 by omega, pt, show 4 * j + k % 4 = k by omega]
    · rw [if_neg h, sch1_val b k j]
      congr 1
      omega
def wUp (b : List UInt8) (k j : Nat) : UInt32 := if j < k then wAt b j else 0
theorem sch1_done (b : List UInt8) : cellsOf 64 (sch1 b 64) = cellsOf 64 (wUp b 16) := by
  apply cellsOf_congr
  intro j hj
  rw [sch1_val]
  unfold wUp
  by_cases h : j < 16
  · rw [if_pos h, show min 4 (64 - 4 * j) = 4 by omega, pt4, wAt_lo b j h]
  · rw [if_neg h, show min 4 (64 - 4 * j) = 0 by omega]; rfl
theorem wUp_next (b : List UInt8) (k : Nat) (v : UInt32) (h : v = wAt b k) : cellsOf 64 (upd (wUp b k) k v) = cellsOf 64 (wUp b (k + 1)) := by
  apply cellsOf_congr
  intro j hj
  unfold upd wUp
  by_cases h1 : j = k
  · subst h1; rw [if_pos rfl, if_pos (by omega), h]
  · rw [if_neg h1]
    by_cases h2 : j < k
    · rw [if_pos h2, if_pos (by omega)]
    · rw [if_neg h2, if_neg (by omega)]
theorem wUp_done (b : List UInt8) : cellsOf 64 (wUp b 64) = cellsOf 64 (wAt b) := by
  apply cellsOf_congr
  intro j hj
  unfold wUp; rw [if_pos hj]
theorem wUp_at (b : List UInt8) (k j : Nat) (h : j < k) : wUp b k j = wAt b j := by unfold wUp; rw [if_pos h]
/-- the next word, in the program's order of sums -/
theorem wAt_prog (b : List UInt8) (k : Nat) (h : 16 ≤ k) : uA (uA (uA (wAt b (k - 16)) (wAt b (k - 7))) (sg0 (wAt b (k - 15)))) (sg1 (wAt b (k - 2))) = wAt b k := by
  rw [wAt_hi b k h]
  congr 1
  rw [uA_assoc, uA_assoc, uA_comm (wAt b (k - 7))]
set_option maxRecDepth 20000 in
set_option maxHeartbeats 2000000 in
theorem schedule_any (b : List UInt8) (hb : b.length = 64) (w : World) :
    Calls Try.prog 79 #[.agg (bytesOf 64 fun i => b.getD i 0)] w fun e w' => e = .returned (.agg (cellsOf 64 (wAt b))) ∧ Below w.heap.size w w' := by
  have hi25 : (Try.prog.info? 77).map (·.size) = some 64 := by kernel_rfl
  obtain ⟨B, hB⟩ : ∃ B, B = bytesOf 64 (fun i => b.getD i 0) := ⟨_, rfl⟩
  have hBs : B.size = 64 := by rw [hB, bytesOf_size]
  have hR1 := (row_new w 77 B)
  rw [← hB]
  have HB := Lib.hid hB; clear hB
  have hld : (Try.prog.info? 77).map (·.size) = some B.size := by rw [hBs]; exact hi25
  have HR1 := Lib.hid hR1; clear hR1
  have HBs := Lib.hid hBs; clear hBs
  have HL := Lib.hid hld; clear hld hi25
  go_enter Try.func79, Try.ntmps79
  go_wp2_with (refine wpList_load_row rfl _ _ rfl w.heap.size rfl 77 B (0, 0) _ (HR1.out.alloc _) Try.underlying77 rfl HL.out ?_)
  rw [zero64]
  have hR2 := row_new (w.alloc (.cells B 77)) 88 (cellsOf 64 (fun _ => 0))
  rw [World.size_alloc] at hR2
  have hB2 := ((Below.refl w.heap.size w).alloc (Nat.le_refl _) (.cells B 77)).alloc (by simp) (.cells (cellsOf 64 (fun _ => 0)) 88)
  have HR2 := Lib.hid hR2; clear hR2
  have HB2 := Lib.hid hB2; clear hB2
  go_loopw [9] (fun i wr => ∃ k : Nat, k ≤ 64 ∧ i = .int .i64 k ∧ Hid (Row wr (w.heap.size + 1) 88 (cellsOf 64 (sch1 b k))) ∧ Hid (Below w.heap.size w wr)) (fun i _ => 64 - (intOf i).toNat)
  case atStart => exact ⟨0, by omega, rfl, HR2.out, HB2.out⟩
  case round =>
    obtain ⟨k, hk, rfl, HR, HW⟩ := hrel
    by_cases hlt : k < 64
    · have hq : k / 4 < 64 := by omega
      have e1 := HR.out.cell hq
      have f1 := HR.out.free (k / 4)
      have hgB : B[k]? = some (.int .u8 (b.getD k 0).toNat) := by rw [HB.out]; exact bytesOf_get (fun i => b.getD i 0) hlt
      have HN : Hid (sch1 b (k + 1) = upd (sch1 b k) (k / 4) (uO (sch1 b k (k / 4)) (uL (b.getD k 0).toUInt32 (24 - 8 * (k % 4))))) := rfl
      have hr4 : k % 4 < 4 := by omega
      have hsh := shl8 (b.getD k 0) (24 - 8 * (k % 4)) (by omega)
      have hor := wO (sch1 b k (k / 4)) (uL (b.getD k 0).toUInt32 (24 - 8 * (k % 4)))
      have r1 : (k : Int) / 4 = ((k / 4 : Nat) : Int) := by omega
      have r4 : (k : Int) % 4 = ((k % 4 : Nat) : Int) := by omega
      have hix := fun W => run_index_u8 B k _ hlt hgB W
      clear hgB
      generalize b.getD k 0 = c at *
      generalize uL c.toUInt32 (24 - 8 * (k % 4)) = s at *
      generalize hx : sch1 b k (k / 4) = x at *
      have HS := HR.out.set (uO x s) hq
      have HRn := Lib.hid HS; clear HS hx
      have HC := Lib.hid hr4; clear hr4
      generalize k / 4 = q at *
      generalize k % 4 = r at *
      have hr3 : r ≤ 3 := by have := HC.out; omega
      have r2 : (k : Int).tdiv 4 = (q : Int) := by rw [Int.tdiv_eq_ediv_of_nonneg (by omega)]; exact r1
      have r5 : (k : Int).tmod 4 = (r : Int) := by rw [Int.tmod_eq_emod_of_nonneg (by omega)]; exact r4
      have r3 : IntKind.i64.wrap (q : Int) = (q : Int) := IntWalk.i64_in _ (by omega)
      have r6 : IntKind.i64.wrap (8 * (r : Int)) = 8 * (r : Int) := IntWalk.i64_in _ (by omega)
      have r7 : IntKind.i64.wrap (24 - 8 * (r : Int)) = 24 - 8 * (r : Int) := IntWalk.i64_in _ (by omega)
      have b1 : (0 : Int) ≤ (q : Int) := by omega
      have b2 : (q : Int) < 64 := by omega
      go_wp2_with fail
      go_region
      have HWn := Lib.hid ((HW.out.setCell (p := ⟨w.heap.size + 1, q, none⟩) (by simp) (.int .u32 (uO x s).toNat)).drew)
      clear hsh hor e1 f1
      go_wp2
      go_roundw
      case rel => exact ⟨k + 1, by omega, by go_num, by rw [HN.out]; exact HRn.out.drew, HWn.out⟩
      case measure => simp [intOf]; omega
    · have HR16 : Hid (Row wr (w.heap.size + 1) 88 (cellsOf 64 (wUp b 16))) := by
        have h : k = 64 := by omega
        unfold Hid; rw [← sch1_done]; subst h; exact HR.out
      clear HR
      go_wp2_with fail
      obtain ⟨w1, hw1⟩ : ∃ w1 : World, w1 = wr := ⟨_, rfl⟩
      rw [← hw1] at HW HR16 ⊢
      clear hw1
      go_loopw [5] (fun i wr => ∃ k : Nat, 16 ≤ k ∧ k ≤ 64 ∧ i = .int .i64 k ∧ Hid (Row wr (w.heap.size + 1) 88 (cellsOf 64 (wUp b k))) ∧ Hid (Below w.heap.size w wr)) (fun i _ => 64 - (intOf i).toNat)
      case atStart => exact ⟨16, by omega, by omega, rfl, HR16.out, HW.out⟩
      case round =>
        obtain ⟨k, hk16, hk, rfl, HR, HV⟩ := hrel
        by_cases hlt : k < 64
        · have HP := Lib.hid (wAt_prog b k hk16)
          have e15 := HR.out.cell (j := k - 15) (by omega)
          have e2 := HR.out.cell (j := k - 2) (by omega)
          have e16 := HR.out.cell (j := k - 16) (by omega)
          have e7 := HR.out.cell (j := k - 7) (by omega)
          have ek := HR.out.cell (j := k) (by omega)
          have fk := HR.out.free k
          rw [wUp_at b k (k - 15) (by omega)] at e15
          rw [wUp_at b k (k - 2) (by omega)] at e2
          rw [wUp_at b k (k - 16) (by omega)] at e16
          rw [wUp_at b k (k - 7) (by omega)] at e7
          generalize wAt b (k - 15) = x at *
          generalize wAt b (k - 2) = y at *
          generalize wAt b (k - 16) = p at *
          generalize wAt b (k - 7) = q at *
          generalize wUp b k k = z at *
          have i15 : (k : Int) - 15 = ((k - 15 : Nat) : Int) := by omega
          have i2 : (k : Int) - 2 = ((k - 2 : Nat) : Int) := by omega
          have i16 : (k : Int) - 16 = ((k - 16 : Nat) : Int) := by omega
          have i7 : (k : Int) - 7 = ((k - 7 : Nat) : Int) := by omega
          have w15 : IntKind.i64.wrap ((k - 15 : Nat) : Int) = ((k - 15 : Nat) : Int) := IntWalk.i64_in _ (by omega)
          have w2 : IntKind.i64.wrap ((k - 2 : Nat) : Int) = ((k - 2 : Nat) : Int) := IntWalk.i64_in _ (by omega)
          have w16 : IntKind.i64.wrap ((k - 16 : Nat) : Int) = ((k - 16 : Nat) : Int) := IntWalk.i64_in _ (by omega)
          have w7 : IntKind.i64.wrap ((k - 7 : Nat) : Int) = ((k - 7 : Nat) : Int) := IntWalk.i64_in _ (by omega)
          have l15 : ((k - 15 : Nat) : Int) < 64 := by omega
          have l2 : ((k - 2 : Nat) : Int) < 64 := by omega
          have l16 : ((k - 16 : Nat) : Int) < 64 := by omega
          have l7 : ((k - 7 : Nat) : Int) < 64 := by omega
          have lk : (k : Int) < 64 := by omega
          have hX := wX
          have hA := wA
          have hA' := wA'
          have hR3 := wR3
          have hR10 := wR10
          go_wp2_with fail
          go_quiet (fail)
          go_wp2_with fail
          have e16' : (wr.drewN nq).drew.cell? ⟨w.heap.size + 1, k - 16, none⟩ = some (.int .u32 p.toNat) := e16
          have e7' : (wr.drewN nq).drew.cell? ⟨w.heap.size + 1, k - 7, none⟩ = some (.int .u32 q.toNat) := e7
          have ek' : (wr.drewN nq).drew.cell? ⟨w.heap.size + 1, k, none⟩ = some (.int .u32 z.toNat) := ek
          have fk' : (wr.drewN nq).drew.frozen? ⟨w.heap.size + 1, k, none⟩ = false := fk
          have HRd : Hid (Row (wr.drewN nq).drew (w.heap.size + 1) 88 (cellsOf 64 (wUp b k))) := HR.out
          have HVd : Hid (Below w.heap.size w (wr.drewN nq).drew) := (Below.drewN HV.out nq).drew
          clear e16 e7 e15 e2 ek fk HR HV
          refine wp_region_still_tail 29 (by kernel_rfl) (by kernel_rfl) ?_
          simp only [List.take_succ_cons, List.take_zero, List.drop_succ_cons, List.drop_zero]
          change wpStill _ _ (wr.drewN nq).drew _ _ _
          obtain ⟨w3, hw3⟩ : ∃ w3, w3 = (wr.drewN nq).drew := ⟨_, rfl⟩
          rw [← hw3] at e16' e7' ek' fk' HRd HVd ⊢
          have HW3 := Lib.hid hw3; clear hw3
          repeat still_step
          still_call (rev (down7_any _ _))
          repeat still_step
          still_call (rev (down18_any _ _))
          repeat still_step
          still_call (rev (down17_any _ _))
          repeat still_step
          still_call (rev (down19_any _ _))
          repeat still_step
          refine wpStill_nil ?_
          change wpList _ _ _ _ _ (wr.drewN nq).drew
          rw [← HW3.out]
          go_wp2
          go_roundw
          case rel => exact ⟨k + 1, by omega, by omega, by go_num, by have h := HRd.out.set (uA (uA (uA p q) (sg0 x)) (sg1 y)) hlt; rw [wUp_next b k _ HP.out] at h; exact h, HVd.out.setCell (p := ⟨w.heap.size + 1, k, none⟩) (by simp) _⟩
          case measure => simp [intOf]; omega
        · obtain rfl : k = 64 := by omega
          have HR64 : Hid (Row wr (w.heap.size + 1) 88 (cellsOf 64 (wAt b))) := by unfold Hid; rw [← wUp_done]; exact HR.out
          have HLd : Hid ((Try.prog.info? 88).map (·.size) = some (cellsOf 64 (wAt b)).size) := by unfold Hid; rw [cellsOf_size]; kernel_rfl
          have HO : Hid ((cellsOf 64 (wAt b)).all (·.oneCell') = true) := cellsOf_one _ _
          go_wp2_with (first | (refine wpList_load_row rfl _ _ rfl (w.heap.size + 1) rfl 88 (cellsOf 64 (wAt b)) (0, 0) _ HR64.out Try.underlying88 rfl HLd.out ?_) | (refine wpList_store_row rfl _ _ _ rfl (w.heap.size + 1) (cellsOf 64 (wAt b)) rfl rfl 88 _ HR64.out HLd.out rfl HO.out ?_))
          refine bodyPost_ret (v := .agg (cellsOf 64 (wAt b))) ?_ rfl ⟨rfl, ?_⟩
          · exact results_cell_row rfl _ _ (w.heap.size + 1) 88 _ (0, 0) _ rfl (setRow_heap _ _ _ _ _ _ HR64.out) Try.underlying88 rfl HLd.out
          · exact below_setRow HV.out (by omega) _
end Go.Proofs.Ytkbpkodakfknoaa
