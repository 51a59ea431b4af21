/- ShaPads: its walk. -/
import Derived.Test.YtclmnekadlpfkaaShaAwake
import Derived.Test.YtclmnekadlpfkaaShaRefBlock
import Derived.Test.YtclmnekadlpfkaaShaRefSum
import Derived.Test.YtclmnekadlpfkaaShaPads
import Derived.Test.YtclmnekadlpfkaaShaEq
import Derived.Deep.RegionHeld3
import Derived.Lib.BufferWrite
import Derived.Lib.SlBuf
namespace Go.Proofs.Ytclmnekadlpfkaa
open Go.RowKit
set_option linter.unusedVariables false
set_option linter.unusedSimpArgs false
theorem copy_row (s : ByteArray) (hs : s.size ≤ 64) : ((bytesOf 64 (fun _ => 0)).toList.take 0 ++ Lib.byteCells s.data.toList ++ (bytesOf 64 (fun _ => 0)).toList.drop (0 + s.size)).toArray = bytesOf 64 (fun i => s.data.toList.getD i 0) := by
  have hl : s.data.toList.length = s.size := by simp
  rw [← hl] at hs ⊢
  generalize s.data.toList = l at *
  clear hl
  unfold bytesOf Lib.byteCells
  congr 1
  simp only [List.take_zero, List.nil_append, Nat.zero_add]
  apply List.ext_getElem
  · simp; omega
  · intro i h1 h2
    rw [List.getElem_map, List.getElem_range]
    by_cases h : i < l.length
    · rw [List.getElem_append_left (by simpa using h), List.getElem_map, List.getD_eq_getElem?_getD, List.getElem?_eq_getElem h]
      rfl
    · rw [List.getElem_append_right (by simpa using Nat.le_of_not_lt h), List.getElem_drop, List.getD_eq_getElem?_getD, List.getElem?_eq_none (Nat.le_of_not_lt h)]
      simp
theorem padded (s : ByteArray) (h : s.size ≤ 55) (v w : UInt8) : updB (updB (updB (fun i => s.data.toList.getD i 0) s.size 128) 62 v) 63 w = fun i => (s.data.toList ++ [128] ++ List.replicate (61 - s.data.toList.length) 0 ++ [v, w]).getD i 0 := by
  have hl : s.data.toList.length = s.size := by simp
  rw [← hl] at h ⊢
  generalize s.data.toList = l at *
  clear hl
  funext i
  unfold updB
  simp only [List.getD_eq_getElem?_getD, List.append_assoc]
  by_cases h1 : i < l.length
  · rw [if_neg (by omega), if_neg (by omega), if_neg (by omega), List.getElem?_append_left h1]
  rw [List.getElem?_append_right (by omega)]
  by_cases h2 : i = l.length
  · rw [if_neg (by omega), if_neg (by omega), if_pos h2, h2]
    simp
  rw [List.getElem?_append_right (by simp; omega)]
  by_cases h3 : i < 62
  · rw [if_neg (by omega), if_neg (by omega), if_neg h2, List.getElem?_append_left (by simp; omega), List.getElem?_eq_none (by omega), List.getElem?_replicate, if_pos (by simp; omega)]
    rfl
  rw [List.getElem?_append_right (by simp; omega)]
  by_cases h4 : i = 62
  · subst h4
    rw [if_neg (by omega), if_pos rfl, show 62 - l.length - [(128 : UInt8)].length - (List.replicate (61 - l.length) (0 : UInt8)).length = 0 by simp; omega]
    rfl
  by_cases h5 : i = 63
  · subst h5
    rw [if_pos rfl, show 63 - l.length - [(128 : UInt8)].length - (List.replicate (61 - l.length) (0 : UInt8)).length = 1 by simp; omega]
    rfl
  rw [if_neg h5, if_neg h4, if_neg h2, List.getElem?_eq_none (by omega), List.getElem?_eq_none (by simp; omega)]
def endF (i : Nat) : UInt8 := if i = 0 then 128 else if i = 62 then 2 else 0
theorem bytesOf_one (n : Nat) (f : Nat → UInt8) : (bytesOf n f).all (·.oneCell') = true := by
  rw [Array.all_eq_true]
  intro i hi
  simp only [bytesOf, List.getElem_toArray, List.getElem_map]
  rfl
structure PadS (b0 b1 b2 : Nat) (X Y Z : Array Value) (w : World) : Prop where
  x : w.rangeAt b0 0 X.toList
  y : w.rangeAt b1 0 Y.toList
  z : w.rangeAt b2 0 Z.toList
  h0 : b0 < w.heap.size
  h1 : b1 < w.heap.size
  h2 : b2 < w.heap.size
theorem PadS.below {b0 b1 b2 : Nat} {X Y Z : Array Value} {w w' : World} (h : PadS b0 b1 b2 X Y Z w) (b : Below w.heap.size w w') : PadS b0 b1 b2 X Y Z w' :=
  ⟨range_below h.x b h.h0, range_below h.y b h.h1, range_below h.z b h.h2, Nat.lt_of_lt_of_le h.h0 b.size, Nat.lt_of_lt_of_le h.h1 b.size, Nat.lt_of_lt_of_le h.h2 b.size⟩
theorem Row.range {w : World} {b : Nat} {t : TypeId} {cs : Array Value} (h : Row w b t cs) : w.rangeAt b 0 cs.toList := fun j v hj => by
  rw [Nat.zero_add, cell_of_row _ _ j _ _ _ h]; simpa using hj
set_option maxRecDepth 20000 in
set_option maxHeartbeats 1000000 in
theorem pads_walk (W : World) (s t : ByteArray) (X C0 C1 C2 C3 : Array Value) (R1 R2 : ByteArray) (hX : X.size = 64) (g : s.size ≤ 55)
    (HCV : Hid (∀ w, w.rangeAt W.heap.size 0 X.toList → (convert 36 9 (.slice (some ⟨W.heap.size, 0, none⟩) 64 64)).run Try.prog w = .ok (.string t) w))
    (HS1 : Hid (∀ w, Calls Try.prog 13 #[.string s] w fun e w' => e = .returned (.string R1) ∧ Below w.heap.size w w'))
    (HS2 : Hid (∀ w, Calls Try.prog 13 #[.string t] w fun e w' => e = .returned (.string R2) ∧ Below w.heap.size w w'))
    (HF : Hid (∀ w, Calls Try.prog 9 #[] w fun e w' => e = .returned (.agg C0) ∧ Below w.heap.size w w'))
    (HB1 : Hid (∀ w, Calls Try.prog 11 #[.agg C0, .agg (bytesOf 64 (updB (updB (updB (fun i => s.data.toList.getD i 0) s.size 128) 62 (nAt (8 * s.size) 8)) 63 (nAt (8 * s.size) 0)))] w fun e w' => e = .returned (.agg C1) ∧ Below w.heap.size w w'))
    (HB2 : Hid (∀ w, Calls Try.prog 11 #[.agg C0, .agg X] w fun e w' => e = .returned (.agg C2) ∧ Below w.heap.size w w'))
    (HB3 : Hid (∀ w, Calls Try.prog 11 #[.agg C2, .agg (bytesOf 64 endF)] w fun e w' => e = .returned (.agg C3) ∧ Below w.heap.size w w'))
    (HY1 : Hid (∀ w, Calls Try.prog 16 #[.agg C1] w fun e w' => e = .returned (.string R1) ∧ Below w.heap.size w w'))
    (HY2 : Hid (∀ w, Calls Try.prog 16 #[.agg C3] w fun e w' => e = .returned (.string R2) ∧ Below w.heap.size w w')) :
    Calls Try.prog 6 #[.string s, .agg X] W fun e w' => e = .returned (.bool true) ∧ Below W.heap.size W w' := by
  have hlX : (Try.prog.info? 25).map (·.size) = some X.toList.length := by rw [Array.length_toList, hX]; kernel_rfl
  have HlX := Lib.hid hlX; clear hlX
  have hR := row_new (W.alloc (.cells X 25)) 25 (bytesOf 64 (fun _ => 0))
  rw [show (W.alloc (.cells X 25)).heap.size = W.heap.size + 1 by simp] at hR
  have hcp := Lib.run_copy_row_string (P := Try.prog) ((W.alloc (.cells X 25)).alloc (.cells (bytesOf 64 (fun _ => 0)) 25)) 36 9 3 5 (W.heap.size + 1) 0 64 64 s _ _ Try.underlying36 (by kernel_rfl) (by exact hR) (by omega) (by rw [bytesOf_size]; omega)
  rw [copy_row s (by omega)] at hcp
  have hR1 := row_new W 25 X
  have hb : Below W.heap.size W ((W.alloc (.cells X 25)).alloc (.cells (bytesOf 64 (fun _ => 0)) 25)) := ((Below.refl _ _).alloc (Nat.le_refl _) _).alloc (by simp) _
  obtain ⟨w1, hw1⟩ : ∃ w1, w1 = (((W.alloc (.cells X 25)).alloc (.cells (bytesOf 64 (fun _ => 0)) 25)).setRow (W.heap.size + 1) (bytesOf 64 (fun i => s.data.toList.getD i 0))) := ⟨_, rfl⟩
  have hA : Row w1 W.heap.size 25 X := by
    rw [hw1]
    exact (setRow_other _ _ _ _ (by omega)).trans (Row.alloc hR1 _)
  have hB : Row w1 (W.heap.size + 1) 25 (bytesOf 64 (fun i => s.data.toList.getD i 0)) := by
    rw [hw1]; exact setRow_heap _ _ _ _ _ _ hR
  have hW : Below W.heap.size W w1 := by rw [hw1]; exact below_setRow' hb (by omega) _
  have hz : w1.heap.size = W.heap.size + 2 := by rw [hw1]; simp
  rw [← hw1] at hcp
  clear hw1 hb hR1 hR
  have c0 := hB.cellB (j := s.size) (by omega)
  have f0 := hB.free s.size
  have hB1 := hB.setB 128 (j := s.size) (by omega)
  have c1 := hB1.cellB (j := 62) (by omega)
  have f1 := hB1.free 62
  have e1 : ((s.size : Int) * 8 / 256) = ((nAt (8 * s.size) 8).toNat : Int) := by
    have h := nAt_eq (8 * s.size) 8
    rw [show (2 : Nat) ^ 8 = 256 from rfl] at h
    omega
  have e2 : ((s.size : Int) * 8 % 256) = ((nAt (8 * s.size) 0).toNat : Int) := by
    have h := nAt_eq (8 * s.size) 0
    rw [show (2 : Nat) ^ 0 = 1 from rfl] at h
    omega
  have hB2 := hB1.setB (nAt (8 * s.size) 8) (j := 62) (by omega)
  have c2 := hB2.cellB (j := 63) (by omega)
  have f2 := hB2.free 63
  have hR3 := hB2.setB (nAt (8 * s.size) 0) (j := 63) (by omega)
  rw [← e1] at c2 f2 hR3
  rw [← e2] at hR3
  have k128 : ((UInt8.toNat 128 : Nat) : Int) = 128 := rfl
  rw [k128] at c1 f1 c2 f2 hR3
  clear k128
  have i1 : (0 : Int) ≤ (s.size : Int) := by omega
  have i2 : (s.size : Int) < 64 := by omega
  have HE1 := Lib.hid e1; clear e1
  have HE2 := Lib.hid e2; clear e2
  clear hB1 hB2
  obtain ⟨v0, c0⟩ : ∃ v, _ = some v := ⟨_, c0⟩
  obtain ⟨v1, c1⟩ : ∃ v, _ = some v := ⟨_, c1⟩
  obtain ⟨v2, c2⟩ : ∃ v, _ = some v := ⟨_, c2⟩
  have HA := Lib.hid hA; clear hA
  have HB := Lib.hid hB; clear hB
  have HW := Lib.hid hW; clear hW
  have HR3 := Lib.hid hR3; clear hR3
  have HZ := Lib.hid hz; clear hz
  have HCP := Lib.hid hcp; clear hcp
  obtain ⟨V, hV⟩ : ∃ V, V = (((w1.setCell ⟨W.heap.size + 1, s.size, none⟩ (.int .u8 128)).setCell ⟨W.heap.size + 1, 62, none⟩ (.int .u8 ((s.size : Int) * 8 / 256))).setCell ⟨W.heap.size + 1, 63, none⟩ (.int .u8 ((s.size : Int) * 8 % 256))) := ⟨_, rfl⟩
  have hn := row_new V 25 (bytesOf 64 (fun _ => 0))
  rw [show V.heap.size = w1.heap.size by rw [hV]; simp, hV] at hn
  have HN := Lib.hid hn; clear hn
  have HV := Lib.hid hV; clear hV
  have HLZ : Hid ((Try.prog.info? 25).map (·.size) = some (bytesOf 64 endF).size) := by unfold Hid; rw [bytesOf_size]; kernel_rfl
  have HOZ : Hid ((bytesOf 64 endF).all (·.oneCell') = true) := bytesOf_one _ _
  have HSZ : Hid ((bytesOf 64 (fun _ => 0)).size = (bytesOf 64 endF).size) := by unfold Hid; rw [bytesOf_size, bytesOf_size]
  have HZL : Hid ((#[Value.int .u8 128, Value.int .u8 0, Value.int .u8 0, Value.int .u8 0, Value.int .u8 0, Value.int .u8 0, Value.int .u8 0, Value.int .u8 0, Value.int .u8 0, Value.int .u8 0, Value.int .u8 0, Value.int .u8 0, Value.int .u8 0, Value.int .u8 0, Value.int .u8 0, Value.int .u8 0, Value.int .u8 0, Value.int .u8 0, Value.int .u8 0, Value.int .u8 0, Value.int .u8 0, Value.int .u8 0, Value.int .u8 0, Value.int .u8 0, Value.int .u8 0, Value.int .u8 0, Value.int .u8 0, Value.int .u8 0, Value.int .u8 0, Value.int .u8 0, Value.int .u8 0, Value.int .u8 0, Value.int .u8 0, Value.int .u8 0, Value.int .u8 0, Value.int .u8 0, Value.int .u8 0, Value.int .u8 0, Value.int .u8 0, Value.int .u8 0, Value.int .u8 0, Value.int .u8 0, Value.int .u8 0, Value.int .u8 0, Value.int .u8 0, Value.int .u8 0, Value.int .u8 0, Value.int .u8 0, Value.int .u8 0, Value.int .u8 0, Value.int .u8 0, Value.int .u8 0, Value.int .u8 0, Value.int .u8 0, Value.int .u8 0, Value.int .u8 0, Value.int .u8 0, Value.int .u8 0, Value.int .u8 0, Value.int .u8 0, Value.int .u8 0, Value.int .u8 0, Value.int .u8 2, Value.int .u8 0] : Array Value) = bytesOf 64 endF) := rfl
  generalize hY : bytesOf 64 (updB (updB (updB (fun i => s.data.toList.getD i 0) s.size 128) 62 (nAt (8 * s.size) 8)) 63 (nAt (8 * s.size) 0)) = Y at *
  have hYs : Y.size = 64 := by rw [← hY, bytesOf_size]
  clear hY
  have hlY : (Try.prog.info? 25).map (·.size) = some Y.toList.length := by rw [Array.length_toList, hYs]; kernel_rfl
  have HlY := Lib.hid hlY; clear hlY hYs
  generalize hZ : bytesOf 64 endF = Z at *
  have hZs : Z.size = 64 := by rw [← hZ, bytesOf_size]
  have hlZ : (Try.prog.info? 25).map (·.size) = some Z.toList.length := by rw [Array.length_toList, hZs]; kernel_rfl
  have HlZ := Lib.hid hlZ; clear hlZ hZs
  have HZE := Lib.hid hZ; clear hZ
  go_enter Try.func6, Try.ntmps6
  go_wp2_with (first | (rw [zero64b]; refine Lib.wpList_copy_run (o := ⟨some 13, _, _, _, _, _⟩) _ rfl _ _ _ _ rfl _ _ rfl rfl HCP.out ?_) | (rw [zero64b, HZL.out]; refine wpList_store_row rfl _ _ _ rfl w1.heap.size Z rfl rfl 25 _ HN.out HLZ.out HSZ.out HOZ.out ?_))
  rw [← HV.out]
  have hRv : Row V (W.heap.size + 1) 25 Y := by rw [HV.out]; exact HR3.out
  have hXv : Row V W.heap.size 25 X := by
    rw [HV.out]; exact ((HA.out.other _ _ (by simp)).other _ _ (by simp)).other _ _ (by simp)
  have hWv : Below W.heap.size W V := by
    rw [HV.out]; exact ((HW.out.setCell (by simp) _).setCell (by simp) _).setCell (by simp) _
  have hzv : w1.heap.size = V.heap.size := by rw [HV.out]; simp
  have hN : Row (V.alloc (.cells (bytesOf 64 fun _ => 0) 25)) w1.heap.size 25 (bytesOf 64 (fun _ => 0)) := by rw [HV.out]; exact HN.out
  have hzw := HZ.out
  have hS : PadS W.heap.size (W.heap.size + 1) w1.heap.size X Y Z ((V.alloc (.cells (bytesOf 64 fun _ => 0) 25)).setRow w1.heap.size Z).drew := by
    have r0 : Row ((V.alloc (.cells (bytesOf 64 fun _ => 0) 25)).setRow w1.heap.size Z) W.heap.size 25 X := (setRow_other _ _ _ _ (by omega)).trans (hXv.alloc _)
    have r1 : Row ((V.alloc (.cells (bytesOf 64 fun _ => 0) 25)).setRow w1.heap.size Z) (W.heap.size + 1) 25 Y := (setRow_other _ _ _ _ (by omega)).trans (hRv.alloc _)
    have r2 : Row ((V.alloc (.cells (bytesOf 64 fun _ => 0) 25)).setRow w1.heap.size Z) w1.heap.size 25 Z := setRow_heap _ _ _ _ _ _ hN
    exact ⟨r0.range, r1.range, r2.range, r0.lt, r1.lt, r2.lt⟩
  have hW : Below W.heap.size W ((V.alloc (.cells (bytesOf 64 fun _ => 0) 25)).setRow w1.heap.size Z).drew := (below_setRow' (hWv.alloc hWv.size _) (by omega) _).drew
  clear HW HA HB HR3 hRv hXv hWv hN HN HV HCP HZ HLZ HOZ HSZ HZE HZL HE1 HE2
  have HW := Lib.hid hW; clear hW
  have HS := Lib.hid hS; clear hS
  generalize w1.heap.size = B2 at *
  clear hzv hzw c0 c1 c2 f0 f1 f2
  refine wp_region_noPanic ?_
  refine wp_region_held_drew (S := PadS W.heap.size (W.heap.size + 1) B2 X Y Z) (by kernel_rfl) HS.out (fun hHeld => ?_)
  generalize ((V.alloc (.cells (bytesOf 64 fun _ => 0) 25)).setRow B2 Z).drew = wz at *
  refine' wpAnyH_take (i := 0) (v := ?v1) rfl (by kernel_rfl) (by kernel_rfl) (by kernel_rfl) (fun _ _ _ h => h) (Or.inl ⟨by rfl, ?hy1⟩) (by assumption) ?rest1
  case hy1 => (intro w hSw; (try dsimp only at hSw); go_simp; try with_reducible rfl)
  try simp only [Act.put, List.setIfInBounds_toArray, List.set_cons_zero, List.set_cons_succ]
  refine wpAnyH_take (i := 3) (v := .agg Y.toList.toArray) rfl (by kernel_rfl) (by kernel_rfl) (by kernel_rfl) (fun _ _ _ h => h) (yieldsIf_load_mid (by rfl) 25 _ rfl (W.heap.size+1) 0 rfl Y.toList _ (fun w h => h.y) Try.underlying25 rfl HlY.out) hHeld ?_
  try simp only [Act.put, List.setIfInBounds_toArray, List.set_cons_zero, List.set_cons_succ]
  refine wpAnyH_ready (rs := [1]) (by kernel_rfl) (by simp) ?_
  refine AllReadyH.cons rfl (fun K hK => ?_) AllReadyH.nil
  go_simp
  go_at_call 13
  refine (HS1.out _).mono ?_
  rintro er w' ⟨rfl, b'⟩
  have HW := Lib.hid (HW.out.trans (b'.mono HW.out.size))
  have HS := Lib.hid (HS.out.below b')
  clear b' hHeld
  go_wp2_with fail
  refine hK.out _ _ HS.out (fun hHeld => ?_)
  clear hK K
  try simp only [Act.put, List.setIfInBounds_toArray, List.set_cons_zero, List.set_cons_succ]
  refine wpAnyH_ready (rs := [2]) (by kernel_rfl) (by simp) ?_
  refine AllReadyH.cons rfl (fun K hK => ?_) AllReadyH.nil
  go_simp
  go_at_call 9
  refine (HF.out _).mono ?_
  rintro er w' ⟨rfl, b'⟩
  have HW := Lib.hid (HW.out.trans (b'.mono HW.out.size))
  have HS := Lib.hid (HS.out.below b')
  clear b' hHeld
  go_wp2_with fail
  refine hK.out _ _ HS.out (fun hHeld => ?_)
  clear hK K
  try simp only [Act.put, List.setIfInBounds_toArray, List.set_cons_zero, List.set_cons_succ]
  refine wpAnyH_ready (rs := [4]) (by kernel_rfl) (by simp) ?_
  refine AllReadyH.cons rfl (fun K hK => ?_) AllReadyH.nil
  go_simp
  go_at_call 11
  refine (HB1.out _).mono ?_
  rintro er w' ⟨rfl, b'⟩
  have HW := Lib.hid (HW.out.trans (b'.mono HW.out.size))
  have HS := Lib.hid (HS.out.below b')
  clear b' hHeld
  go_wp2_with fail
  refine hK.out _ _ HS.out (fun hHeld => ?_)
  clear hK K
  try simp only [Act.put, List.setIfInBounds_toArray, List.set_cons_zero, List.set_cons_succ]
  refine wpAnyH_ready (rs := [5]) (by kernel_rfl) (by simp) ?_
  refine AllReadyH.cons rfl (fun K hK => ?_) AllReadyH.nil
  go_simp
  go_at_call 16
  refine (HY1.out _).mono ?_
  rintro er w' ⟨rfl, b'⟩
  have HW := Lib.hid (HW.out.trans (b'.mono HW.out.size))
  have HS := Lib.hid (HS.out.below b')
  clear b' hHeld
  go_wp2_with fail
  refine hK.out _ _ HS.out (fun hHeld => ?_)
  clear hK K
  try simp only [Act.put, List.setIfInBounds_toArray, List.set_cons_zero, List.set_cons_succ]
  refine' wpAnyH_take (i := 6) (v := ?v2) rfl (by kernel_rfl) (by kernel_rfl) (by kernel_rfl) (fun _ _ _ h => h) (Or.inl ⟨by rfl, ?hy2⟩) (by assumption) ?rest2
  case hy2 => (intro w hSw; (try dsimp only at hSw); go_simp; try with_reducible rfl)
  try simp only [Act.put, List.setIfInBounds_toArray, List.set_cons_zero, List.set_cons_succ]
  refine' wpAnyH_take (i := 7) (v := ?v3) rfl (by kernel_rfl) (by kernel_rfl) (by kernel_rfl) (fun _ _ _ h => h) (Or.inl ⟨by rfl, ?hy3⟩) (by assumption) ?rest3
  case hy3 => (intro w hSw; (try dsimp only at hSw); go_simp; try with_reducible rfl)
  try simp only [Act.put, List.setIfInBounds_toArray, List.set_cons_zero, List.set_cons_succ]
  refine' wpAnyH_take (i := 8) (v := ?v4) rfl (by kernel_rfl) (by kernel_rfl) (by kernel_rfl) (fun _ _ _ h => h) (Or.inl ⟨by rfl, ?hy4⟩) (by assumption) ?rest4
  case hy4 => (intro w hSw; (try dsimp only at hSw); go_simp; try with_reducible rfl)
  try simp only [Act.put, List.setIfInBounds_toArray, List.set_cons_zero, List.set_cons_succ]
  refine wpAnyH_take (i := 9) (v := .string t) rfl (by kernel_rfl) (by kernel_rfl) (by kernel_rfl) (fun _ _ _ h => h) (Or.inl ⟨by rfl, ?_⟩) hHeld ?_
  · intro w hSw
    have hcv := HCV.out w hSw.x
    go_simp
  refine wpAnyH_take (i := 12) (v := .agg X.toList.toArray) rfl (by kernel_rfl) (by kernel_rfl) (by kernel_rfl) (fun _ _ _ h => h) (yieldsIf_load_mid (by rfl) 25 _ rfl W.heap.size 0 rfl X.toList _ (fun w h => h.x) Try.underlying25 rfl HlX.out) hHeld ?_
  try simp only [Act.put, List.setIfInBounds_toArray, List.set_cons_zero, List.set_cons_succ]
  refine wpAnyH_take (i := 14) (v := .agg Z.toList.toArray) rfl (by kernel_rfl) (by kernel_rfl) (by kernel_rfl) (fun _ _ _ h => h) (yieldsIf_load_mid (by rfl) 25 _ rfl B2 0 rfl Z.toList _ (fun w h => h.z) Try.underlying25 rfl HlZ.out) hHeld ?_
  try simp only [Act.put, List.setIfInBounds_toArray, List.set_cons_zero, List.set_cons_succ]
  refine wpAnyH_ready (rs := [10]) (by kernel_rfl) (by simp) ?_
  refine AllReadyH.cons rfl (fun K hK => ?_) AllReadyH.nil
  go_simp
  go_at_call 13
  refine (HS2.out _).mono ?_
  rintro er w' ⟨rfl, b'⟩
  have HW := Lib.hid (HW.out.trans (b'.mono HW.out.size))
  have HS := Lib.hid (HS.out.below b')
  clear b' hHeld
  go_wp2_with fail
  refine hK.out _ _ HS.out (fun hHeld => ?_)
  clear hK K
  try simp only [Act.put, List.setIfInBounds_toArray, List.set_cons_zero, List.set_cons_succ]
  refine wpAnyH_ready (rs := [11]) (by kernel_rfl) (by simp) ?_
  refine AllReadyH.cons rfl (fun K hK => ?_) AllReadyH.nil
  go_simp
  go_at_call 9
  refine (HF.out _).mono ?_
  rintro er w' ⟨rfl, b'⟩
  have HW := Lib.hid (HW.out.trans (b'.mono HW.out.size))
  have HS := Lib.hid (HS.out.below b')
  clear b' hHeld
  go_wp2_with fail
  refine hK.out _ _ HS.out (fun hHeld => ?_)
  clear hK K
  try simp only [Act.put, List.setIfInBounds_toArray, List.set_cons_zero, List.set_cons_succ]
  refine wpAnyH_ready (rs := [13]) (by kernel_rfl) (by simp) ?_
  refine AllReadyH.cons rfl (fun K hK => ?_) AllReadyH.nil
  go_simp
  go_at_call 11
  refine (HB2.out _).mono ?_
  rintro er w' ⟨rfl, b'⟩
  have HW := Lib.hid (HW.out.trans (b'.mono HW.out.size))
  have HS := Lib.hid (HS.out.below b')
  clear b' hHeld
  go_wp2_with fail
  refine hK.out _ _ HS.out (fun hHeld => ?_)
  clear hK K
  try simp only [Act.put, List.setIfInBounds_toArray, List.set_cons_zero, List.set_cons_succ]
  refine wpAnyH_ready (rs := [15]) (by kernel_rfl) (by simp) ?_
  refine AllReadyH.cons rfl (fun K hK => ?_) AllReadyH.nil
  go_simp
  go_at_call 11
  refine (HB3.out _).mono ?_
  rintro er w' ⟨rfl, b'⟩
  have HW := Lib.hid (HW.out.trans (b'.mono HW.out.size))
  have HS := Lib.hid (HS.out.below b')
  clear b' hHeld
  go_wp2_with fail
  refine hK.out _ _ HS.out (fun hHeld => ?_)
  clear hK K
  try simp only [Act.put, List.setIfInBounds_toArray, List.set_cons_zero, List.set_cons_succ]
  refine wpAnyH_ready (rs := [16]) (by kernel_rfl) (by simp) ?_
  refine AllReadyH.cons rfl (fun K hK => ?_) AllReadyH.nil
  go_simp
  go_at_call 16
  refine (HY2.out _).mono ?_
  rintro er w' ⟨rfl, b'⟩
  have HW := Lib.hid (HW.out.trans (b'.mono HW.out.size))
  have HS := Lib.hid (HS.out.below b')
  clear b' hHeld
  go_wp2_with fail
  refine hK.out _ _ HS.out (fun hHeld => ?_)
  clear hK K
  try simp only [Act.put, List.setIfInBounds_toArray, List.set_cons_zero, List.set_cons_succ]
  refine' wpAnyH_take (i := 17) (v := ?v5) rfl (by kernel_rfl) (by kernel_rfl) (by kernel_rfl) (fun _ _ _ h => h) (Or.inl ⟨by rfl, ?hy5⟩) (by assumption) ?rest5
  case hy5 => (intro w hSw; (try dsimp only at hSw); go_simp; try with_reducible rfl)
  try simp only [Act.put, List.setIfInBounds_toArray, List.set_cons_zero, List.set_cons_succ]
  refine' wpAnyH_take (i := 18) (v := ?v6) rfl (by kernel_rfl) (by kernel_rfl) (by kernel_rfl) (fun _ _ _ h => h) (Or.inl ⟨by rfl, ?hy6⟩) (by assumption) ?rest6
  case hy6 => (intro w hSw; (try dsimp only at hSw); go_simp; try with_reducible rfl)
  try simp only [Act.put, List.setIfInBounds_toArray, List.set_cons_zero, List.set_cons_succ]
  refine' wpAnyH_take (i := 19) (v := ?v7) rfl (by kernel_rfl) (by kernel_rfl) (by kernel_rfl) (fun _ _ _ h => h) (Or.inl ⟨by rfl, ?hy7⟩) (by assumption) ?rest7
  case hy7 => (intro w hSw; (try dsimp only at hSw); go_simp; try with_reducible rfl)
  try simp only [Act.put, List.setIfInBounds_toArray, List.set_cons_zero, List.set_cons_succ]
  refine wpAnyH_ready (rs := [20]) (by kernel_rfl) (by simp) ?_
  refine AllReadyH.cons rfl (fun K hK => ?_) AllReadyH.nil
  go_simp
  go_at_call 12
  refine (shaAwake_any _).mono ?_
  rintro er w' ⟨rfl, b'⟩
  have HW := Lib.hid (HW.out.trans (b'.mono HW.out.size))
  have HS := Lib.hid (HS.out.below b')
  clear b' hHeld
  go_wp2_with fail
  refine hK.out _ _ HS.out (fun hHeld => ?_)
  clear hK K
  try simp only [Act.put, List.setIfInBounds_toArray, List.set_cons_zero, List.set_cons_succ]
  refine wpAnyH_take (i := 21) (v := .bool true) rfl (by kernel_rfl) (by kernel_rfl) (by kernel_rfl) (fun _ _ _ h => h) (Or.inl ⟨by rfl, ?_⟩) hHeld ?_
  · intro w hSw
    go_simp
  refine wpAnyH_take (i := 22) (v := .bool true) rfl (by kernel_rfl) (by kernel_rfl) (by kernel_rfl) (fun _ _ _ h => h) (Or.inl ⟨by rfl, ?_⟩) hHeld ?_
  · intro w hSw
    go_simp
  refine wpAnyH_done (by kernel_rfl) ?_ _
  refine NoPanic.normal ?_
  go_wp2
  go_ret
  exact ⟨rfl, HW.out⟩
theorem flat_u8d : ∀ l : List UInt8, List.flatMap EU8 l = l.map (fun b => Value.int .u8 b.toNat)
  | [] => rfl
  | b :: l => by rw [List.flatMap_cons, flat_u8d l]; rfl
theorem arr_map (l : List UInt8) : (List.flatMap EU8 l).toArray = (l.map (fun b => Value.int .u8 b.toNat)).toArray := by rw [flat_u8d]
theorem shaPads_ok (W : World) (x0 : ByteArray) (w0 : x0.size ≤ 140737488351232) (x1 : (List UInt8)) (w1 : x1.length = 64 ∧ ∀ y ∈ x1, True) :
    Calls Try.prog 6 #[.string x0, .agg ((fun xs => List.flatMap EU8 xs) x1).toArray] W fun e w' => e = .returned (.bool true) ∧ Below W.heap.size W w' := by
  obtain ⟨h1, _⟩ := w1
  show Calls _ _ #[.string x0, .agg (List.flatMap EU8 x1).toArray] W _
  rw [arr_map]
  by_cases g : 55 < x0.size
  · go_enter Try.func6, Try.ntmps6
    generalize (List.map (fun b : UInt8 => Value.int .u8 b.toNat) x1).toArray = X
    go_wp2_with (go_at_call 12; refine (shaAwake_any _).mono ?_)
    rintro e w2 ⟨rfl, b2⟩
    have HB := Lib.hid (below_then ((Below.refl W.heap.size W).alloc (Nat.le_refl _) (.cells X 25)) b2)
    clear b2
    go_wp2
    go_ret
    exact ⟨rfl, HB.out⟩
  · have hX : ((x1.map (fun b => Value.int .u8 b.toNat)).toArray : Array Value).size = 64 := by simpa using h1
    have hx0 : x0.data.toList.length = x0.size := by simp
    have hb1 := bytesOf_list x1 64 h1
    have hF := short_sum x0.data.toList (by omega)
    have hG := fold_sum x1 1 (by omega) (by omega)
    have hE : bytesOf 64 (fun i => (endBlk x1.length).getD i 0) = bytesOf 64 endF := by rw [h1]; kernel_rfl
    have hel : (endBlk x1.length).length = 64 := by simp [endBlk]
    have hpl : (x0.data.toList ++ [128] ++ List.replicate (61 - x0.data.toList.length) 0 ++ [nAt (8 * x0.data.toList.length) 8, nAt (8 * x0.data.toList.length) 0]).length = 64 := by
      simp only [List.length_append, List.length_replicate, List.length_cons, List.length_nil]; omega
    have hpd := padded x0 (by omega) (nAt (8 * x0.size) 8) (nAt (8 * x0.size) 0)
    rw [← hx0] at hpd
    have hB1 : blocksF H0 x1 1 = blockF H0 x1 := by
      show blockF H0 (x1.take 64) = _
      rw [List.take_of_length_le (by omega)]
    rw [hB1] at hG
    refine pads_walk W x0 ⟨x1.toArray⟩ _ (cellsOf 8 H0) (cellsOf 8 (blockF H0 (x0.data.toList ++ [128] ++ List.replicate (61 - x0.data.toList.length) 0 ++ [nAt (8 * x0.data.toList.length) 8, nAt (8 * x0.data.toList.length) 0]))) (cellsOf 8 (blockF H0 x1)) (cellsOf 8 (blockF (blockF H0 x1) (endBlk x1.length))) (shaSum x0.data.toList) (shaSum x1) hX (by omega) ?_ (fun w => shaSum_any x0 w (by omega)) (fun w => ?_) (fun w => refFirst_any w) ?_ ?_ ?_ ?_ ?_
    · intro w hr
      refine run_bytes_str _ 36 9 5 Try.underlying36 Try.underlying5 Try.underlying9 W.heap.size 0 64 64 x1 (by omega) ?_
      intro i hi
      exact hr i _ (by simp [hi])
    · exact shaSum_any ⟨x1.toArray⟩ w (by show x1.toArray.size ≤ _; simp; omega)
    · intro w
      rw [← hx0, hpd]
      exact refBlock_any H0 _ hpl w
    · intro w
      rw [hb1]
      exact refBlock_any H0 _ h1 w
    · intro w
      rw [← hE]
      exact refBlock_any _ _ hel w
    · intro w
      rw [hF]
      exact bytes_any _ w
    · intro w
      rw [hG]
      exact bytes_any _ w
end Go.Proofs.Ytclmnekadlpfkaa
