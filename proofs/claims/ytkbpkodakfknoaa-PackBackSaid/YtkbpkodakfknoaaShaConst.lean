/- The constants: walks. -/
import Derived.Test.YtkbpkodakfknoaaShaMem
import Derived.Laws.Tables
namespace Go.Proofs.Ytkbpkodakfknoaa
open Go.RowKit
set_option linter.unusedVariables false
theorem zero64c : (#[Value.int .u32 0, Value.int .u32 0, Value.int .u32 0, Value.int .u32 0, Value.int .u32 0, Value.int .u32 0, Value.int .u32 0, Value.int .u32 0, Value.int .u32 0, Value.int .u32 0, Value.int .u32 0, Value.int .u32 0, Value.int .u32 0, Value.int .u32 0, Value.int .u32 0, Value.int .u32 0, Value.int .u32 0, Value.int .u32 0, Value.int .u32 0, Value.int .u32 0, Value.int .u32 0, Value.int .u32 0, Value.int .u32 0, Value.int .u32 0, Value.int .u32 0, Value.int .u32 0, Value.int .u32 0, Value.int .u32 0, Value.int .u32 0, Value.int .u32 0, Value.int .u32 0, Value.int .u32 0, Value.int .u32 0, Value.int .u32 0, Value.int .u32 0, Value.int .u32 0, Value.int .u32 0, Value.int .u32 0, Value.int .u32 0, Value.int .u32 0, Value.int .u32 0, Value.int .u32 0, Value.int .u32 0, Value.int .u32 0, Value.int .u32 0, Value.int .u32 0, Value.int .u32 0, Value.int .u32 0, Value.int .u32 0, Value.int .u32 0, Value.int .u32 0, Value.int .u32 0, Value.int .u32 0, Value.int .u32 0, Value.int .u32 0, Value.int .u32 0, Value.int .u32 0, Value.int .u32 0, Value.int .u32 0, Value.int .u32 0, Value.int .u32 0, Value.int .u32 0, Value.int .u32 0, Value.int .u32 0] : Array Value) = cellsOf 64 (fun _ => 0) := by rfl
theorem cellsOf_one' (n : Nat) (f : Nat → UInt32) : (cellsOf n f).all (·.oneCell') = true := by
  rw [Array.all_eq_true]
  intro i hi
  simp only [cellsOf, List.getElem_toArray, List.getElem_map]
  rfl
theorem below_setRow' {B : Nat} {a w : World} (h : Below B a w) {g : Nat} (hg : B ≤ g) (cs : Array Value) : Below B a (w.setRow g cs) :=
  ⟨h.os, h.tape, h.output, by simpa [World.setRow] using h.size, fun i hi => (setRow_other w g i cs (by omega)).trans (h.block i hi)⟩
theorem lit8 : (#[Value.int .u32 1779033703, Value.int .u32 3144134277, Value.int .u32 1013904242, Value.int .u32 2773480762, Value.int .u32 1359893119, Value.int .u32 2600822924, Value.int .u32 528734635, Value.int .u32 1541459225] : Array Value) = cellsOf 8 (fun i => shaFirst.getD i 0) := by rfl
set_option maxRecDepth 20000 in
set_option maxHeartbeats 4000000 in
theorem first_any (w : World) : Calls Try.prog 69 #[] w fun e w' => e = .returned (.agg (cellsOf 8 (fun i => shaFirst.getD i 0))) ∧ Below w.heap.size w w' := by
  have hL : (Try.prog.info? 75).map (·.size) = some (cellsOf 8 (fun i => shaFirst.getD i 0)).size := by rw [cellsOf_size]; kernel_rfl
  have HL := Lib.hid hL; clear hL
  go_enter Try.func69, Try.ntmps69
  go_wp2_with fail
  rw [lit8]
  refine bodyPost_ret (v := .agg (cellsOf 8 (fun i => shaFirst.getD i 0))) ?_ rfl ⟨rfl, (Below.refl _ _).alloc (Nat.le_refl _) _⟩
  exact results_cell_row rfl _ _ w.heap.size 75 _ (0, 0) _ rfl (row_new _ _ _) Try.underlying75 rfl HL.out
set_option maxRecDepth 20000 in
set_option maxHeartbeats 4000000 in
theorem refFirst_any (w : World) : Calls Try.prog 34 #[] w fun e w' => e = .returned (.agg (cellsOf 8 (fun i => shaFirst.getD i 0))) ∧ Below w.heap.size w w' := by
  have hL : (Try.prog.info? 75).map (·.size) = some (cellsOf 8 (fun i => shaFirst.getD i 0)).size := by rw [cellsOf_size]; kernel_rfl
  have HL := Lib.hid hL; clear hL
  go_enter Try.func34, Try.ntmps34
  go_wp2_with fail
  rw [lit8]
  refine bodyPost_ret (v := .agg (cellsOf 8 (fun i => shaFirst.getD i 0))) ?_ rfl ⟨rfl, (Below.refl _ _).alloc (Nat.le_refl _) _⟩
  exact results_cell_row rfl _ _ w.heap.size 75 _ (0, 0) _ rfl (row_new _ _ _) Try.underlying75 rfl HL.out
theorem wpList_build_to {P : Program} {ops : Array Oper} {rest : List Oper} {o : Oper} {a : Act} {w : World} {Q : Exit → Act → World → Prop} (hg : o.guard = none) (t : TypeId) (parts : Array (Nat × Operand)) (ho : o.op = .build t parts)
    (cs : Array Value) (hf : P.built t (parts.map fun (i, x) => (i, a.eval x)).toList = some cs)
    (h : wpList P ops Q rest (a.put o.dst (.agg cs)) w) : wpList P ops Q (o :: rest) a w :=
  wpList_build hg t parts ho (by rw [hf]; rfl) (by rw [hf]; exact h)
set_option maxRecDepth 20000 in
set_option maxHeartbeats 4000000 in
theorem constants_any (w : World) : Calls Try.prog 78 #[] w fun e w' => e = .returned (.agg (cellsOf 64 shaK)) ∧ Below w.heap.size w w' := by
  have hL : (Try.prog.info? 88).map (·.size) = some (cellsOf 64 shaK).size := by rw [cellsOf_size]; kernel_rfl
  have HL := Lib.hid hL; clear hL
  have HR := Lib.hid (row_new w 88 (cellsOf 64 (fun _ => 0)))
  have HO : Hid ((cellsOf 64 shaK).all (·.oneCell') = true) := cellsOf_one' _ _
  go_enter Try.func78, Try.ntmps78
  go_wp2_with (first | (rw [zero64c]; refine wpList_build_to rfl _ _ rfl (cellsOf 64 shaK) (by kernel_rfl) ?_) | (refine wpList_store_row rfl _ _ _ rfl w.heap.size (cellsOf 64 shaK) rfl rfl 88 _ HR.out HL.out rfl HO.out ?_))
  refine bodyPost_ret (v := .agg (cellsOf 64 shaK)) ?_ rfl ⟨rfl, ?_⟩
  · exact results_cell_row rfl _ _ w.heap.size 88 _ (0, 0) _ rfl (setRow_heap _ _ _ _ _ _ HR.out) Try.underlying88 rfl HL.out
  · exact below_setRow' ((Below.refl _ _).alloc (Nat.le_refl _) _) (Nat.le_refl _) _
set_option maxRecDepth 20000 in
set_option maxHeartbeats 4000000 in
theorem refConstants_any (w : World) : Calls Try.prog 53 #[] w fun e w' => e = .returned (.agg (cellsOf 64 shaK)) ∧ Below w.heap.size w w' := by
  have hL : (Try.prog.info? 88).map (·.size) = some (cellsOf 64 shaK).size := by rw [cellsOf_size]; kernel_rfl
  have HL := Lib.hid hL; clear hL
  have HR := Lib.hid (row_new w 88 (cellsOf 64 (fun _ => 0)))
  have HO : Hid ((cellsOf 64 shaK).all (·.oneCell') = true) := cellsOf_one' _ _
  go_enter Try.func53, Try.ntmps53
  go_wp2_with (first | (rw [zero64c]; refine wpList_build_to rfl _ _ rfl (cellsOf 64 shaK) (by kernel_rfl) ?_) | (refine wpList_store_row rfl _ _ _ rfl w.heap.size (cellsOf 64 shaK) rfl rfl 88 _ HR.out HL.out rfl HO.out ?_))
  refine bodyPost_ret (v := .agg (cellsOf 64 shaK)) ?_ rfl ⟨rfl, ?_⟩
  · exact results_cell_row rfl _ _ w.heap.size 88 _ (0, 0) _ rfl (setRow_heap _ _ _ _ _ _ HR.out) Try.underlying88 rfl HL.out
  · exact below_setRow' ((Below.refl _ _).alloc (Nat.le_refl _) _) (Nat.le_refl _) _
end Go.Proofs.Ytkbpkodakfknoaa
