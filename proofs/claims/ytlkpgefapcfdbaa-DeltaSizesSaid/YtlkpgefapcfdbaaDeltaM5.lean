/- Walks: chapter 33's caught: what was thrown is told. -/
import Derived.Test.YtlkpgefapcfdbaaDeltaM4
import Derived.Recover
import Derived.Defers
namespace Go.Proofs.Ytlkpgefapcfdbaa
open Go.RowKit
set_option linter.unusedVariables false
set_option linter.unusedSimpArgs false
/-- the deferred closure, of a frame that returns -/
theorem catch_idle (p : Addr) (w : World) :
    CallsD Try.prog 44 #[.pointer (some p)] .returning w fun e u' w' => e = .returned (.tuple #[]) ∧ u' = .returning ∧ w' = w := by
  refine callsD_of_wpS Try.func44 rfl fun c₀ cs hu => ?_
  apply wpS_seq
  apply wpS_region
  simp [wpOpsS, go_sem, recoverD, hu, Try.ntmps44, Exit.thenS]
  refine wpS_of_wp ?_
  have e : (#[Value.pointer (some p)] ++ ((Array.replicate 16 undef).setIfInBounds 3 Value.nilIface).setIfInBounds 0 Value.nilIface) = #[.pointer (some p), .nilIface, undef, undef, .nilIface, undef, undef, undef, undef, undef, undef, undef, undef, undef, undef, undef, undef] := rfl
  rw [e]
  go_wp2
  cases c₀
  simp_all [bodyPostS, results, Try.results44]
set_option maxHeartbeats 4000000 in
theorem catch_thrown (p : Addr) (x : Int) (k : Nat) (w : World) (hc : w.cell? p = some (.int .i64 x)) (hz : w.frozen? p = false) :
    CallsD Try.prog 44 #[.pointer (some p)] (.panicking [{ v := .iface 84 (.agg #[.int .i64 (k : Nat)]), recovered := false }]) w fun e u' w' =>
      e = .returned (.tuple #[]) ∧ u' = .panicking [{ v := .iface 84 (.agg #[.int .i64 (k : Nat)]), recovered := true }] ∧ w' = (w.alloc (.cells #[.int .i64 (k : Nat)] 84)).setCell p (.int .i64 (k : Nat)) := by
  refine callsD_of_wpS Try.func44 rfl fun c₀ cs hu => ?_
  apply wpS_seq
  apply wpS_region
  simp [wpOpsS, go_sem, recoverD, hu, Try.ntmps44, Exit.thenS]
  refine wpS_of_wp ?_
  have e : ∀ x : Value, (#[Value.pointer (some p)] ++ ((Array.replicate 16 undef).setIfInBounds 3 x).setIfInBounds 0 x) = #[.pointer (some p), x, undef, undef, x, undef, undef, undef, undef, undef, undef, undef, undef, undef, undef, undef, undef] := fun _ => rfl
  rw [e]
  have hne : ∀ w, (binOp .neq 20 (.iface 84 (.agg #[.int .i64 (k : Nat)])) .nilIface).run Try.prog w = .ok (.bool true) w := fun w => by
    go_simp
  have hta : ∀ (v : Value) (w : World), (Instr.typeAssert (.iface 84 v) 20 84 true).run Try.prog w = .ok (.tuple #[v, .bool true]) w := fun v w => by kernel_rfl
  have hlt := World.block_lt_of_cell? w _ hc
  have hc' : ∀ o, (w.alloc o).cell? p = some (.int .i64 x) := fun o => (World.cell?_of_block (Lib.alloc_old w o p.block hlt)).trans hc
  have hz' : ∀ o, (w.alloc o).frozen? p = false := fun o => (World.frozen?_of_block (Lib.alloc_old w o p.block hlt)).trans hz
  go_wp2_with fail
  cases c₀
  simp_all [bodyPostS, results, Try.results44]
set_option maxHeartbeats 1000000 in
theorem caughtA_ret (a b c : Value) (w : World) (Q : World → Prop)
    (H : Calls Try.prog 28 #[a, b, c] (w.alloc (.cells #[.int .i64 0] 25)) fun e w' => e = .returned (.tuple #[]) ∧ w'.heap[w.heap.size]? = some (.cells #[.int .i64 0] 25 (0, 0)) ∧ Q w') :
    Calls Try.prog 27 #[.func (.func 28) #[] #[a, b, c]] w fun e w' => e = .returned (.int .i64 0) ∧ ∃ w0, Q w0 ∧ w' = w0.setCell ⟨w.heap.size, 0, none⟩ (.int .i64 0) := by
  have hmf : ∀ (fn : Fn) (first cap : Array Value) (w : World), (Instr.makeFunc fn first cap).run Try.prog w = .ok (.func fn first cap) w := fun _ _ _ _ => rfl
  have HH := Lib.hid H; clear H
  go_enter_defers Try.func27, Try.ntmps27
  go_wp2_with fail
  refine HH.out.mono ?_
  rintro e w1 ⟨rfl, hb, hq⟩
  have c0 : w1.cell? ⟨w.heap.size, 0, none⟩ = some (.int .i64 0) := by rw [Lib.cell_of_heap hb]; rfl
  have f0 : w1.frozen? ⟨w.heap.size, 0, none⟩ = false := Lib.frozen_of_heap hb 0
  go_wp2_with fail
  refine leaves_cons (f := 44) (args := #[.pointer (some ⟨w.heap.size, 0, none⟩)]) (by simp) (by simp [go_sem]) ?_
  refine (catch_idle ⟨w.heap.size, 0, none⟩ _).mono ?_
  rintro e u' w'' ⟨rfl, rfl, rfl⟩
  have h1 : (w1.setCell ⟨w.heap.size, 0, none⟩ (.int .i64 0)).cell? ⟨w.heap.size, 0, none⟩ = some (.int .i64 0) := World.cell?_setCell_same' _ _ _ (by rw [c0]; rfl)
  simp [Leaves, settle, results, Try.results27, go_sem, h1]
  exact ⟨w1, hq, rfl⟩
set_option maxHeartbeats 1000000 in
theorem caughtA_thrown (a b c : Value) (w : World) (Q : World → Prop) (k : Nat)
    (H : Calls Try.prog 28 #[a, b, c] (w.alloc (.cells #[.int .i64 0] 25)) fun e w' => e = thrownE k ∧ w'.heap[w.heap.size]? = some (.cells #[.int .i64 0] 25 (0, 0)) ∧ Q w') :
    Calls Try.prog 27 #[.func (.func 28) #[] #[a, b, c]] w fun e w' => e = .returned (.int .i64 (k : Nat)) ∧ ∃ w0, Q w0 ∧ w' = (w0.alloc (.cells #[.int .i64 (k : Nat)] 84)).setCell ⟨w.heap.size, 0, none⟩ (.int .i64 (k : Nat)) := by
  have hmf : ∀ (fn : Fn) (first cap : Array Value) (w : World), (Instr.makeFunc fn first cap).run Try.prog w = .ok (.func fn first cap) w := fun _ _ _ _ => rfl
  have HH := Lib.hid H; clear H
  go_enter_defers Try.func27, Try.ntmps27
  go_wp2_with fail
  refine HH.out.mono ?_
  rintro e w1 ⟨rfl, hb, hq⟩
  unfold thrownE
  have c0 : w1.cell? ⟨w.heap.size, 0, none⟩ = some (.int .i64 0) := by rw [Lib.cell_of_heap hb]; rfl
  have f0 : w1.frozen? ⟨w.heap.size, 0, none⟩ = false := Lib.frozen_of_heap hb 0
  go_wp2_with fail
  refine leaves_cons (f := 44) (args := #[.pointer (some ⟨w.heap.size, 0, none⟩)]) (by simp) (by simp [go_sem]) ?_
  refine (catch_thrown ⟨w.heap.size, 0, none⟩ 0 k _ c0 f0).mono ?_
  rintro e u' w'' ⟨rfl, rfl, rfl⟩
  have c2 : (w1.alloc (.cells #[.int .i64 (k : Nat)] 84)).cell? ⟨w.heap.size, 0, none⟩ = some (.int .i64 0) := (World.cell?_of_block (Lib.alloc_old w1 _ _ (World.block_lt_of_cell? w1 _ c0))).trans c0
  have h1 : ((w1.alloc (.cells #[.int .i64 (k : Nat)] 84)).setCell ⟨w.heap.size, 0, none⟩ (.int .i64 (k : Nat))).cell? ⟨w.heap.size, 0, none⟩ = some (.int .i64 (k : Nat)) := World.cell?_setCell_same' _ _ _ (by rw [c2]; rfl)
  simp [Leaves, settle, results, Try.results27, go_sem, h1]
  exact ⟨w1, hq, rfl⟩
set_option maxHeartbeats 1000000 in
theorem caughtS_ret (a b c : Value) (w : World) (Q : World → Prop)
    (H : Calls Try.prog 32 #[a, b, c] (w.alloc (.cells #[.int .i64 0] 25)) fun e w' => e = .returned (.tuple #[]) ∧ w'.heap[w.heap.size]? = some (.cells #[.int .i64 0] 25 (0, 0)) ∧ Q w') :
    Calls Try.prog 27 #[.func (.func 32) #[] #[a, b, c]] w fun e w' => e = .returned (.int .i64 0) ∧ ∃ w0, Q w0 ∧ w' = w0.setCell ⟨w.heap.size, 0, none⟩ (.int .i64 0) := by
  have hmf : ∀ (fn : Fn) (first cap : Array Value) (w : World), (Instr.makeFunc fn first cap).run Try.prog w = .ok (.func fn first cap) w := fun _ _ _ _ => rfl
  have HH := Lib.hid H; clear H
  go_enter_defers Try.func27, Try.ntmps27
  go_wp2_with fail
  refine HH.out.mono ?_
  rintro e w1 ⟨rfl, hb, hq⟩
  have c0 : w1.cell? ⟨w.heap.size, 0, none⟩ = some (.int .i64 0) := by rw [Lib.cell_of_heap hb]; rfl
  have f0 : w1.frozen? ⟨w.heap.size, 0, none⟩ = false := Lib.frozen_of_heap hb 0
  go_wp2_with fail
  refine leaves_cons (f := 44) (args := #[.pointer (some ⟨w.heap.size, 0, none⟩)]) (by simp) (by simp [go_sem]) ?_
  refine (catch_idle ⟨w.heap.size, 0, none⟩ _).mono ?_
  rintro e u' w'' ⟨rfl, rfl, rfl⟩
  have h1 : (w1.setCell ⟨w.heap.size, 0, none⟩ (.int .i64 0)).cell? ⟨w.heap.size, 0, none⟩ = some (.int .i64 0) := World.cell?_setCell_same' _ _ _ (by rw [c0]; rfl)
  simp [Leaves, settle, results, Try.results27, go_sem, h1]
  exact ⟨w1, hq, rfl⟩
set_option maxHeartbeats 1000000 in
theorem caughtS_thrown (a b c : Value) (w : World) (Q : World → Prop) (k : Nat)
    (H : Calls Try.prog 32 #[a, b, c] (w.alloc (.cells #[.int .i64 0] 25)) fun e w' => e = thrownE k ∧ w'.heap[w.heap.size]? = some (.cells #[.int .i64 0] 25 (0, 0)) ∧ Q w') :
    Calls Try.prog 27 #[.func (.func 32) #[] #[a, b, c]] w fun e w' => e = .returned (.int .i64 (k : Nat)) ∧ ∃ w0, Q w0 ∧ w' = (w0.alloc (.cells #[.int .i64 (k : Nat)] 84)).setCell ⟨w.heap.size, 0, none⟩ (.int .i64 (k : Nat)) := by
  have hmf : ∀ (fn : Fn) (first cap : Array Value) (w : World), (Instr.makeFunc fn first cap).run Try.prog w = .ok (.func fn first cap) w := fun _ _ _ _ => rfl
  have HH := Lib.hid H; clear H
  go_enter_defers Try.func27, Try.ntmps27
  go_wp2_with fail
  refine HH.out.mono ?_
  rintro e w1 ⟨rfl, hb, hq⟩
  unfold thrownE
  have c0 : w1.cell? ⟨w.heap.size, 0, none⟩ = some (.int .i64 0) := by rw [Lib.cell_of_heap hb]; rfl
  have f0 : w1.frozen? ⟨w.heap.size, 0, none⟩ = false := Lib.frozen_of_heap hb 0
  go_wp2_with fail
  refine leaves_cons (f := 44) (args := #[.pointer (some ⟨w.heap.size, 0, none⟩)]) (by simp) (by simp [go_sem]) ?_
  refine (catch_thrown ⟨w.heap.size, 0, none⟩ 0 k _ c0 f0).mono ?_
  rintro e u' w'' ⟨rfl, rfl, rfl⟩
  have c2 : (w1.alloc (.cells #[.int .i64 (k : Nat)] 84)).cell? ⟨w.heap.size, 0, none⟩ = some (.int .i64 0) := (World.cell?_of_block (Lib.alloc_old w1 _ _ (World.block_lt_of_cell? w1 _ c0))).trans c0
  have h1 : ((w1.alloc (.cells #[.int .i64 (k : Nat)] 84)).setCell ⟨w.heap.size, 0, none⟩ (.int .i64 (k : Nat))).cell? ⟨w.heap.size, 0, none⟩ = some (.int .i64 (k : Nat)) := World.cell?_setCell_same' _ _ _ (by rw [c2]; rfl)
  simp [Leaves, settle, results, Try.results27, go_sem, h1]
  exact ⟨w1, hq, rfl⟩
end Go.Proofs.Ytlkpgefapcfdbaa
