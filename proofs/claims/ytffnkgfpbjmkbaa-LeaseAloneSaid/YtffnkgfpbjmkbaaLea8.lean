/- lease: what ends: the closure of Pass, looking for it, deleting it. -/
import Derived.Test.YtffnkgfpbjmkbaaLea7
import Derived.Lib.SliceRun
namespace Go.Proofs.Ytffnkgfpbjmkbaa
open Go.RowKit
set_option linter.unusedVariables false
set_option linter.unusedSimpArgs false
set_option maxRecDepth 20000 in
set_option maxHeartbeats 1000000 in
theorem pass1_any (x : Lk) (pv bk : Nat) (now : Int) (w : World) (hp : w.cell? ⟨pv, 0, none⟩ = some (.pointer (some ⟨bk, 0, none⟩))) (hk : w.cell? ⟨bk, 0, none⟩ = some (.int .i64 now)) (hpl : pv < w.heap.size) (hkl : bk < w.heap.size) :
    Calls Try.prog 31 #[x.v, .pointer (some ⟨pv, 0, none⟩)] w fun e w' => e = .returned (.bool (decide (x.u ≤ now))) ∧ Below w.heap.size w w' := by
  unfold Lk.v
  have hb : Below w.heap.size w (w.alloc (.cells #[.int .u64 x.o.toNat, .bool x.s, .int .i64 x.u] 62)) := (Below.refl _ _).alloc (Nat.le_refl _) _
  have hp2 := (hb.cell (p := ⟨pv, 0, none⟩) hpl).trans hp
  have hk2 := (hb.cell (p := ⟨bk, 0, none⟩) hkl).trans hk
  have HB := Lib.hid hb
  clear hb hp hk
  cases hq : decide (x.u ≤ now) with
  | true =>
    go_enter Try.func31, Try.ntmps31
    go_wp2_with fail
    go_quiet (fail)
    go_wp2_with fail
    go_ret
    exact ⟨rfl, Below.drewN HB.out _⟩
  | false =>
    go_enter Try.func31, Try.ntmps31
    go_wp2_with fail
    go_quiet (fail)
    go_wp2_with fail
    go_ret
    exact ⟨rfl, Below.drewN HB.out _⟩
set_option maxRecDepth 20000 in
set_option maxHeartbeats 1000000 in
theorem ixP_one (v : Value) (x : Lk) (pv bk : Nat) (now : Int) (w : World) (h : One w v x) (hp : w.cell? ⟨pv, 0, none⟩ = some (.pointer (some ⟨bk, 0, none⟩))) (hk : w.cell? ⟨bk, 0, none⟩ = some (.int .i64 now)) (hpl : pv < w.heap.size) (hkl : bk < w.heap.size) :
    Calls Try.prog 45 #[v, .func (.func 31) #[] #[.pointer (some ⟨pv, 0, none⟩)]] w fun e w' => e = .returned (.int .i64 (if x.u ≤ now then 0 else -1)) ∧ Below w.heap.size w w' := by
  have HA := Lib.hid (pass1_any x pv bk now w hp hk hpl hkl)
  obtain ⟨g, c, rfl, h1, h2, h3, h4, h5, h6⟩ := h
  have hc9 : c ≤ 9223372036854775807 := by unfold maxLen at h2; omega
  clear h1 h2 hp hk
  unfold Lk.v at HA
  by_cases hq : x.u ≤ now
  · rw [show decide (x.u ≤ now) = true by simpa using hq] at HA
    rw [if_pos hq]
    clear hq
    go_enter Try.func45, Try.ntmps45
    go_wp2_with fail
    refine wp_loop_rounds 2 ?_
    rw [rounds_succ]
    go_wp2_with fail
    refine HA.out.mono ?_
    rintro e w' ⟨rfl, b1⟩
    go_wp2_with fail
    go_ret
    exact ⟨rfl, b1⟩
  · rw [show decide (x.u ≤ now) = false by simpa using hq] at HA
    rw [if_neg hq]
    clear hq
    go_enter Try.func45, Try.ntmps45
    go_wp2_with fail
    refine wp_loop_rounds 2 ?_
    rw [rounds_succ]
    go_wp2_with fail
    refine HA.out.mono ?_
    rintro e w' ⟨rfl, b1⟩
    go_wp2_with fail
    rw [rounds_succ]
    go_wp2_with fail
    go_ret
    exact ⟨rfl, b1⟩
set_option maxRecDepth 20000 in
set_option maxHeartbeats 1000000 in
theorem del_keep (v : Value) (x : Lk) (pv bk : Nat) (now : Int) (w : World) (h : One w v x) (hp : w.cell? ⟨pv, 0, none⟩ = some (.pointer (some ⟨bk, 0, none⟩))) (hk : w.cell? ⟨bk, 0, none⟩ = some (.int .i64 now)) (hpl : pv < w.heap.size) (hkl : bk < w.heap.size) (hq : ¬ x.u ≤ now) :
    Calls Try.prog 32 #[v, .func (.func 31) #[] #[.pointer (some ⟨pv, 0, none⟩)]] w fun e w' => e = .returned v ∧ Below w.heap.size w w' := by
  have HI := Lib.hid (ixP_one v x pv bk now w h hp hk hpl hkl)
  rw [if_neg hq] at HI
  obtain ⟨g, c, rfl, h1, h2, h3, h4, h5, h6⟩ := h
  clear h1 h2 h3 h4 h5 h6 hp hk hq
  go_enter Try.func32, Try.ntmps32
  go_wp2_with fail
  refine HI.out.mono ?_
  rintro e w' ⟨rfl, b1⟩
  go_wp2_with fail
  go_ret
  exact ⟨rfl, b1⟩
theorem run_clear_lk (w : World) (ty : TypeId) (g c : Nat) (a0 a1 a2 : Value) (e0 : w.cell? ⟨g, 0, none⟩ = some a0) (e1 : w.cell? ⟨g, 1, none⟩ = some a1) (e2 : w.cell? ⟨g, 2, none⟩ = some a2) (f0 : w.frozen? ⟨g, 0, none⟩ = false) (f1 : w.frozen? ⟨g, 1, none⟩ = false) (f2 : w.frozen? ⟨g, 2, none⟩ = false) :
    (Builtin.clear_ #[25] ty #[.slice (some ⟨g, 0, none⟩) 1 c]).run Try.prog w = .ok (.tuple #[]) (w.setCells g 0 [.int .u64 0, .bool false, .int .i64 0]) := by
  have hv : ∀ w, (zeroValue 62).run Try.prog w = .ok (.agg #[.int .u64 0, .bool false, .int .i64 0]) w := fun w => by kernel_rfl
  have hzc : (Builtin.zeroCells (Value.agg #[.int .u64 0, .bool false, .int .i64 0]).cells 1).toList = [.int .u64 0, .bool false, .int .i64 0] := by kernel_rfl
  have hst := run_storeCells_cells (P := Try.prog) g 0 [.int .u64 0, .bool false, .int .i64 0] 0 w (by
    intro j hj
    match j, hj with
    | 0, _ => simp [e0]
    | 1, _ => simp [e1]
    | 2, _ => simp [e2]) (by
    intro j hj
    match j, hj with
    | 0, _ => simp [f0]
    | 1, _ => simp [f1]
    | 2, _ => simp [f2]) (by
    intro v hv'
    simp at hv'
    rcases hv' with rfl | rfl | rfl <;> rfl)
  simp only [Nat.add_zero] at hst
  simp [Builtin.clear_, run_underlying Try.underlying25, hv, hzc, hst]
set_option maxRecDepth 20000 in
set_option maxHeartbeats 1000000 in
theorem del_drop (B : Nat) (v : Value) (x : Lk) (pv bk : Nat) (now : Int) (w : World) (h : OwnL w B v 1 x.c) (hp : w.cell? ⟨pv, 0, none⟩ = some (.pointer (some ⟨bk, 0, none⟩))) (hk : w.cell? ⟨bk, 0, none⟩ = some (.int .i64 now)) (hpl : pv < w.heap.size) (hkl : bk < w.heap.size) (hB : B ≤ w.heap.size) (hq : x.u ≤ now) :
    Calls Try.prog 32 #[v, .func (.func 31) #[] #[.pointer (some ⟨pv, 0, none⟩)]] w fun e w' => ∃ v', e = .returned v' ∧ Zero v' ∧ Below B w w' := by
  have HI := Lib.hid (ixP_one v x pv bk now w h.one hp hk hpl hkl)
  rw [if_pos hq] at HI
  obtain ⟨g, c, hv, h1, h2, h3, h4, h5, h6⟩ := h.one
  subst hv
  obtain ⟨hgb, hfg⟩ := OwnL.free h
  have hc9 : c ≤ 9223372036854775807 := by unfold maxLen at h2; omega
  clear hp hk hq h
  go_enter Try.func32, Try.ntmps32
  go_wp2_with fail
  refine HI.out.mono ?_
  rintro e w1 ⟨rfl, b1⟩
  have e4 := (b1.cell (p := ⟨g, 0, none⟩) h3).trans h4
  have e5 := (b1.cell (p := ⟨g, 1, none⟩) h3).trans h5
  have e6 := (b1.cell (p := ⟨g, 2, none⟩) h3).trans h6
  have f4 := (b1.frozen (p := ⟨g, 0, none⟩) h3).trans (hfg 0)
  have f5 := (b1.frozen (p := ⟨g, 1, none⟩) h3).trans (hfg 1)
  have f6 := (b1.frozen (p := ⟨g, 2, none⟩) h3).trans (hfg 2)
  have HB1 : Hid (Below B w w1) := b1.mono hB
  clear b1 HI h4 h5 h6 hfg
  go_wp2_with fail
  refine wp_loop_rounds 1 ?_
  rw [rounds_succ]
  have hcl : ∀ ty, (Builtin.clear_ #[25] ty #[.slice (some ⟨g, 0, none⟩) 1 c]).run Try.prog w1 = .ok (.tuple #[]) (w1.setCells g 0 [.int .u64 0, .bool false, .int .i64 0]) := fun ty => run_clear_lk w1 ty g c _ _ _ e4 e5 e6 f4 f5 f6
  obtain ⟨wz, hwz⟩ : ∃ wz, wz = w1.setCells g 0 [.int .u64 0, .bool false, .int .i64 0] := ⟨_, rfl⟩
  have HBz : Hid (Below B w wz) := by
    unfold Hid
    rw [hwz]
    simp only [World.setCells]
    exact ((HB1.out.setCell (p := ⟨g, 0, none⟩) hgb _).setCell (p := ⟨g, 1, none⟩) hgb _).setCell (p := ⟨g, 2, none⟩) hgb _
  rw [← hwz] at hcl
  clear hwz e4 e5 e6 f4 f5 f6
  go_wp2_with fail
  go_ret
  exact ⟨_, rfl, ⟨_, c, rfl, h2, fun e => by (cases e)⟩, HBz.out⟩
end Go.Proofs.Ytffnkgfpbjmkbaa
