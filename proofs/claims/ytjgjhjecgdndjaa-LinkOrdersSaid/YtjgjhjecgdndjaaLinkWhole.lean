/- whole: the messages that are whole now, where none came too early. -/
import Derived.Test.YtjgjhjecgdndjaaLinkWants
import Derived.Test.YtjgjhjecgdndjaaVarintIter
import Derived.RangeFuncBox
import Derived.Sort.QuietIn
namespace Go.Proofs.Ytjgjhjecgdndjaa
open Go.RowKit Go.Shelf
attribute [local go_sem] Oper.semAt_some
set_option linter.unusedVariables false
set_option linter.unusedSimpArgs false
theorem whole_any (bk : Nat) (a b c : Int) (s : ByteArray) (w : World) : Calls Try.prog 35 #[.pointer (some ⟨bk, 0, none⟩), .agg #[.int .u64 a, .int .i64 b, .int .i64 c, .string s]] w fun e w' => e = .returned (.func (.func 57) #[] #[.pointer (some ⟨w.heap.size + 1, 0, none⟩), .pointer (some ⟨w.heap.size, 0, none⟩)]) ∧ (w.alloc (.cells #[.pointer (some ⟨bk, 0, none⟩)] 67)).alloc (.cells #[.int .u64 a, .int .i64 b, .int .i64 c, .string s] 24) = w' := by
  go_enter Try.func35, Try.ntmps35
  go_wp2
  go_ret
  exact ⟨rfl, rfl⟩
set_option maxRecDepth 100000 in
set_option maxHeartbeats 2000000 in
theorem whole1_yes (n : Nat) (hn : 1 ≤ n) (l bk bf bw B : Nat) (ses : UInt64) (x1 x2 x3 x6 x7 : Value) (s : ByteArray) (W : World) (J : List ByteArray → World → Prop)
    (hJ : ∀ ss W W', J ss W → W.grownBy W' (some bk) → J ss W')
    (hY : ∀ pre x W1, J pre W1 → pre.length < 100 → YieldAt Fence.wide (n - 1) Try.prog l #[.string x] W1 fun e W' => e = .returned (.bool true) ∧ J (pre ++ [x]) W' ∧ ∀ j, j < B → W'.heap[j]? = W1.heap[j]?)
    (hf : W.heap[bf]? = some (.cells #[.int .u64 ses.toNat, .int .i64 0, .int .i64 0, .string s] 24 (0, 0))) (hw : W.cell? ⟨bw, 0, none⟩ = some (.pointer (some ⟨bk, 0, none⟩)))
    (hx : Box8 bk (.int .u64 ses.toNat) x1 x2 x3 (.int .i64 0) (.slice none 0 0) x6 x7 W) (h0 : J [] W) (hB : bk < B ∧ bf < B ∧ bw < B ∧ B ≤ W.heap.size) :
    CallsIn Fence.wide n Try.prog 57 #[.func (.yield l) #[] #[], .pointer (some ⟨bf, 0, none⟩), .pointer (some ⟨bw, 0, none⟩)] W fun e W' => (∃ v, e = .returned v) ∧ J [s] W' ∧ Box8 bk (.int .u64 ses.toNat) x1 x2 x3 (.int .i64 1) (.slice none 0 0) x6 x7 W' ∧ ∀ j, j < B → j ≠ bk → W'.heap[j]? = W.heap[j]? := by
  refine callsIn_of_wp Try.func57 rfl trivial ?_ rfl
  simp only [Try.ntmps57, List.size_toArray, List.length_cons, List.length_nil, Nat.reduceAdd, Nat.reduceSub, Array.replicate_succ, Array.replicate_zero, List.push_toArray, List.append_toArray, List.nil_append, List.cons_append]
  obtain ⟨f0, f1, f2, f3, _⟩ := cells4 hf
  have HX := Lib.hid hx
  have x4 := hx.c4
  have x5 := hx.c5
  clear hx
  gi_wp2
  obtain ⟨Wa, hWa⟩ : ∃ Wa, Wa = W.alloc (.cells #[.int .u64 ses.toNat, .int .i64 0, .int .i64 0, .string s] 24) := ⟨_, rfl⟩
  have HBa : Hid (Below W.heap.size W Wa) := by unfold Hid; rw [hWa]; exact (Below.refl _ _).alloc (Nat.le_refl _) _
  have hsa : Wa.heap.size = W.heap.size + 1 := by rw [hWa]; simp
  have q1 : Wa.heap[W.heap.size]? = some (.cells #[.int .u64 ses.toNat, .int .i64 0, .int .i64 0, .string s] 24) := by rw [hWa]; exact heap_alloc_new _ _
  rw [← hWa]
  clear hWa
  obtain ⟨n0, n1, n2, n3, _⟩ := cells4 q1
  have HXa := Lib.hid (HX.out.below HBa.out HX.out.lt)
  have xa4 := HXa.out.c4
  have xaf := HXa.out.f 4
  have hwa := (HBa.out.cell (p := ⟨bw, 0, none⟩) (by dsimp only; omega)).trans hw
  clear f0 f1 f2 f3 x4 x5 q1
  refine wpIn_loop_rounds 1 ?_
  rw [roundsIn_succ]
  gi_wp2_with fail
  gi_quiet (fail)
  obtain ⟨W1, hW1⟩ : ∃ W1, W1 = (Wa.drewN nq).setCell ⟨bk, 4, none⟩ (.int .i64 1) := ⟨_, rfl⟩
  have hgW : W.grownBy W1 (some bk) := by
    rw [hW1]
    refine ⟨HBa.out.os, HBa.out.tape, HBa.out.output, ?_, fun j hj hne => ?_⟩
    · rw [World.size_setCell]; exact HBa.out.size
    · rw [Below.heap_setCell _ _ _ _ (by dsimp only; exact fun e => hne (by rw [e]))]
      exact HBa.out.block j hj
  have hJ1 := hJ [] W W1 h0 hgW
  have HX1 : Hid (Box8 bk (.int .u64 ses.toNat) x1 x2 x3 (.int .i64 1) (.slice none 0 0) x6 x7 W1) := by unfold Hid; rw [hW1]; exact Box8.set4 (box_of_block (w' := Wa.drewN nq) HXa.out rfl) _
  obtain ⟨fn, tmps, assign, body, hy, hR⟩ := hY [] s W1 hJ1 (by decide)
  have HR := Lib.hid hR
  clear hR
  rw [hW1] at hy
  gi_wp2_with fail
  rw [← hW1]
  have hbw1 : W1.cell? ⟨bw, 0, none⟩ = some (.pointer (some ⟨bk, 0, none⟩)) := by
    rw [hW1, World.cell?_setCell_other _ _ _ _ (by intro e; injection e with e _; omega)]
    exact hwa
  refine HR.out.mono ?_
  rintro e W3 ⟨rfl, hJ3, hk3⟩
  have HX3 : Hid (Box8 bk (.int .u64 ses.toNat) x1 x2 x3 (.int .i64 1) (.slice none 0 0) x6 x7 W3) := box_of_block HX1.out (hk3 bk hB.1)
  have hw3 : W3.cell? ⟨bw, 0, none⟩ = some (.pointer (some ⟨bk, 0, none⟩)) := (World.cell?_of_block (a := ⟨bw, 0, none⟩) (hk3 bw hB.2.2.1)).trans hbw1
  have x35 := HX3.out.c5
  have HK3 : Hid (∀ j, j < B → j ≠ bk → W3.heap[j]? = W.heap[j]?) := by
    intro j hj hne
    rw [hk3 j hj]
    exact hgW.block j (by omega) (fun e => hne (by injection e))
  have HJ3 := Lib.hid hJ3
  clear hJ3 hk3 HX HXa HX1 HR hJ1 hgW hy hW1 xa4 xaf hwa n0 n1 n2 n3 h0 hw hf
  gi_wp2_with fail
  refine bodyPost_ret (results_none rfl _ _ _) rfl ?_
  exact ⟨⟨_, rfl⟩, HJ3.out, HX3.out, HK3.out⟩
set_option maxRecDepth 100000 in
set_option maxHeartbeats 2000000 in
theorem whole1_no (n : Nat) (hn : 1 ≤ n) (l bk bf bw B : Nat) (ses : UInt64) (x1 x2 x3 x5 x6 x7 : Value) (s : ByteArray) (W : World) (J : List ByteArray → World → Prop)
    (hJ : ∀ ss W W', J ss W → W.grownBy W' (some bk) → J ss W')
    (hf : W.heap[bf]? = some (.cells #[.int .u64 ses.toNat, .int .i64 0, .int .i64 0, .string s] 24 (0, 0))) (hw : W.cell? ⟨bw, 0, none⟩ = some (.pointer (some ⟨bk, 0, none⟩)))
    (hx : Box8 bk (.int .u64 ses.toNat) x1 x2 x3 (.int .i64 1) x5 x6 x7 W) (h0 : J [] W) (hB : bk < B ∧ bf < B ∧ bw < B ∧ B ≤ W.heap.size) :
    CallsIn Fence.wide n Try.prog 57 #[.func (.yield l) #[] #[], .pointer (some ⟨bf, 0, none⟩), .pointer (some ⟨bw, 0, none⟩)] W fun e W' => (∃ v, e = .returned v) ∧ J [] W' ∧ Box8 bk (.int .u64 ses.toNat) x1 x2 x3 (.int .i64 1) x5 x6 x7 W' ∧ ∀ j, j < B → j ≠ bk → W'.heap[j]? = W.heap[j]? := by
  refine callsIn_of_wp Try.func57 rfl trivial ?_ rfl
  simp only [Try.ntmps57, List.size_toArray, List.length_cons, List.length_nil, Nat.reduceAdd, Nat.reduceSub, Array.replicate_succ, Array.replicate_zero, List.push_toArray, List.append_toArray, List.nil_append, List.cons_append]
  obtain ⟨f0, f1, f2, f3, _⟩ := cells4 hf
  have HX := Lib.hid hx
  have x4 := hx.c4
  clear hx
  gi_wp2
  obtain ⟨Wa, hWa⟩ : ∃ Wa, Wa = W.alloc (.cells #[.int .u64 ses.toNat, .int .i64 0, .int .i64 0, .string s] 24) := ⟨_, rfl⟩
  have HBa : Hid (Below W.heap.size W Wa) := by unfold Hid; rw [hWa]; exact (Below.refl _ _).alloc (Nat.le_refl _) _
  have q1 : Wa.heap[W.heap.size]? = some (.cells #[.int .u64 ses.toNat, .int .i64 0, .int .i64 0, .string s] 24) := by rw [hWa]; exact heap_alloc_new _ _
  rw [← hWa]
  clear hWa
  obtain ⟨n0, n1, n2, n3, _⟩ := cells4 q1
  have HXa := Lib.hid (HX.out.below HBa.out HX.out.lt)
  have xa4 := HXa.out.c4
  have xaf := HXa.out.f 4
  have hwa := (HBa.out.cell (p := ⟨bw, 0, none⟩) (by dsimp only; omega)).trans hw
  clear f0 f1 f2 f3 x4 q1
  refine wpIn_loop_rounds 1 ?_
  rw [roundsIn_succ]
  gi_wp2_with fail
  gi_quiet (fail)
  gi_wp2_with fail
  have hgW : W.grownBy (Wa.drewN nq) (some bk) := ⟨HBa.out.os, HBa.out.tape, HBa.out.output, HBa.out.size, fun j hj hne => HBa.out.block j hj⟩
  go_end0
  exact ⟨⟨_, rfl⟩, hJ [] W _ h0 hgW, box_of_block (w' := Wa.drewN nq) HXa.out rfl, fun j hj hne => HBa.out.block j (by omega)⟩
end Go.Proofs.Ytjgjhjecgdndjaa
