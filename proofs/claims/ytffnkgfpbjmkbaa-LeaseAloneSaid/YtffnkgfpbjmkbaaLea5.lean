/- lease: Ask where one holds alone; Holds. -/
import Derived.Test.YtffnkgfpbjmkbaaLea4
namespace Go.Proofs.Ytffnkgfpbjmkbaa
open Go.RowKit
set_option linter.unusedVariables false
set_option linter.unusedSimpArgs false
set_option maxRecDepth 20000 in
set_option maxHeartbeats 2000000 in
theorem ask_busy (now : Int) (v : Value) (x : Lk) (owner : UInt64) (shared : Bool) (ticks : Int) (w : World) (h : One w v x) (hs : x.s = false) (hne : x.o ≠ owner) (ht : 0 < ticks ∧ ticks ≤ 1000) :
    Calls Try.prog 7 #[Lc now v, .int .u64 owner.toNat, .bool shared, .int .i64 ticks] w fun e w' => e = .returned (.tuple #[Lc now v, .int .i64 14]) ∧ Below w.heap.size w w' := by
  have HT := Lib.hid (tick_any ticks)
  rw [show tickB ticks = true by unfold tickB; simp; omega] at HT
  have HCn := Lib.hid (fun w' (b : Below w.heap.size w w') => conA_one v x w' (h.below b (Nat.le_refl _)))
  rw [hs] at HCn
  have HAT := Lib.hid (fun p w' (b : Below w.heap.size w w') => at_one p v x owner w' (h.below b (Nat.le_refl _)))
  rw [show decide (x.o = owner) = false by simpa using hne] at HAT
  obtain ⟨g, c, rfl, h1, h2, h3, h4, h5, h6⟩ := h
  have hc9 : c ≤ 9223372036854775807 := by unfold maxLen at h2; omega
  clear h1 h2 h3 h4 h5 h6 hs hne
  generalize (if x.o < owner then (1 : Int) else 0) = i at *
  unfold Lc
  have hb3 : Below w.heap.size w (((w.alloc (.cells #[.int .i64 now, .slice (some ⟨g, 0, none⟩) 1 c] 27)).alloc (.cells #[.int .i64 0, .slice none 0 0] 27)).alloc (.cells #[.int .i64 now, .slice (some ⟨g, 0, none⟩) 1 c] 57)) := (((Below.refl _ _).alloc (Nat.le_refl _) _).alloc (by simp) _).alloc (by simp; omega) _
  have HB3 := Lib.hid hb3
  clear hb3
  have H3 := two3 w (.int .i64 now) (.slice (some ⟨g, 0, none⟩) 1 c) 27 (.int .i64 0) (.slice none 0 0) 27 (.int .i64 now) (.slice (some ⟨g, 0, none⟩) 1 c) 57
  go_enter Try.func7, Try.ntmps7
  go_wp2_with fail
  refine Calls.mono (HAT.out _ _ HB3.out H3.2.2.2.2.1) ?_
  rintro e w1 ⟨rfl, b1⟩
  have HB1 : Hid (Below w.heap.size w w1) := HB3.out.trans (b1.mono HB3.out.size)
  have X0 := (b1.cell (p := ⟨w.heap.size, 0, none⟩) (by simp; omega)).trans H3.1
  have X1 := (b1.cell (p := ⟨w.heap.size, 1, none⟩) (by simp; omega)).trans H3.2.1
  have R0 := (b1.cell (p := ⟨w.heap.size + 1, 0, none⟩) (by simp)).trans H3.2.2.1
  have R1 := (b1.cell (p := ⟨w.heap.size + 1, 1, none⟩) (by simp)).trans H3.2.2.2.1
  have FR0 := (b1.frozen (p := ⟨w.heap.size + 1, 0, none⟩) (by simp)).trans (H3.2.2.2.2.2.2.1 0)
  have FR1 := (b1.frozen (p := ⟨w.heap.size + 1, 1, none⟩) (by simp)).trans (H3.2.2.2.2.2.2.1 1)
  have HSZ : Hid (w.heap.size + 3 ≤ w1.heap.size) := by unfold Hid; have := b1.size; simp at this; omega
  clear b1 H3 HB3 HAT
  go_wp2_with fail
  refine (HCn.out _ HB1.out).mono ?_
  rintro e w2 ⟨rfl, b2⟩
  have HB2 : Hid (Below w.heap.size w w2) := HB1.out.trans (b2.mono HB1.out.size)
  have Y0 := (b2.cell (p := ⟨w.heap.size, 0, none⟩) (by have := HSZ.out; dsimp only; omega)).trans X0
  have Y1 := (b2.cell (p := ⟨w.heap.size, 1, none⟩) (by have := HSZ.out; dsimp only; omega)).trans X1
  have S0 := (b2.cell (p := ⟨w.heap.size + 1, 0, none⟩) (by have := HSZ.out; dsimp only; omega)).trans R0
  have S1 := (b2.cell (p := ⟨w.heap.size + 1, 1, none⟩) (by have := HSZ.out; dsimp only; omega)).trans R1
  have GR0 := (b2.frozen (p := ⟨w.heap.size + 1, 0, none⟩) (by have := HSZ.out; dsimp only; omega)).trans FR0
  have GR1 := (b2.frozen (p := ⟨w.heap.size + 1, 1, none⟩) (by have := HSZ.out; dsimp only; omega)).trans FR1
  clear b2 X0 X1 R0 R1 FR0 FR1 HB1 HCn
  go_wp2_with fail
  refine (HT.out _).mono ?_
  rintro e w' ⟨rfl, rfl⟩
  go_wp2_with fail
  (try simp only [Exit.inBlock, Exit.then])
  refine bodyPost_cell (V := .agg #[.int .i64 now, .slice (some ⟨g, 0, none⟩) 1 c]) rfl rfl ?_ rfl ?_
  · go_simp
  · refine ⟨rfl, ?_⟩
    exact (HB2.out.setCell (p := ⟨w.heap.size + 1, 0, none⟩) (by dsimp only; omega) _).setCell (p := ⟨w.heap.size + 1, 1, none⟩) (by dsimp only; omega) _
theorem two2 (w : World) (a b : Value) (t : TypeId) (c d : Value) (t2 : TypeId) :
    ((w.alloc (.cells #[a, b] t)).alloc (.cells #[c, d] t2)).cell? ⟨w.heap.size, 0, none⟩ = some a ∧ ((w.alloc (.cells #[a, b] t)).alloc (.cells #[c, d] t2)).cell? ⟨w.heap.size, 1, none⟩ = some b ∧
    ((w.alloc (.cells #[a, b] t)).alloc (.cells #[c, d] t2)).cell? ⟨w.heap.size + 1, 1, none⟩ = some d := by
  have h2 : ((w.alloc (.cells #[a, b] t)).alloc (.cells #[c, d] t2)).heap[w.heap.size + 1]? = some (.cells #[c, d] t2) := by
    have := heap_alloc_new (w.alloc (.cells #[a, b] t)) (.cells #[c, d] t2)
    simpa using this
  have h1 : ((w.alloc (.cells #[a, b] t)).alloc (.cells #[c, d] t2)).heap[w.heap.size]? = some (.cells #[a, b] t) := by
    rw [heap_alloc_old _ _ (by simp)]
    exact heap_alloc_new _ _
  generalize (w.alloc (.cells #[a, b] t)).alloc (.cells #[c, d] t2) = W at *
  refine ⟨?_, ?_, ?_⟩
  · unfold World.cell?; simp [h1]
  · unfold World.cell?; simp [h1]
  · unfold World.cell?; simp [h2]
set_option maxRecDepth 20000 in
set_option maxHeartbeats 2000000 in
theorem holds_one (now : Int) (v : Value) (x : Lk) (owner : UInt64) (w : World) (h : One w v x) (ho : x.o = owner) :
    Calls Try.prog 9 #[Lc now v, .int .u64 owner.toNat] w fun e w' => e = .returned (.tuple #[.bool true, .bool (!x.s)]) ∧ Below w.heap.size w w' := by
  have HH := Lib.hid h
  have HAT := Lib.hid (fun p w' (b : Below w.heap.size w w') => at_one p v x owner w' (h.below b (Nat.le_refl _)))
  rw [show decide (x.o = owner) = true by simpa using ho, ho, if_neg (UInt64.lt_irrefl owner)] at HAT
  obtain ⟨g, c, rfl, h1, h2, h3, h4, h5, h6⟩ := h
  have hc9 : c ≤ 9223372036854775807 := by unfold maxLen at h2; omega
  clear h2 h4 h6 ho
  unfold Lc
  have hb2 : Below w.heap.size w ((w.alloc (.cells #[.int .i64 now, .slice (some ⟨g, 0, none⟩) 1 c] 27)).alloc (.cells #[.int .i64 now, .slice (some ⟨g, 0, none⟩) 1 c] 57)) := ((Below.refl _ _).alloc (Nat.le_refl _) _).alloc (by simp) _
  have HB2 := Lib.hid hb2
  clear hb2
  have H2 := two2 w (.int .i64 now) (.slice (some ⟨g, 0, none⟩) 1 c) 27 (.int .i64 now) (.slice (some ⟨g, 0, none⟩) 1 c) 57
  go_enter Try.func9, Try.ntmps9
  go_wp2_with fail
  refine Calls.mono (HAT.out _ _ HB2.out H2.2.2) ?_
  rintro e w1 ⟨rfl, b1⟩
  have HB1 : Hid (Below w.heap.size w w1) := HB2.out.trans (b1.mono HB2.out.size)
  have X1 := (b1.cell (p := ⟨w.heap.size, 1, none⟩) (by simp; omega)).trans H2.2.1
  have h5' := (HB1.out.cell (p := ⟨g, 1, none⟩) h3).trans h5
  clear b1 H2 HB2 HAT h5
  go_wp2_with fail
  go_quiet (fail)
  go_wp2_with fail
  go_ret2
  exact ⟨rfl, Below.drewN HB1.out _⟩
set_option maxRecDepth 20000 in
set_option maxHeartbeats 2000000 in
theorem holds_zero (now : Int) (v : Value) (owner : UInt64) (w : World) (h : Zero v) :
    Calls Try.prog 9 #[Lc now v, .int .u64 owner.toNat] w fun e w' => e = .returned (.tuple #[.bool false, .bool false]) ∧ Below w.heap.size w w' := by
  have HAT := Lib.hid (fun p w => at_zero p undef v owner w h)
  obtain ⟨A, c, rfl, h2, h3⟩ := h
  clear h2 h3
  unfold Lc
  have hb2 : Below w.heap.size w ((w.alloc (.cells #[.int .i64 now, .slice A 0 c] 27)).alloc (.cells #[.int .i64 now, .slice A 0 c] 57)) := ((Below.refl _ _).alloc (Nat.le_refl _) _).alloc (by simp) _
  have HB2 := Lib.hid hb2
  clear hb2
  have H2 := two2 w (.int .i64 now) (.slice A 0 c) 27 (.int .i64 now) (.slice A 0 c) 57
  go_enter Try.func9, Try.ntmps9
  go_wp2_with fail
  refine Calls.mono (HAT.out _ _ H2.2.2) ?_
  rintro e w1 ⟨rfl, rfl⟩
  go_wp2_with fail
  go_quiet (fail)
  go_wp2_with fail
  go_ret2
  exact ⟨rfl, Below.drewN HB2.out _⟩
end Go.Proofs.Ytffnkgfpbjmkbaa
