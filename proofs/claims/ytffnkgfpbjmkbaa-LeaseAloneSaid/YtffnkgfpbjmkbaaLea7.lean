/- lease: Renew at one lock. -/
import Derived.Test.YtffnkgfpbjmkbaaLea6
namespace Go.Proofs.Ytffnkgfpbjmkbaa
open Go.RowKit
set_option linter.unusedVariables false
set_option linter.unusedSimpArgs false
theorem heap4 (w : World) (o1 o2 o3 o4 : Obj) : ((((w.alloc o1).alloc o2).alloc o3).alloc o4).heap[w.heap.size]? = some o1 ∧ ((((w.alloc o1).alloc o2).alloc o3).alloc o4).heap[w.heap.size + 1]? = some o2 ∧
    ((((w.alloc o1).alloc o2).alloc o3).alloc o4).heap[w.heap.size + 1 + 1]? = some o3 ∧ ((((w.alloc o1).alloc o2).alloc o3).alloc o4).heap[w.heap.size + 1 + 1 + 1]? = some o4 := by
  have h4 := heap_alloc_new (((w.alloc o1).alloc o2).alloc o3) o4
  have h3 := heap_alloc_new ((w.alloc o1).alloc o2) o3
  have h2 := heap_alloc_new (w.alloc o1) o2
  have h1 := heap_alloc_new w o1
  simp only [World.size_alloc] at h4 h3 h2 h1
  refine ⟨?_, ?_, ?_, h4⟩
  · rw [heap_alloc_old _ _ (by simp <;> omega), heap_alloc_old _ _ (by simp <;> omega), heap_alloc_old _ _ (by simp)]; exact h1
  · rw [heap_alloc_old _ _ (by simp <;> omega), heap_alloc_old _ _ (by simp)]; exact h2
  · rw [heap_alloc_old _ _ (by simp)]; exact h3
theorem cells2 {w : World} {b : Nat} {x y : Value} {t : TypeId} (h : w.heap[b]? = some (.cells #[x, y] t)) : w.cell? ⟨b, 0, none⟩ = some x ∧ w.cell? ⟨b, 1, none⟩ = some y ∧ ∀ j, w.frozen? ⟨b, j, none⟩ = false := by
  refine ⟨?_, ?_, fun j => frozen_of_row w _ j _ _ h⟩
  · unfold World.cell?; simp [h]
  · unfold World.cell?; simp [h]
theorem cells1 {w : World} {b : Nat} {x : Value} {t : TypeId} (h : w.heap[b]? = some (.cells #[x] t)) : w.cell? ⟨b, 0, none⟩ = some x := by
  unfold World.cell?; simp [h]
set_option maxRecDepth 20000 in
set_option maxHeartbeats 2000000 in
theorem renew_one (now : Int) (v : Value) (x : Lk) (owner : UInt64) (ticks : Int) (w : World) (h : One w v x) (ho : x.o = owner) (h0 : 0 ≤ now) (h1 : now ≤ 1000000000000) (ht : 0 < ticks ∧ ticks ≤ 1000) :
    Calls Try.prog 10 #[Lc now v, .int .u64 owner.toNat, .int .i64 ticks] w fun e w' => ∃ v', e = .returned (.tuple #[Lc now v', .int .i64 0]) ∧ One w' v' ⟨x.o, x.s, now + ticks⟩ ∧ Below w.heap.size w w' := by
  have HT := Lib.hid (tick_any ticks)
  rw [show tickB ticks = true by unfold tickB; simp; omega] at HT
  have HH := Lib.hid h
  obtain ⟨g, c, rfl, _, _, _, _, _, _⟩ := h
  unfold Lc
  obtain ⟨wx, hwx⟩ : ∃ wx, wx = (((w.alloc (.cells #[.int .i64 now, .slice (some ⟨g, 0, none⟩) 1 c] 27)).alloc (.cells #[.int .i64 ticks] 2)).alloc (.cells #[.int .i64 0, .slice none 0 0] 27)).alloc (.cells #[.int .i64 now, .slice (some ⟨g, 0, none⟩) 1 c] 57) := ⟨_, rfl⟩
  obtain ⟨q1, q2, q3, q4⟩ := heap4 w (.cells #[.int .i64 now, .slice (some ⟨g, 0, none⟩) 1 c] 27) (.cells #[.int .i64 ticks] 2) (.cells #[.int .i64 0, .slice none 0 0] 27) (.cells #[.int .i64 now, .slice (some ⟨g, 0, none⟩) 1 c] 57)
  have hsx : wx.heap.size = w.heap.size + 4 := by rw [hwx]; simp
  have HBx : Hid (Below w.heap.size w wx) := by unfold Hid; rw [hwx]; exact ((((Below.refl _ _).alloc (Nat.le_refl _) _).alloc (by simp) _).alloc (by simp; omega) _).alloc (by simp; omega) _
  rw [← hwx] at q1 q2 q3 q4
  have HCh := Lib.hid (change_one (w.heap.size + 1 + 1 + 1) w.heap.size (w.heap.size + 1) (.slice (some ⟨g, 0, none⟩) 1 c) x owner now ticks wx (HH.out.below HBx.out (Nat.le_refl _)) ho (cells2 q4).2.1 ((cells2 q4).2.2 1) (by omega) (cells2 q1).1 (by omega) (by omega) (cells1 q2) (by omega) (by omega) h0 h1 ht)
  have R0 := (cells2 q3).1
  have R1 := (cells2 q3).2.1
  have FR := (cells2 q3).2.2
  have K0 := (cells2 q4).1
  have HSX := Lib.hid hsx
  have HWX := Lib.hid hwx
  clear q1 q2 q3 q4 HH hsx hwx ho
  go_enter Try.func10, Try.ntmps10
  go_wp2_with fail
  refine (HT.out _).mono ?_
  rintro e w' ⟨rfl, rfl⟩
  go_wp2_with fail
  rw [← HWX.out]
  refine HCh.out.mono ?_
  rintro e w2 ⟨rfl, v', hon, k1, k0, hgr⟩
  have K0' := k0.trans K0
  have R0' := hgr.cell (a := ⟨w.heap.size + 1 + 1, 0, none⟩) R0 (by simp)
  have R1' := hgr.cell (a := ⟨w.heap.size + 1 + 1, 1, none⟩) R1 (by simp)
  have hblk := hgr.block (w.heap.size + 1 + 1) (by have := HSX.out; omega) (by simp)
  have FR0' := (World.frozen?_of_block (a := ⟨w.heap.size + 1 + 1, 0, none⟩) hblk).trans (FR 0)
  have FR1' := (World.frozen?_of_block (a := ⟨w.heap.size + 1 + 1, 1, none⟩) hblk).trans (FR 1)
  have HB2 : Hid (Below w.heap.size w w2) := ⟨hgr.os.trans HBx.out.os, hgr.tape.trans HBx.out.tape, hgr.output.trans HBx.out.output, Nat.le_trans HBx.out.size hgr.size, fun i hi => (hgr.block i (by have := HSX.out; omega) (by simp; omega)).trans (HBx.out.block i hi)⟩
  obtain ⟨gz, cz, hvz, hz1, hz2, hz3, hz4, hz5, hz6⟩ := hon
  subst hvz
  have HON : Hid (One w2 (.slice (some ⟨gz, 0, none⟩) 1 cz) ⟨x.o, x.s, now + ticks⟩) := ⟨gz, cz, rfl, hz1, hz2, hz3, hz4, hz5, hz6⟩
  have hgz : gz ≠ w.heap.size + 1 + 1 := by
    intro e
    rw [e, R1'] at hz5
    cases hz5
  clear k0 K0 hgr hblk R0 R1 FR HWX HSX HBx HCh hz1 hz2 hz3 hz4 hz5 hz6
  go_wp2_with fail
  (try simp only [Exit.inBlock, Exit.then])
  refine bodyPost_cell (V := .agg #[.int .i64 now, .slice (some ⟨gz, 0, none⟩) 1 cz]) rfl rfl ?_ rfl ?_
  · go_simp
  · refine ⟨_, rfl, ?_, ?_⟩
    · exact (HON.out.set_other _ _ (fun e => hgz e.symm)).set_other _ _ (fun e => hgz e.symm)
    · exact (HB2.out.setCell (p := ⟨w.heap.size + 1 + 1, 0, none⟩) (by dsimp only; omega) _).setCell (p := ⟨w.heap.size + 1 + 1, 1, none⟩) (by dsimp only; omega) _
end Go.Proofs.Ytffnkgfpbjmkbaa
