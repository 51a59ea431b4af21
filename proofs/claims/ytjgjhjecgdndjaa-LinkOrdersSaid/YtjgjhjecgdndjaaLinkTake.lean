/- Take at a first message, and at one that came already. -/
import Derived.Test.YtjgjhjecgdndjaaLinkSeq
import Derived.BigRegion
namespace Go.Proofs.Ytjgjhjecgdndjaa
open Go.RowKit
set_option linter.unusedVariables false
set_option linter.unusedSimpArgs false
theorem read_fr (raw s : ByteArray) (ses : UInt64) (hs : raw.size ≤ 1000000) (hr : lRead raw.data.toList = ((ses.toNat, 0, 0, s.data.toList), 0)) (w : World) : Calls Try.prog 7 #[.string raw] w fun e w' => e = .returned (.tuple #[.agg #[.int .u64 ses.toNat, .int .i64 0, .int .i64 0, .string s], .int .i64 0]) ∧ Below w.heap.size w w' := by
  have h := read_any raw hs w
  rw [hr] at h
  unfold FrV at h
  dsimp only at h
  rw [show (⟨s.data.toList.toArray⟩ : ByteArray) = s from by apply ByteArray.ext; simp] at h
  exact h
set_option maxRecDepth 20000 in
set_option maxHeartbeats 2000000 in
theorem take_first (ses : UInt64) (raw s : ByteArray) (Aw : Option Addr) (nw cw : Nat) (w : World) (hs : raw.size ≤ 1000000) (hr : lRead raw.data.toList = ((ses.toNat, 0, 0, s.data.toList), 0)) (h0 : s ≠ ⟨#[]⟩) :
    Calls Try.prog 14 #[End8 ses.toNat 0 (.slice none 0 0) (.slice Aw nw cw) 0 (.slice none 0 0) 0 false, .string raw] w fun e w' => ∃ v, e = .returned (.tuple #[End8 ses.toNat 0 (.slice none 0 0) (.slice Aw nw cw) 1 (.slice none 0 0) 0 false, v]) ∧ w'.ownsRow w.heap.size 9 1 v 1 [.string s] ∧ Below w.heap.size w w' := by
  have HR := Lib.hid (fun w => read_fr raw s ses hs hr w)
  have HS0 := Lib.hid h0
  have he2 : ¬ s.toList = [] := by
    intro e
    rw [ByteArray.toList_eq] at e
    exact h0 (ByteArray.ext (Array.toList_inj.1 e))
  have he3 : s.toList.isEmpty = false := by simpa using he2
  have he4 : (s.toList == []) = false := by simpa using he2
  unfold End8
  obtain ⟨EV, hEV⟩ : ∃ EV : Array Value, EV = #[.int .u64 ses.toNat, .int .i64 0, .slice none 0 0, .slice Aw nw cw, .int .i64 0, .slice none 0 0, .int .i64 0, .bool false] := ⟨_, rfl⟩
  have q1 := heap_alloc_new w (.cells #[.int .u64 ses.toNat, .int .i64 0, .slice none 0 0, .slice Aw nw cw, .int .i64 0, .slice none 0 0, .int .i64 0, .bool false] 37)
  obtain ⟨wp, hwp⟩ : ∃ wp, wp = w.alloc (.cells #[.int .u64 ses.toNat, .int .i64 0, .slice none 0 0, .slice Aw nw cw, .int .i64 0, .slice none 0 0, .int .i64 0, .bool false] 37) := ⟨_, rfl⟩
  rw [← hwp] at q1
  have HBp : Hid (Below w.heap.size w wp) := by unfold Hid; rw [hwp]; exact (Below.refl _ _).alloc (Nat.le_refl _) _
  have hsp : wp.heap.size = w.heap.size + 1 := by rw [hwp]; simp
  have q2 := heap_alloc_new wp (.cells #[.int .u64 0, .int .i64 0, .slice none 0 0, .slice none 0 0, .int .i64 0, .slice none 0 0, .int .i64 0, .bool false] 37)
  obtain ⟨wo, hwo⟩ : ∃ wo, wo = wp.alloc (.cells #[.int .u64 0, .int .i64 0, .slice none 0 0, .slice none 0 0, .int .i64 0, .slice none 0 0, .int .i64 0, .bool false] 37) := ⟨_, rfl⟩
  rw [← hwo, hsp] at q2
  have HBo : Hid (Below wp.heap.size wp wo) := by unfold Hid; rw [hwo]; exact (Below.refl _ _).alloc (Nat.le_refl _) _
  have hso : wo.heap.size = w.heap.size + 1 + 1 := by rw [hwo]; simp [hsp]
  have HX1 := Lib.hid ((cells8 q1).below HBo.out (by omega))
  have HX2 := Lib.hid (cells8 q2)
  have HB := Lib.hid (HBp.out.trans (HBo.out.mono (by omega)))
  have HWO : Hid ((w.alloc (.cells #[.int .u64 ses.toNat, .int .i64 0, .slice none 0 0, .slice Aw nw cw, .int .i64 0, .slice none 0 0, .int .i64 0, .bool false] 37)).alloc (.cells #[.int .u64 0, .int .i64 0, .slice none 0 0, .slice none 0 0, .int .i64 0, .slice none 0 0, .int .i64 0, .bool false] 37) = wo) := by unfold Hid; rw [← hwp, ← hwo]
  have HSO := Lib.hid hso
  clear q1 q2 hwp hwo hsp hso HBp HBo hEV
  clear wp EV hr hs h0
  go_enter Try.func14, Try.ntmps14
  go_wp2_with fail
  rw [HWO.out]
  refine (HR.out _).mono ?_
  rintro e w1 ⟨rfl, b1⟩
  have hs1 : w.heap.size + 1 + 1 ≤ w1.heap.size := by have := b1.size; have := HSO.out; omega
  have HY1 := Lib.hid (HX1.out.below b1 (by have := HSO.out; omega))
  have HY2 := Lib.hid (HX2.out.below b1 (by have := HSO.out; omega))
  have HB1 := Lib.hid (HB.out.trans (b1.mono HB.out.size))
  clear b1 HX1 HX2 HB HWO HSO
  -- the frame's block
  have q1 := heap_alloc_new w1 (.cells #[.int .u64 ses.toNat, .int .i64 0, .int .i64 0, .string s] 24)
  obtain ⟨w2, hw2⟩ : ∃ w2, w2 = w1.alloc (.cells #[.int .u64 ses.toNat, .int .i64 0, .int .i64 0, .string s] 24) := ⟨_, rfl⟩
  have HW2 : Hid (w1.alloc (.cells #[.int .u64 ses.toNat, .int .i64 0, .int .i64 0, .string s] 24) = w2) := hw2.symm
  have hb2 : Below w1.heap.size w1 w2 := by rw [hw2]; exact (Below.refl _ _).alloc (Nat.le_refl _) _
  have hs2 : w2.heap.size = w1.heap.size + 1 := by rw [hw2]; simp
  rw [← hw2] at q1
  have HZ1 := Lib.hid (HY1.out.below hb2 (by omega))
  have HZ2 := Lib.hid (HY2.out.below hb2 (by omega))
  have q3 := heap_alloc_new w2 (.cells #[.int .u64 ses.toNat, .int .i64 0, .slice none 0 0, .slice Aw nw cw, .int .i64 0, .slice none 0 0, .int .i64 0, .bool false] 69)
  obtain ⟨w3, hw3⟩ : ∃ w3, w3 = w2.alloc (.cells #[.int .u64 ses.toNat, .int .i64 0, .slice none 0 0, .slice Aw nw cw, .int .i64 0, .slice none 0 0, .int .i64 0, .bool false] 69) := ⟨_, rfl⟩
  have HW3 : Hid (w2.alloc (.cells #[.int .u64 ses.toNat, .int .i64 0, .slice none 0 0, .slice Aw nw cw, .int .i64 0, .slice none 0 0, .int .i64 0, .bool false] 69) = w3) := hw3.symm
  have hb3 : Below w2.heap.size w2 w3 := by rw [hw3]; exact (Below.refl _ _).alloc (Nat.le_refl _) _
  have hs3 : w3.heap.size = w2.heap.size + 1 := by rw [hw3]; simp
  rw [← hw3] at q3
  rw [hs2] at q3
  have HK := Lib.hid (cells8 q3)
  have HF := Lib.hid ((hb3.block w1.heap.size (by omega)).trans q1)
  have HU2 := Lib.hid (HZ2.out.below hb3 (by omega))
  have HB3 := Lib.hid ((HB1.out.trans (hb2.mono HB1.out.size)).trans (hb3.mono (by omega)))
  obtain ⟨a0, a1, a2, a3, a4, a5, a6, a7, _, alt⟩ := HY1.out
  have HS2 := Lib.hid hs2
  have HS3 := Lib.hid hs3
  clear q1 q3 hw2 hw3 hb2 hb3 HB1 HY1 HY2 HZ2 HZ1 hs2 hs3
  go_wp2_with fail
  rw [HW2.out, HW3.out]
  refine (wants_first (w1.heap.size + 1) ses 0 0 (.slice Aw nw cw) (.slice none 0 0) s w3 HK.out HS0.out (by omega)).mono ?_
  rintro e w4 ⟨rfl, b4⟩
  have hs2 := HS2.out
  have hs3 := HS3.out
  have HK4 := Lib.hid (HK.out.below b4 (by omega))
  have HF4 := Lib.hid ((b4.block w1.heap.size (by omega)).trans HF.out)
  have HU4 := Lib.hid (HU2.out.below b4 (by omega))
  have HB4 := Lib.hid (HB3.out.trans (b4.mono HB3.out.size))
  have hs4 : w1.heap.size + 2 ≤ w4.heap.size := by have := b4.size; omega
  clear hs2 hs3
  obtain ⟨f0, f1, f2, f3, _⟩ := cells4 HF4.out
  obtain ⟨k0, k1, k2, k3, k4, k5, k6, k7, kf, klt⟩ := HK4.out
  have kf1 := kf 1
  have kf2 := kf 2
  clear b4 HK HF HU2 HB3 HW2 HW3 a0 a1 a2 a3 a4 a5 a6 a7 kf
  go_wp2_with fail
  go_quiet (fail)
  go_wp2_with fail
  go_region
  obtain ⟨w5, hw5⟩ : ∃ w5, w5 = (((w4.drewN (nq + 1)).setCell ⟨w1.heap.size + 1, 2, none⟩ (.slice none 0 0)).setCell ⟨w1.heap.size + 1, 1, none⟩ (.int .i64 0)) := ⟨_, rfl⟩
  have HK5 : Hid (Box8 (w1.heap.size + 1) (.int .u64 ses.toNat) (.int .i64 0) (.slice none 0 0) (.slice Aw nw cw) (.int .i64 0) (.slice none 0 0) (.int .i64 0) (.bool false) w5) := by
    unfold Hid; rw [hw5]
    exact ((box_of_block (w' := w4.drewN (nq + 1)) HK4.out rfl).set2 (.slice none 0 0)).set1 (.int .i64 0)
  have hoth : ∀ j, j ≠ w1.heap.size + 1 → w5.heap[j]? = w4.heap[j]? := by
    intro j hj
    rw [hw5, Below.heap_setCell _ _ _ _ (by dsimp only; exact hj), Below.heap_setCell _ _ _ _ (by dsimp only; exact hj)]
    rfl
  have HF5 := Lib.hid ((hoth w1.heap.size (by omega)).trans HF4.out)
  have HU5 := Lib.hid (box_of_block HU4.out (hoth (w.heap.size + 1) (by omega)))
  have HB5 : Hid (Below w.heap.size w w5) := by
    unfold Hid; rw [hw5]
    exact (((Below.drewN HB4.out (nq + 1)).setCell (p := ⟨w1.heap.size + 1, 2, none⟩) (by dsimp only; omega) _).setCell (p := ⟨w1.heap.size + 1, 1, none⟩) (by dsimp only; omega) _)
  have hs5 : w1.heap.size + 2 ≤ w5.heap.size := by rw [hw5, World.size_setCell, World.size_setCell]; exact hs4
  rw [← hw5]
  clear f0 f1 f2 f3 k0 k1 k2 k3 k4 k5 k6 k7 klt kf1 kf2 HK4 HF4 HU4 HB4 hs4 hoth hw5
  obtain ⟨f0, f1, f2, f3, _⟩ := cells4 HF5.out
  obtain ⟨k0, k1, k2, k3, k4, k5, k6, k7, kf, klt⟩ := HK5.out
  clear kf
  go_wp2_with fail
  go_quiet (fail)
  obtain ⟨w6, hw6⟩ : ∃ w6, w6 = w5.drewN nq := ⟨_, rfl⟩
  have HK6 : Hid (Box8 (w1.heap.size + 1) (.int .u64 ses.toNat) (.int .i64 0) (.slice none 0 0) (.slice Aw nw cw) (.int .i64 0) (.slice none 0 0) (.int .i64 0) (.bool false) w6) := by
    unfold Hid; rw [hw6]; exact box_of_block (w' := w5.drewN nq) HK5.out rfl
  have HF6 : Hid (w6.heap[w1.heap.size]? = some (.cells #[.int .u64 ses.toNat, .int .i64 0, .int .i64 0, .string s] 24)) := by unfold Hid; rw [hw6]; exact HF5.out
  have HU6 : Hid (Box8 (w.heap.size + 1) (.int .u64 0) (.int .i64 0) (.slice none 0 0) (.slice none 0 0) (.int .i64 0) (.slice none 0 0) (.int .i64 0) (.bool false) w6) := by
    unfold Hid; rw [hw6]; exact box_of_block (w' := w5.drewN nq) HU5.out rfl
  have HB6 : Hid (Below w.heap.size w w6) := by unfold Hid; rw [hw6]; exact Below.drewN HB5.out _
  have hs6 : w1.heap.size + 2 ≤ w6.heap.size := by rw [hw6]; exact hs5
  rw [← hw6]
  clear f0 f1 f2 f3 k0 k1 k2 k3 k4 k5 k6 k7 klt HK5 HF5 HU5 HB5 hs5 hw6
  obtain ⟨f0, f1, f2, f3, _⟩ := cells4 HF6.out
  go_wp2_with fail
  refine (whole_any (w1.heap.size + 1) ses.toNat 0 0 s w6).mono ?_
  rintro e w7 ⟨rfl, h7⟩
  -- the two boxes of whole
  have q1 := heap_alloc_new w6 (.cells #[.pointer (some ⟨w1.heap.size + 1, 0, none⟩)] 67)
  obtain ⟨wa, hwa⟩ : ∃ wa, wa = w6.alloc (.cells #[.pointer (some ⟨w1.heap.size + 1, 0, none⟩)] 67) := ⟨_, rfl⟩
  rw [← hwa] at q1 h7
  have hba : Below w6.heap.size w6 wa := by rw [hwa]; exact (Below.refl _ _).alloc (Nat.le_refl _) _
  have hsa : wa.heap.size = w6.heap.size + 1 := by rw [hwa]; simp
  have q2 := heap_alloc_new wa (.cells #[.int .u64 ses.toNat, .int .i64 0, .int .i64 0, .string s] 24)
  have hb7 : Below wa.heap.size wa w7 := by rw [← h7]; exact (Below.refl _ _).alloc (Nat.le_refl _) _
  have hs7 : w7.heap.size = wa.heap.size + 1 := by rw [← h7]; simp
  rw [h7, hsa] at q2
  have q3 : w7.cell? ⟨w6.heap.size, 0, none⟩ = some (.pointer (some ⟨w1.heap.size + 1, 0, none⟩)) := (hb7.cell (p := ⟨w6.heap.size, 0, none⟩) (by dsimp only; omega)).trans (by unfold World.cell?; simp [q1])
  have HBB := hba.trans (hb7.mono (by omega))
  have HK7 := Lib.hid (HK6.out.below HBB (by omega))
  have HU7 := Lib.hid (HU6.out.below HBB (by omega))
  have HB7 := Lib.hid (HB6.out.trans (HBB.mono HB6.out.size))
  have HC := Lib.hid (collect_first (w1.heap.size + 1) (w6.heap.size + 1) w6.heap.size ses _ _ _ _ _ s w7 q2 q3 HK7.out (by omega) (by omega) (by omega))
  have HS7 : Hid (w7.heap.size = w6.heap.size + 2) := by unfold Hid; omega
  clear q1 q2 q3 hba hsa hb7 hs7 h7 HBB HK6 HU6 HB6 HF6 f0 f1 f2 f3
  clear hwa
  go_wp2_with fail
  refine (HC.out).mono ?_
  rintro e w8 h8
  obtain ⟨v, rfl, o8, x8, g8, _⟩ := h8
  obtain ⟨g, cap, rfl⟩ := ownsRow_succ o8
  have HU8 := Lib.hid (box_of_block HU7.out (g8.block (w.heap.size + 1) (by have := HS7.out; omega) (by intro e; injection e; omega)))
  have HO8 := Lib.hid o8
  have HX8 := Lib.hid x8
  have HB8 : Hid (Below w.heap.size w w8) := by
    unfold Hid
    refine ⟨g8.os.trans HB7.out.os, g8.tape.trans HB7.out.tape, g8.output.trans HB7.out.output, Nat.le_trans HB7.out.size g8.size, fun k hk => ?_⟩
    rw [g8.block k (by have := HB7.out.size; omega) (by intro e; injection e; omega)]
    exact HB7.out.block k hk
  have hs8 : w7.heap.size ≤ w8.heap.size := g8.size
  clear o8 x8 g8 HC HK7 HU7 HB7
  obtain ⟨s0, s1, s2, s3, s4, s5, s6, s7, sf, slt⟩ := HX8.out
  obtain ⟨d0, d1, d2, d3, d4, d5, d6, d7, df, dlt⟩ := HU8.out
  have sf6 := sf 6
  have df0 := df 0
  have df1 := df 1
  have df2 := df 2
  have df3 := df 3
  have df4 := df 4
  have df5 := df 5
  have df6 := df 6
  have df7 := df 7
  clear df sf HX8 HU8
  go_wp2_with fail
  (try simp only [Exit.inBlock, Exit.then])
  refine bodyPost_cell (V := .agg #[.int .u64 ses.toNat, .int .i64 0, .slice none 0 0, .slice Aw nw cw, .int .i64 1, .slice none 0 0, .int .i64 0, .bool false]) rfl rfl ?_ rfl ?_
  · go_simp
  · refine ⟨_, rfl, ?_, below_set8 (HB8.out.setCell (p := ⟨w1.heap.size + 1, 6, none⟩) (by dsimp only; omega) _) (by omega) _ _ _ _ _ _ _ _⟩
    exact ownsRow_le' (owns_set8 (ownsRow_setCell_below HO8.out (a := ⟨w1.heap.size + 1, 6, none⟩) (by have := HS7.out; dsimp only; omega) _) (by have := HS7.out; omega) _ _ _ _ _ _ _ _) (by have := HS7.out; omega)
set_option maxRecDepth 20000 in
set_option maxHeartbeats 2000000 in
theorem take_again (ses : UInt64) (raw s : ByteArray) (Aw : Option Addr) (nw cw : Nat) (w : World) (hs : raw.size ≤ 1000000) (hr : lRead raw.data.toList = ((ses.toNat, 0, 0, s.data.toList), 0)) (h0 : s ≠ ⟨#[]⟩) :
    Calls Try.prog 14 #[End8 ses.toNat 0 (.slice none 0 0) (.slice Aw nw cw) 1 (.slice none 0 0) 0 false, .string raw] w fun e w' => e = .returned (.tuple #[End8 ses.toNat 0 (.slice none 0 0) (.slice Aw nw cw) 1 (.slice none 0 0) 0 false, .slice none 0 0]) ∧ Below w.heap.size w w' := by
  have HR := Lib.hid (fun w => read_fr raw s ses hs hr w)
  have HS0 := Lib.hid h0
  have he2 : ¬ s.toList = [] := by
    intro e
    rw [ByteArray.toList_eq] at e
    exact h0 (ByteArray.ext (Array.toList_inj.1 e))
  have he3 : s.toList.isEmpty = false := by simpa using he2
  have he4 : (s.toList == []) = false := by simpa using he2
  unfold End8
  obtain ⟨EV, hEV⟩ : ∃ EV : Array Value, EV = #[.int .u64 ses.toNat, .int .i64 0, .slice none 0 0, .slice Aw nw cw, .int .i64 1, .slice none 0 0, .int .i64 0, .bool false] := ⟨_, rfl⟩
  have q1 := heap_alloc_new w (.cells #[.int .u64 ses.toNat, .int .i64 0, .slice none 0 0, .slice Aw nw cw, .int .i64 1, .slice none 0 0, .int .i64 0, .bool false] 37)
  obtain ⟨wp, hwp⟩ : ∃ wp, wp = w.alloc (.cells #[.int .u64 ses.toNat, .int .i64 0, .slice none 0 0, .slice Aw nw cw, .int .i64 1, .slice none 0 0, .int .i64 0, .bool false] 37) := ⟨_, rfl⟩
  rw [← hwp] at q1
  have HBp : Hid (Below w.heap.size w wp) := by unfold Hid; rw [hwp]; exact (Below.refl _ _).alloc (Nat.le_refl _) _
  have hsp : wp.heap.size = w.heap.size + 1 := by rw [hwp]; simp
  have q2 := heap_alloc_new wp (.cells #[.int .u64 0, .int .i64 0, .slice none 0 0, .slice none 0 0, .int .i64 0, .slice none 0 0, .int .i64 0, .bool false] 37)
  obtain ⟨wo, hwo⟩ : ∃ wo, wo = wp.alloc (.cells #[.int .u64 0, .int .i64 0, .slice none 0 0, .slice none 0 0, .int .i64 0, .slice none 0 0, .int .i64 0, .bool false] 37) := ⟨_, rfl⟩
  rw [← hwo, hsp] at q2
  have HBo : Hid (Below wp.heap.size wp wo) := by unfold Hid; rw [hwo]; exact (Below.refl _ _).alloc (Nat.le_refl _) _
  have hso : wo.heap.size = w.heap.size + 1 + 1 := by rw [hwo]; simp [hsp]
  have HX1 := Lib.hid ((cells8 q1).below HBo.out (by omega))
  have HX2 := Lib.hid (cells8 q2)
  have HB := Lib.hid (HBp.out.trans (HBo.out.mono (by omega)))
  have HWO : Hid ((w.alloc (.cells #[.int .u64 ses.toNat, .int .i64 0, .slice none 0 0, .slice Aw nw cw, .int .i64 1, .slice none 0 0, .int .i64 0, .bool false] 37)).alloc (.cells #[.int .u64 0, .int .i64 0, .slice none 0 0, .slice none 0 0, .int .i64 0, .slice none 0 0, .int .i64 0, .bool false] 37) = wo) := by unfold Hid; rw [← hwp, ← hwo]
  have HSO := Lib.hid hso
  clear q1 q2 hwp hwo hsp hso HBp HBo hEV
  clear wp EV hr hs h0
  go_enter Try.func14, Try.ntmps14
  go_wp2_with fail
  rw [HWO.out]
  refine (HR.out _).mono ?_
  rintro e w1 ⟨rfl, b1⟩
  have hs1 : w.heap.size + 1 + 1 ≤ w1.heap.size := by have := b1.size; have := HSO.out; omega
  have HY1 := Lib.hid (HX1.out.below b1 (by have := HSO.out; omega))
  have HY2 := Lib.hid (HX2.out.below b1 (by have := HSO.out; omega))
  have HB1 := Lib.hid (HB.out.trans (b1.mono HB.out.size))
  clear b1 HX1 HX2 HB HWO HSO
  -- the frame's block
  have q1 := heap_alloc_new w1 (.cells #[.int .u64 ses.toNat, .int .i64 0, .int .i64 0, .string s] 24)
  obtain ⟨w2, hw2⟩ : ∃ w2, w2 = w1.alloc (.cells #[.int .u64 ses.toNat, .int .i64 0, .int .i64 0, .string s] 24) := ⟨_, rfl⟩
  have HW2 : Hid (w1.alloc (.cells #[.int .u64 ses.toNat, .int .i64 0, .int .i64 0, .string s] 24) = w2) := hw2.symm
  have hb2 : Below w1.heap.size w1 w2 := by rw [hw2]; exact (Below.refl _ _).alloc (Nat.le_refl _) _
  have hs2 : w2.heap.size = w1.heap.size + 1 := by rw [hw2]; simp
  rw [← hw2] at q1
  have HZ1 := Lib.hid (HY1.out.below hb2 (by omega))
  have HZ2 := Lib.hid (HY2.out.below hb2 (by omega))
  have q3 := heap_alloc_new w2 (.cells #[.int .u64 ses.toNat, .int .i64 0, .slice none 0 0, .slice Aw nw cw, .int .i64 1, .slice none 0 0, .int .i64 0, .bool false] 69)
  obtain ⟨w3, hw3⟩ : ∃ w3, w3 = w2.alloc (.cells #[.int .u64 ses.toNat, .int .i64 0, .slice none 0 0, .slice Aw nw cw, .int .i64 1, .slice none 0 0, .int .i64 0, .bool false] 69) := ⟨_, rfl⟩
  have HW3 : Hid (w2.alloc (.cells #[.int .u64 ses.toNat, .int .i64 0, .slice none 0 0, .slice Aw nw cw, .int .i64 1, .slice none 0 0, .int .i64 0, .bool false] 69) = w3) := hw3.symm
  have hb3 : Below w2.heap.size w2 w3 := by rw [hw3]; exact (Below.refl _ _).alloc (Nat.le_refl _) _
  have hs3 : w3.heap.size = w2.heap.size + 1 := by rw [hw3]; simp
  rw [← hw3] at q3
  rw [hs2] at q3
  have HK := Lib.hid (cells8 q3)
  have HF := Lib.hid ((hb3.block w1.heap.size (by omega)).trans q1)
  have HU2 := Lib.hid (HZ2.out.below hb3 (by omega))
  have HB3 := Lib.hid ((HB1.out.trans (hb2.mono HB1.out.size)).trans (hb3.mono (by omega)))
  obtain ⟨a0, a1, a2, a3, a4, a5, a6, a7, _, alt⟩ := HY1.out
  have HS2 := Lib.hid hs2
  have HS3 := Lib.hid hs3
  clear q1 q3 hw2 hw3 hb2 hb3 HB1 HY1 HY2 HZ2 HZ1 hs2 hs3
  go_wp2_with fail
  rw [HW2.out, HW3.out]
  refine (wants_first (w1.heap.size + 1) ses 1 0 (.slice Aw nw cw) (.slice none 0 0) s w3 HK.out HS0.out (by omega)).mono ?_
  rintro e w4 ⟨rfl, b4⟩
  have hs2 := HS2.out
  have hs3 := HS3.out
  have HK4 := Lib.hid (HK.out.below b4 (by omega))
  have HF4 := Lib.hid ((b4.block w1.heap.size (by omega)).trans HF.out)
  have HU4 := Lib.hid (HU2.out.below b4 (by omega))
  have HB4 := Lib.hid (HB3.out.trans (b4.mono HB3.out.size))
  have hs4 : w1.heap.size + 2 ≤ w4.heap.size := by have := b4.size; omega
  clear hs2 hs3
  obtain ⟨f0, f1, f2, f3, _⟩ := cells4 HF4.out
  obtain ⟨k0, k1, k2, k3, k4, k5, k6, k7, kf, klt⟩ := HK4.out
  have kf1 := kf 1
  have kf2 := kf 2
  clear b4 HK HF HU2 HB3 HW2 HW3 a0 a1 a2 a3 a4 a5 a6 a7 kf
  go_wp2_with fail
  go_quiet (fail)
  go_wp2_with fail
  go_region
  obtain ⟨w5, hw5⟩ : ∃ w5, w5 = (((w4.drewN (nq + 1)).setCell ⟨w1.heap.size + 1, 2, none⟩ (.slice none 0 0)).setCell ⟨w1.heap.size + 1, 1, none⟩ (.int .i64 0)) := ⟨_, rfl⟩
  have HK5 : Hid (Box8 (w1.heap.size + 1) (.int .u64 ses.toNat) (.int .i64 0) (.slice none 0 0) (.slice Aw nw cw) (.int .i64 1) (.slice none 0 0) (.int .i64 0) (.bool false) w5) := by
    unfold Hid; rw [hw5]
    exact ((box_of_block (w' := w4.drewN (nq + 1)) HK4.out rfl).set2 (.slice none 0 0)).set1 (.int .i64 0)
  have hoth : ∀ j, j ≠ w1.heap.size + 1 → w5.heap[j]? = w4.heap[j]? := by
    intro j hj
    rw [hw5, Below.heap_setCell _ _ _ _ (by dsimp only; exact hj), Below.heap_setCell _ _ _ _ (by dsimp only; exact hj)]
    rfl
  have HF5 := Lib.hid ((hoth w1.heap.size (by omega)).trans HF4.out)
  have HU5 := Lib.hid (box_of_block HU4.out (hoth (w.heap.size + 1) (by omega)))
  have HB5 : Hid (Below w.heap.size w w5) := by
    unfold Hid; rw [hw5]
    exact (((Below.drewN HB4.out (nq + 1)).setCell (p := ⟨w1.heap.size + 1, 2, none⟩) (by dsimp only; omega) _).setCell (p := ⟨w1.heap.size + 1, 1, none⟩) (by dsimp only; omega) _)
  have hs5 : w1.heap.size + 2 ≤ w5.heap.size := by rw [hw5, World.size_setCell, World.size_setCell]; exact hs4
  rw [← hw5]
  clear f0 f1 f2 f3 k0 k1 k2 k3 k4 k5 k6 k7 klt kf1 kf2 HK4 HF4 HU4 HB4 hs4 hoth hw5
  obtain ⟨f0, f1, f2, f3, _⟩ := cells4 HF5.out
  obtain ⟨k0, k1, k2, k3, k4, k5, k6, k7, kf, klt⟩ := HK5.out
  clear kf
  go_wp2_with fail
  go_quiet (fail)
  obtain ⟨w6, hw6⟩ : ∃ w6, w6 = w5.drewN nq := ⟨_, rfl⟩
  have HK6 : Hid (Box8 (w1.heap.size + 1) (.int .u64 ses.toNat) (.int .i64 0) (.slice none 0 0) (.slice Aw nw cw) (.int .i64 1) (.slice none 0 0) (.int .i64 0) (.bool false) w6) := by
    unfold Hid; rw [hw6]; exact box_of_block (w' := w5.drewN nq) HK5.out rfl
  have HF6 : Hid (w6.heap[w1.heap.size]? = some (.cells #[.int .u64 ses.toNat, .int .i64 0, .int .i64 0, .string s] 24)) := by unfold Hid; rw [hw6]; exact HF5.out
  have HU6 : Hid (Box8 (w.heap.size + 1) (.int .u64 0) (.int .i64 0) (.slice none 0 0) (.slice none 0 0) (.int .i64 0) (.slice none 0 0) (.int .i64 0) (.bool false) w6) := by
    unfold Hid; rw [hw6]; exact box_of_block (w' := w5.drewN nq) HU5.out rfl
  have HB6 : Hid (Below w.heap.size w w6) := by unfold Hid; rw [hw6]; exact Below.drewN HB5.out _
  have hs6 : w1.heap.size + 2 ≤ w6.heap.size := by rw [hw6]; exact hs5
  rw [← hw6]
  clear f0 f1 f2 f3 k0 k1 k2 k3 k4 k5 k6 k7 klt HK5 HF5 HU5 HB5 hs5 hw6
  obtain ⟨f0, f1, f2, f3, _⟩ := cells4 HF6.out
  go_wp2_with fail
  refine (whole_any (w1.heap.size + 1) ses.toNat 0 0 s w6).mono ?_
  rintro e w7 ⟨rfl, h7⟩
  -- the two boxes of whole
  have q1 := heap_alloc_new w6 (.cells #[.pointer (some ⟨w1.heap.size + 1, 0, none⟩)] 67)
  obtain ⟨wa, hwa⟩ : ∃ wa, wa = w6.alloc (.cells #[.pointer (some ⟨w1.heap.size + 1, 0, none⟩)] 67) := ⟨_, rfl⟩
  rw [← hwa] at q1 h7
  have hba : Below w6.heap.size w6 wa := by rw [hwa]; exact (Below.refl _ _).alloc (Nat.le_refl _) _
  have hsa : wa.heap.size = w6.heap.size + 1 := by rw [hwa]; simp
  have q2 := heap_alloc_new wa (.cells #[.int .u64 ses.toNat, .int .i64 0, .int .i64 0, .string s] 24)
  have hb7 : Below wa.heap.size wa w7 := by rw [← h7]; exact (Below.refl _ _).alloc (Nat.le_refl _) _
  have hs7 : w7.heap.size = wa.heap.size + 1 := by rw [← h7]; simp
  rw [h7, hsa] at q2
  have q3 : w7.cell? ⟨w6.heap.size, 0, none⟩ = some (.pointer (some ⟨w1.heap.size + 1, 0, none⟩)) := (hb7.cell (p := ⟨w6.heap.size, 0, none⟩) (by dsimp only; omega)).trans (by unfold World.cell?; simp [q1])
  have HBB := hba.trans (hb7.mono (by omega))
  have HK7 := Lib.hid (HK6.out.below HBB (by omega))
  have HU7 := Lib.hid (HU6.out.below HBB (by omega))
  have HB7 := Lib.hid (HB6.out.trans (HBB.mono HB6.out.size))
  have HC := Lib.hid (collect_again (w1.heap.size + 1) (w6.heap.size + 1) w6.heap.size ses _ _ _ _ _ _ s w7 q2 q3 HK7.out (by omega) (by omega) (by omega))
  have HS7 : Hid (w7.heap.size = w6.heap.size + 2) := by unfold Hid; omega
  clear q1 q2 q3 hba hsa hb7 hs7 h7 HBB HK6 HU6 HB6 HF6 f0 f1 f2 f3
  clear hwa
  go_wp2_with fail
  refine (HC.out).mono ?_
  rintro e w8 h8
  obtain ⟨v, rfl, o8, x8, g8, n8⟩ := h8
  obtain rfl := n8 rfl
  have HU8 := Lib.hid (box_of_block HU7.out (g8.block (w.heap.size + 1) (by have := HS7.out; omega) (by intro e; injection e; omega)))
  have HX8 := Lib.hid x8
  have HB8 : Hid (Below w.heap.size w w8) := by
    unfold Hid
    refine ⟨g8.os.trans HB7.out.os, g8.tape.trans HB7.out.tape, g8.output.trans HB7.out.output, Nat.le_trans HB7.out.size g8.size, fun k hk => ?_⟩
    rw [g8.block k (by have := HB7.out.size; omega) (by intro e; injection e; omega)]
    exact HB7.out.block k hk
  have hs8 : w7.heap.size ≤ w8.heap.size := g8.size
  clear o8 x8 g8 n8 HC HK7 HU7 HB7
  obtain ⟨s0, s1, s2, s3, s4, s5, s6, s7, sf, slt⟩ := HX8.out
  obtain ⟨d0, d1, d2, d3, d4, d5, d6, d7, df, dlt⟩ := HU8.out
  have df0 := df 0
  have df1 := df 1
  have df2 := df 2
  have df3 := df 3
  have df4 := df 4
  have df5 := df 5
  have df6 := df 6
  have df7 := df 7
  clear df sf HX8 HU8
  go_wp2_with fail
  (try simp only [Exit.inBlock, Exit.then])
  refine bodyPost_cell (V := .agg #[.int .u64 ses.toNat, .int .i64 0, .slice none 0 0, .slice Aw nw cw, .int .i64 1, .slice none 0 0, .int .i64 0, .bool false]) rfl rfl ?_ rfl ?_
  · go_simp
  · exact ⟨rfl, below_set8 HB8.out (by omega) _ _ _ _ _ _ _ _⟩
end Go.Proofs.Ytjgjhjecgdndjaa
