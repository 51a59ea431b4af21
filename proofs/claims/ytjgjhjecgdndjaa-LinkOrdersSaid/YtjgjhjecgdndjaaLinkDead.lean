/- An end that is dead: Send, Tick; an end at its last tick. -/
import Derived.Test.YtjgjhjecgdndjaaLinkTick
namespace Go.Proofs.Ytjgjhjecgdndjaa
open Go.RowKit
set_option linter.unusedVariables false
set_option linter.unusedSimpArgs false
set_option maxRecDepth 20000 in
set_option maxHeartbeats 2000000 in
theorem send_dead (ses : UInt64) (base next idle : Int) (A1 A2 A3 : Option Addr) (n1 c1 n2 c2 n3 c3 : Nat) (s : ByteArray) (w : World) :
    Calls Try.prog 12 #[End8 ses.toNat base (.slice A1 n1 c1) (.slice A2 n2 c2) next (.slice A3 n3 c3) idle true, .string s] w fun e w' => e = .returned (.tuple #[End8 ses.toNat base (.slice A1 n1 c1) (.slice A2 n2 c2) next (.slice A3 n3 c3) idle true, .int .i64 15]) ∧ Below w.heap.size w w' := by
  unfold End8
  go_enter Try.func12, Try.ntmps12
  go_wp2_with fail
  (try simp only [Exit.inBlock, Exit.then])
  refine bodyPost_cell (V := .agg #[.int .u64 ses.toNat, .int .i64 base, .slice A1 n1 c1, .slice A2 n2 c2, .int .i64 next, .slice A3 n3 c3, .int .i64 idle, .bool true]) rfl rfl ?_ rfl ?_
  · go_simp
  · exact ⟨rfl, ((Below.refl _ _).alloc (Nat.le_refl _) _).alloc (by simp) _⟩
set_option maxRecDepth 20000 in
set_option maxHeartbeats 2000000 in
theorem tick_dead (ses : UInt64) (base next idle : Int) (A1 A2 A3 : Option Addr) (n1 c1 n2 c2 n3 c3 : Nat) (w : World) :
    Calls Try.prog 13 #[End8 ses.toNat base (.slice A1 n1 c1) (.slice A2 n2 c2) next (.slice A3 n3 c3) idle true] w fun e w' => e = .returned (.tuple #[End8 ses.toNat base (.slice A1 n1 c1) (.slice A2 n2 c2) next (.slice A3 n3 c3) idle true, .slice none 0 0]) ∧ Below w.heap.size w w' := by
  unfold End8
  go_enter Try.func13, Try.ntmps13
  go_wp2_with fail
  (try simp only [Exit.inBlock, Exit.then])
  refine bodyPost_cell (V := .agg #[.int .u64 ses.toNat, .int .i64 base, .slice A1 n1 c1, .slice A2 n2 c2, .int .i64 next, .slice A3 n3 c3, .int .i64 idle, .bool true]) rfl rfl ?_ rfl ?_
  · go_simp
  · exact ⟨rfl, ((Below.refl _ _).alloc (Nat.le_refl _) _).alloc (by simp) _⟩
set_option maxRecDepth 20000 in
set_option maxHeartbeats 2000000 in
theorem tick_last (ses : UInt64) (base next : Int) (vo vw : Value) (Ae : Option Addr) (ne ce : Nat) (lo lw L : List ByteArray) (k : Nat) (w : World) (ho : StrsN w vo lo) (hw : StrsN w vw lw) (h4 : lo.length ≤ 4) (hlw : lw.length ≤ 100000) (hk : k = min (4 - lo.length) lw.length) (hL : L = lo ++ lw.take k) :
    Calls Try.prog 13 #[End8 ses.toNat base vo vw next (.slice Ae ne ce) 39 false] w fun e w' => ∃ vo' vw', e = .returned (.tuple #[End8 ses.toNat base vo' vw' next (.slice Ae ne ce) 40 true, .slice none 0 0]) ∧ StrsN w' vo' L ∧ (StrsN w' vw' (lw.drop k) ∧ SrcV w w' vw vw' ∧ SrcV w w' vo vo') ∧ Below w.heap.size w w' := by
  have HO := Lib.hid ho
  have HWT := Lib.hid hw
  have HK := Lib.hid hk
  have HL := Lib.hid hL
  obtain ⟨A, ca, rfl, _, _⟩ := ho.1.len
  obtain ⟨A2, cb, rfl, _, _⟩ := hw.1.len
  unfold End8
  have q1 := heap_alloc_new w (.cells #[.int .u64 ses.toNat, .int .i64 base, .slice A lo.length ca, .slice A2 lw.length cb, .int .i64 next, .slice Ae ne ce, .int .i64 39, .bool false] 37)
  obtain ⟨wp, hwp⟩ : ∃ wp, wp = w.alloc (.cells #[.int .u64 ses.toNat, .int .i64 base, .slice A lo.length ca, .slice A2 lw.length cb, .int .i64 next, .slice Ae ne ce, .int .i64 39, .bool false] 37) := ⟨_, rfl⟩
  rw [← hwp] at q1
  have HBp : Hid (Below w.heap.size w wp) := by unfold Hid; rw [hwp]; exact (Below.refl _ _).alloc (Nat.le_refl _) _
  have hsp : wp.heap.size = w.heap.size + 1 := by rw [hwp]; simp
  have q2 := heap_alloc_new wp (.cells #[.int .u64 0, .int .i64 0, .slice none 0 0, .slice none 0 0, .int .i64 0, .slice none 0 0, .int .i64 0, .bool false] 37)
  obtain ⟨wo, hwo⟩ : ∃ wo, wo = wp.alloc (.cells #[.int .u64 0, .int .i64 0, .slice none 0 0, .slice none 0 0, .int .i64 0, .slice none 0 0, .int .i64 0, .bool false] 37) := ⟨_, rfl⟩
  rw [← hwo, hsp] at q2
  have HBo : Hid (Below wp.heap.size wp wo) := by unfold Hid; rw [hwo]; exact (Below.refl _ _).alloc (Nat.le_refl _) _
  have hso : wo.heap.size = w.heap.size + 1 + 1 := by rw [hwo]; simp [hsp]
  have q3 := heap_alloc_new wo (.cells #[.int .u64 ses.toNat, .int .i64 base, .slice A lo.length ca, .slice A2 lw.length cb, .int .i64 next, .slice Ae ne ce, .int .i64 39, .bool false] 69)
  obtain ⟨wq, hwq⟩ : ∃ wq, wq = wo.alloc (.cells #[.int .u64 ses.toNat, .int .i64 base, .slice A lo.length ca, .slice A2 lw.length cb, .int .i64 next, .slice Ae ne ce, .int .i64 39, .bool false] 69) := ⟨_, rfl⟩
  rw [← hwq, hso] at q3
  have HBq : Hid (Below wo.heap.size wo wq) := by unfold Hid; rw [hwq]; exact (Below.refl _ _).alloc (Nat.le_refl _) _
  have hsq : wq.heap.size = w.heap.size + 1 + 1 + 1 := by rw [hwq]; simp [hso]
  have HX3 := Lib.hid (cells8 q3)
  have HX2 := Lib.hid ((cells8 q2).below HBq.out (by omega))
  have HBQ : Hid (Below w.heap.size w wq) := (HBp.out.trans (HBo.out.mono (by omega))).trans (HBq.out.mono (by omega))
  have HWQ : Hid (((w.alloc (.cells #[.int .u64 ses.toNat, .int .i64 base, .slice A lo.length ca, .slice A2 lw.length cb, .int .i64 next, .slice Ae ne ce, .int .i64 39, .bool false] 37)).alloc (.cells #[.int .u64 0, .int .i64 0, .slice none 0 0, .slice none 0 0, .int .i64 0, .slice none 0 0, .int .i64 0, .bool false] 37)).alloc (.cells #[.int .u64 ses.toNat, .int .i64 base, .slice A lo.length ca, .slice A2 lw.length cb, .int .i64 next, .slice Ae ne ce, .int .i64 39, .bool false] 69) = wq) := by unfold Hid; rw [← hwp, ← hwo, ← hwq]
  have HSQ := Lib.hid hsq
  clear q1 q2 q3 hwp hwo hwq hsp hso hsq HBp HBo HBq
  clear wp wo
  obtain ⟨R, hR⟩ : ∃ R, R = lw.drop k := ⟨_, rfl⟩
  rw [← hR]
  have HR := Lib.hid hR
  have hL4 : L.length ≤ 4 := by rw [hL]; simp; omega
  clear ho hw hk hL hR
  go_enter Try.func13, Try.ntmps13
  go_wp2_with fail
  rw [HWQ.out]
  refine (fill_any (w.heap.size + 1 + 1) _ base next 39 _ _ (.slice Ae ne ce) false lo lw L k w wq HX3.out HBQ.out (by omega) HO.out HWT.out h4 hlw HK.out HL.out).mono ?_
  rintro e w1 ⟨rfl, v1, v2, o1, ⟨t1, hs2⟩, x1, b1, k1⟩
  rw [← HR.out] at t1
  have HSR := Lib.hid hs2
  have HSO : Hid (SrcV w w1 (.slice A lo.length ca) v1) := SrcV.owns o1 (by have := HSQ.out; omega) _ (Nat.le_refl _)
  clear hs2
  obtain ⟨A3, c3, e3, _, _⟩ := (StrsN.of_owns o1).1.len
  obtain ⟨A4, c4, e4, _, _⟩ := t1.1.len
  subst e3 e4
  have kk := k1 (w.heap.size + 1) (by have := HSQ.out; omega) (by omega)
  have x6 := x1.c6
  have x2 := x1.c2
  have f6 := x1.f 6
  have HX1 := Lib.hid x1
  have HO1 := Lib.hid o1
  have HT1 := Lib.hid t1
  have HB1 := Lib.hid b1
  have HX2' : Hid (Box8 (w.heap.size + 1) (.int .u64 0) (.int .i64 0) (.slice none 0 0) (.slice none 0 0) (.int .i64 0) (.slice none 0 0) (.int .i64 0) (.bool false) w1) := box_of_block HX2.out kk
  have hw1 : wq.heap.size ≤ w1.heap.size := by have := HX1.out.lt; have := HSQ.out; omega
  have x0 := x1.c0
  have x1' := x1.c1
  have x3 := x1.c3
  have x4 := x1.c4
  have x5 := x1.c5
  have x7 := x1.c7
  have f7 := x1.f 7
  obtain ⟨d0, d1, d2, d3, d4, d5, d6, d7, df, dlt⟩ := HX2'.out
  have df0 := df 0
  have df1 := df 1
  have df2 := df 2
  have df3 := df 3
  have df4 := df 4
  have df5 := df 5
  have df6 := df 6
  have df7 := df 7
  clear df x1 o1 t1 b1 k1 kk HX2 HX3 HWT HO HBQ
  go_wp2_with fail
  (try simp only [Exit.inBlock, Exit.then])
  refine bodyPost_cell (V := .agg #[.int .u64 ses.toNat, .int .i64 base, .slice A3 L.length c3, .slice A4 R.length c4, .int .i64 next, .slice Ae ne ce, .int .i64 40, .bool true]) rfl rfl ?_ rfl ?_
  · go_simp
  · have hbz := below_set8 ((HB1.out.setCell (p := ⟨w.heap.size + 1 + 1, 6, none⟩) (by dsimp only; omega) (.int .i64 40)).setCell (p := ⟨w.heap.size + 1 + 1, 7, none⟩) (by dsimp only; omega) (.bool true)) (b := w.heap.size + 1) (by omega) (.int .u64 ses.toNat) (.int .i64 base) (.slice A3 L.length c3) (.slice A4 R.length c4) (.int .i64 next) (.slice Ae ne ce) (.int .i64 40) (.bool true)
    exact ⟨_, _, rfl, StrsN.of_owns (owns_set8 (ownsRow_setCell_below (ownsRow_setCell_below HO1.out (a := ⟨w.heap.size + 1 + 1, 6, none⟩) (by have := HSQ.out; dsimp only; omega) _) (a := ⟨w.heap.size + 1 + 1, 7, none⟩) (by have := HSQ.out; dsimp only; omega) _) (by have := HSQ.out; omega) _ _ _ _ _ _ _ _), ⟨HT1.out.below hbz (Nat.le_refl _), HSR.out.v _ _, HSO.out.mono (by simp only [World.size_setCell]; exact Nat.le_refl _)⟩, hbz⟩
end Go.Proofs.Ytjgjhjecgdndjaa
