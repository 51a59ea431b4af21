/- siloref03.Same, siloref23.Same at two ends alike. -/
import Derived.Test.YtjgjhjecgdndjaaLinkDead
import Derived.Test.YtjgjhjecgdndjaaLinkLaw
import Derived.Deep.QuietTactic
import Derived.BigQuiet
namespace Go.Proofs.Ytjgjhjecgdndjaa
open Go.RowKit
set_option linter.unusedVariables false
set_option linter.unusedSimpArgs false
def sameB (a b : List ByteArray) : Bool := decide (a = b)
theorem sameB_self (a : List ByteArray) : sameB a a = true := by simp [sameB]
theorem str_beq_ne {a b : ByteArray} (h : a ≠ b) : (a.toList == b.toList) = false := by
  rw [beq_eq_false_iff_ne, ByteArray.toList_eq, ByteArray.toList_eq]
  intro e
  exact h (ByteArray.ext (Array.toList_inj.1 e))
theorem str_beq_self (a : ByteArray) : (a.toList == a.toList) = true := by simp
set_option maxRecDepth 20000 in
set_option maxHeartbeats 1000000 in
theorem same_any (w : World) (va vb : Value) (la lb : List ByteArray) (ha : StrsB w va la) (hb : StrsB w vb lb) :
    Calls Try.prog 16 #[va, vb] w fun e w' => e = .returned (.bool (sameB la lb)) ∧ ∃ n, w' = w.drewN n := by
  by_cases hl : la.length = lb.length
  · by_cases h0 : la.length = 0
    · have h0' : lb.length = 0 := by omega
      have ea := List.length_eq_zero_iff.1 h0
      have eb := List.length_eq_zero_iff.1 h0'
      subst ea; subst eb
      have HS : Hid (sameB [] [] = true) := sameB_self _
      obtain ⟨A, c, rfl, hc⟩ := ha.nil
      obtain ⟨A', c', rfl, hc'⟩ := hb.nil
      clear hl h0 h0' ha hb
      go_enter Try.func16, Try.ntmps16
      go_wp2
      refine wp_loop_rounds 1 ?_
      rw [rounds_succ]
      go_wp2
      go_ret
      exact ⟨by rw [HS.out]; rfl, 0, rfl⟩
    · obtain ⟨b, off, c, rfl, hc1, hc2, hlt, hca⟩ := ha.at (by omega)
      obtain ⟨b', off', c', rfl, hc1', hc2', hlt', hcb⟩ := hb.at (by omega)
      have HA := Lib.hid hca; clear hca
      have HB := Lib.hid hcb; clear hcb
      have hz : ((la.length : Int) != (lb.length : Int)) = false := by rw [bne_eq_false_iff_eq]; omega
      have HL := Lib.hid hl
      have hl1 : la.length ≤ lb.length := by omega
      have hl2 : lb.length ≤ la.length := by omega
      clear ha hb h0 hl
      have hm : la.length ≤ 9223372036854775807 := by unfold maxLen at hc2; omega
      clear hc1 hc2 hc1' hc2'
      go_enter Try.func16, Try.ntmps16
      go_wp2
      go_loopw [5] (fun i wr => ∃ k : Nat, k ≤ la.length ∧ i = .int .i64 k ∧ Hid (la.take k = lb.take k) ∧ Hid (∃ m, wr = w.drewN m)) (fun i _ => la.length - (intOf i).toNat)
      case atStart => exact ⟨0, Nat.zero_le _, rfl, rfl, 0, rfl⟩
      case round =>
        obtain ⟨k, hk, rfl, HT, HW⟩ := hrel
        by_cases hlt2 : k < la.length
        · have hlt3 : k < lb.length := by omega
          have e1 : wr.cell? ⟨b, off + k, none⟩ = some (.string la[k]) := by obtain ⟨m, rfl⟩ := HW.out; exact HA.out k hlt2
          have e2 : wr.cell? ⟨b', off' + k, none⟩ = some (.string lb[k]) := by obtain ⟨m, rfl⟩ := HW.out; exact HB.out k hlt3
          by_cases hq : la[k] = lb[k]
          · have HT2 : Hid (la.take (k + 1) = lb.take (k + 1)) := by
              unfold Hid; rw [take_succ_list _ _ hlt2, take_succ_list _ _ hlt3, HT.out, hq]
            rw [← hq] at e2
            have hs := str_beq_self la[k]
            generalize la[k] = x at *
            clear hq
            go_wp2_with fail
            go_quiet (fail)
            go_wp2_with fail
            go_roundw
            case rel => exact ⟨k + 1, by omega, by go_num, HT2, by obtain ⟨m, rfl⟩ := HW.out; exact ⟨_, World.drewN_drewN _ _ _⟩⟩
            case measure => simp [intOf]; omega
          · have HS : Hid (sameB la lb = false) := by
              unfold Hid sameB; rw [decide_eq_false_iff_not]; intro e; exact hq (by subst e; rfl)
            have hs := str_beq_ne hq
            generalize la[k] = x at *
            generalize lb[k] = y at *
            clear hq
            go_wp2_with fail
            go_quiet (fail)
            go_wp2_with fail
            go_ret
            exact ⟨by rw [HS.out]; rfl, by obtain ⟨m, rfl⟩ := HW.out; exact ⟨_, World.drewN_drewN _ _ _⟩⟩
        · have HS : Hid (sameB la lb = true) := by
            unfold Hid sameB
            rw [decide_eq_true_iff]
            have h := HT.out
            rw [List.take_of_length_le (by omega), List.take_of_length_le (by omega)] at h
            exact h
          go_wp2_with fail
          go_ret
          exact ⟨by rw [HS.out]; rfl, HW.out⟩
  · have HS : Hid (sameB la lb = false) := by
      unfold Hid sameB; rw [decide_eq_false_iff_not]; intro e; exact hl (by rw [e])
    obtain ⟨A, c, rfl, hc1, hc2⟩ := ha.len
    obtain ⟨A', c', rfl, hc1', hc2'⟩ := hb.len
    have hz : ((la.length : Int) != (lb.length : Int)) = true := by rw [bne_iff_ne]; omega
    clear ha hb hl
    go_enter Try.func16, Try.ntmps16
    go_wp2
    go_ret
    exact ⟨by rw [HS.out]; rfl, 0, rfl⟩
abbrev Frm4 := UInt64 × Int × Int × ByteArray
/-- a row of frames, readable -/
def FrsB (w : World) (v : Value) (l : List Frm4) : Prop :=
  ∃ A c, v = .slice A l.length c ∧ l.length ≤ c ∧ c ≤ maxLen ∧ (0 < l.length → ∃ b off, A = some ⟨b, off, none⟩ ∧ b < w.heap.size ∧ ∀ i (h : i < l.length), w.cell? ⟨b, off + i * 4, none⟩ = some (.int .u64 l[i].1.toNat) ∧ w.cell? ⟨b, off + i * 4 + 1, none⟩ = some (.int .i64 l[i].2.1) ∧ w.cell? ⟨b, off + i * 4 + 2, none⟩ = some (.int .i64 l[i].2.2.1) ∧ w.cell? ⟨b, off + i * 4 + 3, none⟩ = some (.string l[i].2.2.2))
theorem FrsB.below {w w' : World} {v : Value} {l : List Frm4} {B : Nat} (h : FrsB w v l) (hb : Below B w w') (hB : w.heap.size ≤ B) : FrsB w' v l := by
  obtain ⟨A, c, h1, h2, h3, h4⟩ := h
  refine ⟨A, c, h1, h2, h3, fun hl => ?_⟩
  obtain ⟨b, off, e1, e2, e3⟩ := h4 hl
  refine ⟨b, off, e1, Nat.lt_of_lt_of_le e2 hb.size, fun i hi => ?_⟩
  obtain ⟨c1, c2, c3, c4⟩ := e3 i hi
  have hlt : b < B := Nat.lt_of_lt_of_le e2 hB
  exact ⟨(hb.cell (p := ⟨b, off + i * 4, none⟩) hlt).trans c1, (hb.cell (p := ⟨b, off + i * 4 + 1, none⟩) hlt).trans c2, (hb.cell (p := ⟨b, off + i * 4 + 2, none⟩) hlt).trans c3, (hb.cell (p := ⟨b, off + i * 4 + 3, none⟩) hlt).trans c4⟩
set_option maxRecDepth 20000 in
set_option maxHeartbeats 2000000 in
theorem esame_any (ses : UInt64) (base next idle : Int) (dead : Bool) (vo vw ve vo' vw' : Value) (lo lw : List ByteArray) (le : List Frm4) (w : World) (ho : StrsB w vo lo) (ho' : StrsB w vo' lo) (hw : StrsB w vw lw) (hw' : StrsB w vw' lw) (he : FrsB w ve le) :
    Calls Try.prog 15 #[End8 ses.toNat base vo vw next ve idle dead, End8 ses.toNat base vo' vw' next ve idle dead] w fun e w' => e = .returned (.bool true) ∧ Below w.heap.size w w' := by
  have HS1 := Lib.hid (fun w (h : StrsB w vo lo) (h' : StrsB w vo' lo) => same_any w _ _ lo lo h h')
  have HS2 := Lib.hid (fun w (h : StrsB w vw lw) (h' : StrsB w vw' lw) => same_any w _ _ lw lw h h')
  rw [sameB_self] at HS1 HS2
  have HO := Lib.hid ho
  have HO' := Lib.hid ho'
  have HW := Lib.hid hw
  have HW' := Lib.hid hw'
  have HE := Lib.hid he
  obtain ⟨A1, c1, rfl, _, _⟩ := ho.len
  obtain ⟨A2, c2, rfl, _, _⟩ := ho'.len
  obtain ⟨A3, c3, rfl, _, _⟩ := hw.len
  obtain ⟨A4, c4, rfl, _, _⟩ := hw'.len
  obtain ⟨A, c, rfl, h2, h3, h4⟩ := he
  have hc9 : c ≤ 9223372036854775807 := by unfold maxLen at h3; omega
  have HH4 := Lib.hid h4
  obtain ⟨n, hn⟩ : ∃ n, n = le.length := ⟨_, rfl⟩
  have HN := Lib.hid hn
  rw [← hn] at h2 HE ⊢
  clear hn h3 h4 ho ho' hw hw'
  have hbb : (dead == dead) = true := by simp
  have hb1 : (base == base) = true := by simp
  unfold End8
  have q1 := heap_alloc_new w (.cells #[.int .u64 ses.toNat, .int .i64 base, .slice A1 lo.length c1, .slice A3 lw.length c3, .int .i64 next, .slice A n c, .int .i64 idle, .bool dead] 37)
  obtain ⟨wp, hwp⟩ : ∃ wp, wp = w.alloc (.cells #[.int .u64 ses.toNat, .int .i64 base, .slice A1 lo.length c1, .slice A3 lw.length c3, .int .i64 next, .slice A n c, .int .i64 idle, .bool dead] 37) := ⟨_, rfl⟩
  rw [← hwp] at q1
  have HBp : Hid (Below w.heap.size w wp) := by unfold Hid; rw [hwp]; exact (Below.refl _ _).alloc (Nat.le_refl _) _
  have hsp : wp.heap.size = w.heap.size + 1 := by rw [hwp]; simp
  have q2 := heap_alloc_new wp (.cells #[.int .u64 ses.toNat, .int .i64 base, .slice A2 lo.length c2, .slice A4 lw.length c4, .int .i64 next, .slice A n c, .int .i64 idle, .bool dead] 37)
  obtain ⟨wq, hwq⟩ : ∃ wq, wq = wp.alloc (.cells #[.int .u64 ses.toNat, .int .i64 base, .slice A2 lo.length c2, .slice A4 lw.length c4, .int .i64 next, .slice A n c, .int .i64 idle, .bool dead] 37) := ⟨_, rfl⟩
  rw [← hwq, hsp] at q2
  have HBq : Hid (Below wp.heap.size wp wq) := by unfold Hid; rw [hwq]; exact (Below.refl _ _).alloc (Nat.le_refl _) _
  have hsq : wq.heap.size = w.heap.size + 1 + 1 := by rw [hwq]; simp [hsp]
  have HX1 := Lib.hid ((cells8 q1).below HBq.out (by omega))
  have HX2 := Lib.hid (cells8 q2)
  have HBQ : Hid (Below w.heap.size w wq) := HBp.out.trans (HBq.out.mono (by omega))
  have HWQ : Hid ((w.alloc (.cells #[.int .u64 ses.toNat, .int .i64 base, .slice A1 lo.length c1, .slice A3 lw.length c3, .int .i64 next, .slice A n c, .int .i64 idle, .bool dead] 37)).alloc (.cells #[.int .u64 ses.toNat, .int .i64 base, .slice A2 lo.length c2, .slice A4 lw.length c4, .int .i64 next, .slice A n c, .int .i64 idle, .bool dead] 37) = wq) := by unfold Hid; rw [← hwp, ← hwq]
  have HSQ := Lib.hid hsq
  clear q1 q2 hwp hwq hsp hsq HBp HBq
  clear wp
  go_enter Try.func15, Try.ntmps15
  go_wp2_with fail
  rw [HWQ.out]
  refine (HS1.out _ (HO.out.below HBQ.out (Nat.le_refl _)) (HO'.out.below HBQ.out (Nat.le_refl _))).mono ?_
  rintro e w1 ⟨rfl, m1, rfl⟩
  have HB1 : Hid (Below wq.heap.size wq (wq.drewN m1)) := Below.drewN (Below.refl _ _) _
  generalize wq.drewN m1 = w1 at *
  obtain ⟨a0, a1, a2, a3, a4, a5, a6, a7, af, alt⟩ := HX1.out.below HB1.out (by have := HX1.out.lt; omega)
  obtain ⟨d0, d1, d2, d3, d4, d5, d6, d7, df, dlt⟩ := HX2.out.below HB1.out (by have := HX2.out.lt; omega)
  clear af df
  go_wp2_with fail
  have HBW1 := Lib.hid (HBQ.out.trans (HB1.out.mono HBQ.out.size))
  refine (HS2.out _ (HW.out.below HBW1.out (Nat.le_refl _)) (HW'.out.below HBW1.out (Nat.le_refl _))).mono ?_
  rintro e w2 ⟨rfl, m2, rfl⟩
  have HB2 : Hid (Below wq.heap.size wq (w1.drewN m2)) := Below.drewN HB1.out _
  generalize w1.drewN m2 = w2 at *
  clear a0 a1 a2 a3 a4 a5 a6 a7 alt d0 d1 d2 d3 d4 d5 d6 d7 dlt
  obtain ⟨a0, a1, a2, a3, a4, a5, a6, a7, af, alt⟩ := HX1.out.below HB2.out (by have := HX1.out.lt; omega)
  obtain ⟨d0, d1, d2, d3, d4, d5, d6, d7, df, dlt⟩ := HX2.out.below HB2.out (by have := HX2.out.lt; omega)
  have HBW2 := Lib.hid (HBQ.out.trans (HB2.out.mono HBQ.out.size))
  clear af df HBW1 HB1
  go_wp2_with fail
  clear a0 a1 a2 a3 a4 a5 a6 a7 alt d0 d1 d2 d3 d4 d5 d6 d7 dlt
  go_loopw [5] (fun i wr => ∃ j : Nat, j ≤ n ∧ i = .int .i64 j ∧ Hid (Below wq.heap.size wq wr)) (fun i _ => n - (intOf i).toNat)
  case atStart => exact ⟨0, Nat.zero_le _, rfl, HB2⟩
  case round =>
    obtain ⟨j, hj, rfl, HBr⟩ := hrel
    obtain ⟨a0, a1, a2, a3, a4, a5, a6, a7, af, alt⟩ := HX1.out.below HBr.out (by have := HX1.out.lt; omega)
    obtain ⟨d0, d1, d2, d3, d4, d5, d6, d7, df, dlt⟩ := HX2.out.below HBr.out (by have := HX2.out.lt; omega)
    clear af df
    by_cases hlt : j < n
    · have hlt' : (j : Int) < (n : Int) := by omega
      have hnn := HN.out
      obtain ⟨b, off, rfl, hblt, hcells⟩ := HH4.out (by omega)
      have hml : j < le.length := by omega
      obtain ⟨x1, x2, x3, x4⟩ := hcells j hml
      have hbb' : ∀ o, wr.cell? ⟨b, o, none⟩ = w.cell? ⟨b, o, none⟩ := fun o => (HBr.out.cell (p := ⟨b, o, none⟩) (by have := HSQ.out; dsimp only; omega)).trans (HBQ.out.cell (p := ⟨b, o, none⟩) hblt)
      have y1 := (hbb' _).trans x1
      have y2 := (hbb' _).trans x2
      have y3 := (hbb' _).trans x3
      have y4 := (hbb' _).trans x4
      have hj0 : (0 : Int) ≤ (j : Int) := by omega
      have heq := eqIn_fr le[j].1.toNat le[j].2.1 le[j].2.2.1 le[j].2.2.2
      generalize le[j] = o at *
      clear hcells x1 x2 x3 x4 hnn hbb'
      go_wp2_with fail
      go_quiet (fail)
      go_wp2_with fail
      go_roundw
      case rel => exact ⟨j + 1, by omega, by go_num, Below.drewN HBr.out _⟩
      case measure => simp [intOf]; omega
    · obtain rfl : j = n := by omega
      have HBF := Lib.hid (HBQ.out.trans (HBr.out.mono HBQ.out.size))
      go_wp2_with fail
      go_ret
      exact ⟨rfl, HBF.out⟩
end Go.Proofs.Ytjgjhjecgdndjaa
