/- Walk: lsm.fit (written by gen-lsm-row.py) -/
import Derived.Test.YteidlngffikboaaLsmR1
namespace Go.Proofs.Yteidlngffikboaa
open Go.RowKit
set_option linter.unusedVariables false
set_option linter.unusedSimpArgs false
set_option maxRecDepth 20000 in
set_option maxHeartbeats 40000000 in
theorem rrow_any (w : World) (v : Value) (l : List Cnt) (most : Int) (h : CntB w v l) (hl : l.length ≤ 1000000) :
    Calls Try.prog 41 #[v, .int .i64 most] w fun e w' => e = .returned (.bool (rowB l most)) ∧ Below w.heap.size w w' := by
  obtain ⟨A, c, rfl, h2, h3, h4⟩ := h
  have hc9 : c ≤ 9223372036854775807 := by unfold maxLen at h3; omega
  have HC := Lib.hid h4
  unfold rowB
  obtain ⟨n, hn⟩ : ∃ n, n = l.length := ⟨_, rfl⟩
  have HN := Lib.hid hn
  rw [← hn] at h2 hl
  clear h4
  rw [← hn]
  clear hn
  by_cases hm : (n : Int) ≤ most
  · rw [decide_eq_true hm, Bool.true_and]
    go_enter Try.func41, Try.ntmps41
    go_wp2_with fail
    go_loopw [5] (fun a wr => ∃ j : Nat, j ≤ n ∧ a = .int .i64 j ∧ Hid (chkL none l = chkL (prevL l j) (l.drop j)) ∧ Hid (Below w.heap.size w wr)) (fun a _ => n - (intOf a).toNat)
    case atStart => exact ⟨0, Nat.zero_le _, rfl, by unfold Hid; rfl, Lib.hid (Below.refl _ _)⟩
    case round =>
      obtain ⟨j, hj, rfl, HI, HB⟩ := hrel
      by_cases hlt : j < n
      · have hlt' : (j : Int) < (n : Int) := by omega
        have hjl0 : 0 < l.length := by rw [← HN.out]; omega
        obtain ⟨b, off, rfl, hblt, hc⟩ := HC.out hjl0
        clear hjl0
        have hjl : j < l.length := by rw [← HN.out]; exact hlt
        obtain ⟨c1w, c2w⟩ := hc j hjl
        have c1 := (HB.out.cell (p := ⟨b, off + j * 2, none⟩) hblt).trans c1w
        have c2 := (HB.out.cell (p := ⟨b, off + j * 2 + 1, none⟩) hblt).trans c2w
        clear c1w c2w
        have hbwr : b < wr.heap.size := Nat.lt_of_lt_of_le hblt HB.out.size
        have hst := chk_step l j hjl
        have HBQ : Hid (∀ m, Below w.heap.size w ((wr.alloc (.cells #[.string l[j].1, .int .i64 l[j].2] 51)).drewN m)) := fun m => (HB.out.alloc HB.out.size _).trans ((below_drewN _ m).mono (Nat.le_trans HB.out.size (by simp)))
        by_cases hs : l[j].1.size = 32
        · have hs' : ((l[j].1.size : Int) != 32) = false := by simp [hs]
          have hs2 : (l[j].1.size != 32) = false := by simp [hs]
          by_cases h0 : j = 0
          · have hd : decide ((0 : Int) < (j : Int)) = false := by rw [decide_eq_false_iff_not]; omega
            have hd' : decide (0 < j) = false := by rw [decide_eq_false_iff_not]; omega
            have HJ0 := Lib.hid h0
            have hj0 : j ≤ 0 := by omega
            clear h0
            by_cases hz : l[j].2 = 0
            · have hz' : (l[j].2 == 0) = true := by simp [hz]
              have HE : Hid (chkL none l = false) := by unfold Hid; rw [HI.out, hst, show chkC (prevL l j) l[j] = false by unfold chkC; rw [decide_eq_false (show ¬ l[j].2 ≠ 0 from fun h => h hz)]; simp]; rfl
              clear hst HI HC hc hs
              generalize l[j].1 = x at *
              generalize l[j].2 = y at *
              subst hz
              go_wp2_with fail
              go_quiet (fail)
              go_wp2_with fail
              go_ret
              rw [HE.out]
              exact ⟨rfl, HBQ.out _⟩
            · have hz' : (l[j].2 == 0) = false := by simp [hz]
              by_cases hw : -1000000000 ≤ l[j].2 ∧ l[j].2 ≤ 1000000000
              · have hwb : decide ((1000000000 : Int) < l[j].2) = false := by rw [decide_eq_false_iff_not]; omega
                have hwc : decide (l[j].2 < -1000000000) = false := by rw [decide_eq_false_iff_not]; omega
                have HE : Hid (chkL none l = chkL (prevL l (j + 1)) (l.drop (j + 1))) := by unfold Hid; rw [HI.out, hst, show chkC (prevL l j) l[j] = true by unfold chkC prevL; rw [if_pos HJ0.out, decide_eq_true hs, decide_eq_true hz, decide_eq_true (show -bnd ≤ l[j].2 ∧ l[j].2 ≤ bnd from hw)]; rfl, Bool.true_and]
                clear hst HI HC hc hs hw
                generalize l[j].1 = x at *
                generalize l[j].2 = y at *
                go_wp2_with fail
                go_quiet (fail)
                go_wp2_with fail
                exact ⟨⟨j + 1, by omega, by go_num, HE, Lib.hid (HBQ.out _)⟩, by simp [intOf]; omega⟩
              · have hwx := hw
                have hwy : 1000000000 < l[j].2 ∨ l[j].2 < -1000000000 := by omega
                rcases hwy with hwy | hwy
                · have hwb : decide ((1000000000 : Int) < l[j].2) = true := by rw [decide_eq_true_iff]; exact hwy
                  have HE : Hid (chkL none l = false) := by unfold Hid; rw [HI.out, hst, show chkC (prevL l j) l[j] = false by unfold chkC; rw [decide_eq_false (show ¬ (-bnd ≤ l[j].2 ∧ l[j].2 ≤ bnd) from hw)]; simp]; rfl
                  clear hst HI HC hc hs hw hwx hwy
                  generalize l[j].1 = x at *
                  generalize l[j].2 = y at *
                  go_wp2_with fail
                  go_quiet (fail)
                  go_wp2_with fail
                  go_ret
                  rw [HE.out]
                  exact ⟨rfl, HBQ.out _⟩
                · have hwb : decide ((1000000000 : Int) < l[j].2) = false := by rw [decide_eq_false_iff_not]; omega
                  have hwc : decide (l[j].2 < -1000000000) = true := by rw [decide_eq_true_iff]; exact hwy
                  have HE : Hid (chkL none l = false) := by unfold Hid; rw [HI.out, hst, show chkC (prevL l j) l[j] = false by unfold chkC; rw [decide_eq_false (show ¬ (-bnd ≤ l[j].2 ∧ l[j].2 ≤ bnd) from hw)]; simp]; rfl
                  clear hst HI HC hc hs hw hwx hwy
                  generalize l[j].1 = x at *
                  generalize l[j].2 = y at *
                  go_wp2_with fail
                  go_quiet (fail)
                  go_wp2_with fail
                  go_ret
                  rw [HE.out]
                  exact ⟨rfl, HBQ.out _⟩
          · have hd : decide ((0 : Int) < (j : Int)) = true := by rw [decide_eq_true_iff]; omega
            have hd' : decide (0 < j) = true := by rw [decide_eq_true_iff]; omega
            obtain ⟨d1w, _⟩ := hc (j - 1) (by omega)
            have d1 := (HB.out.cell (p := ⟨b, off + (j - 1) * 2, none⟩) hblt).trans d1w
            clear d1w
            have hp : Op.bytesLess l[j - 1].1.toList l[j].1.toList = bl l[j - 1].1 l[j].1 := by rw [ByteArray.toList_eq, ByteArray.toList_eq]; rfl
            have hpv : prevL l j = some l[j - 1].1 := by unfold prevL; rw [if_neg h0]; simp [show j - 1 < l.length by omega]
            have hj1 : 1 ≤ j := by omega
            have hj2 : (1 : Int) ≤ (j : Int) := by omega
            have hj3 : (0 : Int) ≤ (j : Int) - 1 := by omega
            have hj4 : (j : Int) - 1 < (n : Int) := by omega
            have hj5 : ((j : Int) - 1).toNat = j - 1 := by omega
            cases hb : bl l[j - 1].1 l[j].1 with
            | false =>
              rw [hb] at hp
              have HE : Hid (chkL none l = false) := by unfold Hid; rw [HI.out, hst, show chkC (prevL l j) l[j] = false by unfold chkC; rw [hpv]; show (_ && bl l[j - 1].1 l[j].1 && _ && _) = false; rw [hb]; simp]; rfl
              clear hst HI HC hc hs hb hpv h0
              (generalize l[j].1 = x at *; generalize l[j - 1].1 = z at *)
              generalize l[j].2 = y at *
              go_wp2_with fail
              go_quiet (fail)
              go_wp2_with fail
              go_ret
              rw [HE.out]
              exact ⟨rfl, HBQ.out _⟩
            | true =>
              rw [hb] at hp
              by_cases hz : l[j].2 = 0
              · have hz' : (l[j].2 == 0) = true := by simp [hz]
                have HE : Hid (chkL none l = false) := by unfold Hid; rw [HI.out, hst, show chkC (prevL l j) l[j] = false by unfold chkC; rw [decide_eq_false (show ¬ l[j].2 ≠ 0 from fun h => h hz)]; simp]; rfl
                clear hst HI HC hc hs hb hpv h0
                (generalize l[j].1 = x at *; generalize l[j - 1].1 = z at *)
                generalize l[j].2 = y at *
                subst hz
                go_wp2_with fail
                go_quiet (fail)
                go_wp2_with fail
                go_ret
                rw [HE.out]
                exact ⟨rfl, HBQ.out _⟩
              · have hz' : (l[j].2 == 0) = false := by simp [hz]
                by_cases hw : -1000000000 ≤ l[j].2 ∧ l[j].2 ≤ 1000000000
                · have hwb : decide ((1000000000 : Int) < l[j].2) = false := by rw [decide_eq_false_iff_not]; omega
                  have hwc : decide (l[j].2 < -1000000000) = false := by rw [decide_eq_false_iff_not]; omega
                  have HE : Hid (chkL none l = chkL (prevL l (j + 1)) (l.drop (j + 1))) := by unfold Hid; rw [HI.out, hst, show chkC (prevL l j) l[j] = true by unfold chkC; rw [hpv, decide_eq_true hs, decide_eq_true hz, decide_eq_true (show -bnd ≤ l[j].2 ∧ l[j].2 ≤ bnd from hw)]; show (true && bl l[j - 1].1 l[j].1 && true && true) = true; rw [hb]; rfl, Bool.true_and]
                  clear hst HI HC hc hs hb hpv h0 hw
                  (generalize l[j].1 = x at *; generalize l[j - 1].1 = z at *)
                  generalize l[j].2 = y at *
                  go_wp2_with fail
                  go_quiet (fail)
                  go_wp2_with fail
                  exact ⟨⟨j + 1, by omega, by go_num, HE, Lib.hid (HBQ.out _)⟩, by simp [intOf]; omega⟩
                · have hwx := hw
                  have hwy : 1000000000 < l[j].2 ∨ l[j].2 < -1000000000 := by omega
                  rcases hwy with hwy | hwy
                  · have hwb : decide ((1000000000 : Int) < l[j].2) = true := by rw [decide_eq_true_iff]; exact hwy
                    have HE : Hid (chkL none l = false) := by unfold Hid; rw [HI.out, hst, show chkC (prevL l j) l[j] = false by unfold chkC; rw [decide_eq_false (show ¬ (-bnd ≤ l[j].2 ∧ l[j].2 ≤ bnd) from hw)]; simp]; rfl
                    clear hst HI HC hc hs hb hpv h0 hw hwx hwy
                    (generalize l[j].1 = x at *; generalize l[j - 1].1 = z at *)
                    generalize l[j].2 = y at *
                    go_wp2_with fail
                    go_quiet (fail)
                    go_wp2_with fail
                    go_ret
                    rw [HE.out]
                    exact ⟨rfl, HBQ.out _⟩
                  · have hwb : decide ((1000000000 : Int) < l[j].2) = false := by rw [decide_eq_false_iff_not]; omega
                    have hwc : decide (l[j].2 < -1000000000) = true := by rw [decide_eq_true_iff]; exact hwy
                    have HE : Hid (chkL none l = false) := by unfold Hid; rw [HI.out, hst, show chkC (prevL l j) l[j] = false by unfold chkC; rw [decide_eq_false (show ¬ (-bnd ≤ l[j].2 ∧ l[j].2 ≤ bnd) from hw)]; simp]; rfl
                    clear hst HI HC hc hs hb hpv h0 hw hwx hwy
                    (generalize l[j].1 = x at *; generalize l[j - 1].1 = z at *)
                    generalize l[j].2 = y at *
                    go_wp2_with fail
                    go_quiet (fail)
                    go_wp2_with fail
                    go_ret
                    rw [HE.out]
                    exact ⟨rfl, HBQ.out _⟩
        · have hs' : ((l[j].1.size : Int) != 32) = true := by simp; omega
          have hs2 : (l[j].1.size != 32) = true := by simp [hs]
          have HE : Hid (chkL none l = false) := by unfold Hid; rw [HI.out, hst, show chkC (prevL l j) l[j] = false by unfold chkC; rw [decide_eq_false hs]; simp]; rfl
          clear hst HI HC hc hs
          generalize l[j].1 = x at *
          generalize l[j].2 = y at *
          go_wp2_with fail
          go_quiet (fail)
          go_wp2_with fail
          go_ret
          rw [HE.out]
          exact ⟨rfl, HBQ.out _⟩
      · obtain rfl : j = n := by omega
        have HE : Hid (chkL none l = true) := by unfold Hid; rw [HI.out, List.drop_eq_nil_of_le (by rw [HN.out]; exact Nat.le_refl _)]; rfl
        clear HI HC
        go_wp2_with fail
        go_ret
        rw [HE.out]
        exact ⟨rfl, HB.out⟩
  · rw [decide_eq_false hm, Bool.false_and]
    have hm' : most < (n : Int) := by omega
    go_enter Try.func41, Try.ntmps41
    go_wp2_with fail
    go_ret
    exact ⟨rfl, Below.refl _ _⟩
end Go.Proofs.Yteidlngffikboaa

/- Here ends the text LsmR3; here begins LsmR4. -/
namespace Go.Proofs.Yteidlngffikboaa
open Go.RowKit
set_option linter.unusedVariables false
set_option linter.unusedSimpArgs false
set_option maxRecDepth 20000 in
set_option maxHeartbeats 40000000 in
theorem pfit_any (w : World) (v : Value) (l : List Cnt) (most : Int) (h : CntB w v l) (hl : l.length ≤ 1000000) :
    Calls Try.prog 40 #[v, .int .i64 most] w fun e w' => e = .returned (.bool (rowB l most)) ∧ Below w.heap.size w w' := by
  obtain ⟨A, c, rfl, h2, h3, h4⟩ := h
  have hc9 : c ≤ 9223372036854775807 := by unfold maxLen at h3; omega
  have HC := Lib.hid h4
  unfold rowB
  obtain ⟨n, hn⟩ : ∃ n, n = l.length := ⟨_, rfl⟩
  have HN := Lib.hid hn
  rw [← hn] at h2 hl
  clear h4
  rw [← hn]
  clear hn
  go_enter Try.func40, Try.ntmps40
  go_wp2_with fail
  go_loopw [9] (fun a wr => ∃ j : Nat, j ≤ n ∧ a = .int .i64 j ∧ Hid (chkL none l = chkL (prevL l j) (l.drop j)) ∧ Hid (Below w.heap.size w wr)) (fun a _ => n - (intOf a).toNat)
  case atStart => exact ⟨0, Nat.zero_le _, rfl, by unfold Hid; rfl, Lib.hid (Below.refl _ _)⟩
  case round =>
    obtain ⟨j, hj, rfl, HI, HB⟩ := hrel
    by_cases hlt : j < n
    · have hlt' : (j : Int) < (n : Int) := by omega
      have hjl0 : 0 < l.length := by rw [← HN.out]; omega
      obtain ⟨b, off, rfl, hblt, hc⟩ := HC.out hjl0
      clear hjl0
      have hjl : j < l.length := by rw [← HN.out]; exact hlt
      obtain ⟨c1w, c2w⟩ := hc j hjl
      have c1 := (HB.out.cell (p := ⟨b, off + j * 2, none⟩) hblt).trans c1w
      have c2 := (HB.out.cell (p := ⟨b, off + j * 2 + 1, none⟩) hblt).trans c2w
      clear c1w c2w
      have hbwr : b < wr.heap.size := Nat.lt_of_lt_of_le hblt HB.out.size
      have hst := chk_step l j hjl
      have HBQ : Hid (∀ m, Below w.heap.size w ((wr.alloc (.cells #[.string l[j].1, .int .i64 l[j].2] 51)).drewN m)) := fun m => (HB.out.alloc HB.out.size _).trans ((below_drewN _ m).mono (Nat.le_trans HB.out.size (by simp)))
      by_cases hs : l[j].1.size = 32
      · have hs' : ((l[j].1.size : Int) != 32) = false := by simp [hs]
        have hs2 : (l[j].1.size != 32) = false := by simp [hs]
        by_cases h0 : j = 0
        · have hd : decide ((0 : Int) < (j : Int)) = false := by rw [decide_eq_false_iff_not]; omega
          have hd' : decide (0 < j) = false := by rw [decide_eq_false_iff_not]; omega
          have HJ0 := Lib.hid h0
          have hj0 : j ≤ 0 := by omega
          clear h0
          by_cases hz : l[j].2 = 0
          · have hz' : (l[j].2 == 0) = true := by simp [hz]
            have HE : Hid (chkL none l = false) := by unfold Hid; rw [HI.out, hst, show chkC (prevL l j) l[j] = false by unfold chkC; rw [decide_eq_false (show ¬ l[j].2 ≠ 0 from fun h => h hz)]; simp]; rfl
            clear hst HI HC hc hs
            generalize l[j].1 = x at *
            generalize l[j].2 = y at *
            subst hz
            go_wp2_with fail
            go_quiet (first | (go_at_call 44; exact quiet_same (HWI.out _)))
            go_wp2_with fail
            go_ret
            rw [HE.out, Bool.and_false]
            exact ⟨rfl, HBQ.out _⟩
          · have hz' : (l[j].2 == 0) = false := by simp [hz]
            by_cases hw : -1000000000 ≤ l[j].2 ∧ l[j].2 ≤ 1000000000
            · obtain ⟨hw1, hw2⟩ := id hw
              have HWI := Lib.hid (fun w => within_any l[j].2 1000000000 (by decide) w)
              rw [decide_eq_true hw] at HWI
              have HE : Hid (chkL none l = chkL (prevL l (j + 1)) (l.drop (j + 1))) := by unfold Hid; rw [HI.out, hst, show chkC (prevL l j) l[j] = true by unfold chkC prevL; rw [if_pos HJ0.out, decide_eq_true hs, decide_eq_true hz, decide_eq_true (show -bnd ≤ l[j].2 ∧ l[j].2 ≤ bnd from hw)]; rfl, Bool.true_and]
              clear hst HI HC hc hs
              generalize l[j].1 = x at *
              generalize l[j].2 = y at *
              go_wp2_with fail
              go_quiet (first | (go_at_call 44; exact quiet_same (HWI.out _)))
              go_wp2_with fail
              exact ⟨⟨j + 1, by omega, by go_num, HE, Lib.hid (HBQ.out _)⟩, by simp [intOf]; omega⟩
            · have hwx := hw
              have HWI := Lib.hid (fun w => within_any l[j].2 1000000000 (by decide) w)
              rw [decide_eq_false hw] at HWI
              have HE : Hid (chkL none l = false) := by unfold Hid; rw [HI.out, hst, show chkC (prevL l j) l[j] = false by unfold chkC; rw [decide_eq_false (show ¬ (-bnd ≤ l[j].2 ∧ l[j].2 ≤ bnd) from hw)]; simp]; rfl
              clear hst HI HC hc hs
              generalize l[j].1 = x at *
              generalize l[j].2 = y at *
              go_wp2_with fail
              go_quiet (first | (go_at_call 44; exact quiet_same (HWI.out _)))
              go_wp2_with fail
              go_ret
              rw [HE.out, Bool.and_false]
              exact ⟨rfl, HBQ.out _⟩
        · have hd : decide ((0 : Int) < (j : Int)) = true := by rw [decide_eq_true_iff]; omega
          have hd' : decide (0 < j) = true := by rw [decide_eq_true_iff]; omega
          obtain ⟨d1w, _⟩ := hc (j - 1) (by omega)
          have d1 := (HB.out.cell (p := ⟨b, off + (j - 1) * 2, none⟩) hblt).trans d1w
          clear d1w
          have hp : Op.bytesLess l[j - 1].1.toList l[j].1.toList = bl l[j - 1].1 l[j].1 := by rw [ByteArray.toList_eq, ByteArray.toList_eq]; rfl
          have hpv : prevL l j = some l[j - 1].1 := by unfold prevL; rw [if_neg h0]; simp [show j - 1 < l.length by omega]
          have hj1 : 1 ≤ j := by omega
          have hj2 : (1 : Int) ≤ (j : Int) := by omega
          have hj3 : (0 : Int) ≤ (j : Int) - 1 := by omega
          have hj4 : (j : Int) - 1 < (n : Int) := by omega
          have hj5 : ((j : Int) - 1).toNat = j - 1 := by omega
          cases hb : bl l[j - 1].1 l[j].1 with
          | false =>
            rw [hb] at hp
            have HE : Hid (chkL none l = false) := by unfold Hid; rw [HI.out, hst, show chkC (prevL l j) l[j] = false by unfold chkC; rw [hpv]; show (_ && bl l[j - 1].1 l[j].1 && _ && _) = false; rw [hb]; simp]; rfl
            clear hst HI HC hc hs hb hpv h0
            (generalize l[j].1 = x at *; generalize l[j - 1].1 = z at *)
            generalize l[j].2 = y at *
            go_wp2_with fail
            go_quiet (first | (go_at_call 44; exact quiet_same (HWI.out _)))
            go_wp2_with fail
            go_ret
            rw [HE.out, Bool.and_false]
            exact ⟨rfl, HBQ.out _⟩
          | true =>
            rw [hb] at hp
            by_cases hz : l[j].2 = 0
            · have hz' : (l[j].2 == 0) = true := by simp [hz]
              have HE : Hid (chkL none l = false) := by unfold Hid; rw [HI.out, hst, show chkC (prevL l j) l[j] = false by unfold chkC; rw [decide_eq_false (show ¬ l[j].2 ≠ 0 from fun h => h hz)]; simp]; rfl
              clear hst HI HC hc hs hb hpv h0
              (generalize l[j].1 = x at *; generalize l[j - 1].1 = z at *)
              generalize l[j].2 = y at *
              subst hz
              go_wp2_with fail
              go_quiet (first | (go_at_call 44; exact quiet_same (HWI.out _)))
              go_wp2_with fail
              go_ret
              rw [HE.out, Bool.and_false]
              exact ⟨rfl, HBQ.out _⟩
            · have hz' : (l[j].2 == 0) = false := by simp [hz]
              by_cases hw : -1000000000 ≤ l[j].2 ∧ l[j].2 ≤ 1000000000
              · obtain ⟨hw1, hw2⟩ := id hw
                have HWI := Lib.hid (fun w => within_any l[j].2 1000000000 (by decide) w)
                rw [decide_eq_true hw] at HWI
                have HE : Hid (chkL none l = chkL (prevL l (j + 1)) (l.drop (j + 1))) := by unfold Hid; rw [HI.out, hst, show chkC (prevL l j) l[j] = true by unfold chkC; rw [hpv, decide_eq_true hs, decide_eq_true hz, decide_eq_true (show -bnd ≤ l[j].2 ∧ l[j].2 ≤ bnd from hw)]; show (true && bl l[j - 1].1 l[j].1 && true && true) = true; rw [hb]; rfl, Bool.true_and]
                clear hst HI HC hc hs hb hpv h0
                (generalize l[j].1 = x at *; generalize l[j - 1].1 = z at *)
                generalize l[j].2 = y at *
                go_wp2_with fail
                go_quiet (first | (go_at_call 44; exact quiet_same (HWI.out _)))
                go_wp2_with fail
                exact ⟨⟨j + 1, by omega, by go_num, HE, Lib.hid (HBQ.out _)⟩, by simp [intOf]; omega⟩
              · have hwx := hw
                have HWI := Lib.hid (fun w => within_any l[j].2 1000000000 (by decide) w)
                rw [decide_eq_false hw] at HWI
                have HE : Hid (chkL none l = false) := by unfold Hid; rw [HI.out, hst, show chkC (prevL l j) l[j] = false by unfold chkC; rw [decide_eq_false (show ¬ (-bnd ≤ l[j].2 ∧ l[j].2 ≤ bnd) from hw)]; simp]; rfl
                clear hst HI HC hc hs hb hpv h0
                (generalize l[j].1 = x at *; generalize l[j - 1].1 = z at *)
                generalize l[j].2 = y at *
                go_wp2_with fail
                go_quiet (first | (go_at_call 44; exact quiet_same (HWI.out _)))
                go_wp2_with fail
                go_ret
                rw [HE.out, Bool.and_false]
                exact ⟨rfl, HBQ.out _⟩
      · have hs' : ((l[j].1.size : Int) != 32) = true := by simp; omega
        have hs2 : (l[j].1.size != 32) = true := by simp [hs]
        have HE : Hid (chkL none l = false) := by unfold Hid; rw [HI.out, hst, show chkC (prevL l j) l[j] = false by unfold chkC; rw [decide_eq_false hs]; simp]; rfl
        clear hst HI HC hc hs
        generalize l[j].1 = x at *
        generalize l[j].2 = y at *
        go_wp2_with fail
        go_quiet (first | (go_at_call 44; exact quiet_same (HWI.out _)))
        go_wp2_with fail
        go_ret
        rw [HE.out, Bool.and_false]
        exact ⟨rfl, HBQ.out _⟩
    · obtain rfl : j = n := by omega
      have HE : Hid (chkL none l = true) := by unfold Hid; rw [HI.out, List.drop_eq_nil_of_le (by rw [HN.out]; exact Nat.le_refl _)]; rfl
      clear HI HC
      go_wp2_with fail
      go_ret
      rw [HE.out, Bool.and_true]
      exact ⟨rfl, HB.out⟩
end Go.Proofs.Yteidlngffikboaa
