/- Walks: Fit of chapter 38, of the document and of the program (printed by gen-lsm-fit.py). -/
import Derived.Test.YteidlngffikboaaLsmFlush
import Derived.Test.YteidlngffikboaaLsmR4
import Derived.Test.YteidlngffikboaaLsmR4
namespace Go.Proofs.Yteidlngffikboaa
open Go.RowKit
set_option linter.unusedVariables false
set_option linter.unusedSimpArgs false
def nextB (n : Nat) : List (List Cnt) → Bool
  | s :: _ => decide (2 * n < s.length)
  | [] => true
def runR : List (List Cnt) → Bool
  | [] => true
  | r :: rs => !decide (r.length = 0) && rowB r 1048576 && nextB r.length rs && runR rs
def runP : Option Nat → List (List Cnt) → Bool
  | _, [] => true
  | p, r :: rs => !decide (r.length = 0) && rowB r 1048576 && (match p with | some q => decide (2 * q < r.length) | none => true) && runP (some r.length) rs
theorem runP_some (q : Nat) : ∀ l, runP (some q) l = (nextB q l && runR l)
  | [] => rfl
  | r :: rs => by
    rw [runP, runP_some, runR, nextB]
    cases decide (r.length = 0) <;> cases rowB r 1048576 <;> cases decide (2 * q < r.length) <;> simp
theorem runP_none : ∀ l, runP none l = runR l
  | [] => rfl
  | r :: rs => by
    rw [runP, runP_some, runR]
    cases decide (r.length = 0) <;> cases rowB r 1048576 <;> simp
def fitB (s : CntS) : Bool := rowB s.1 7 && decide (s.2.length ≤ 12) && runR s.2
theorem runR_ok : ∀ {l : List (List Cnt)}, total l ≤ 1000000 → (runR l = true ↔ okRuns l)
  | [], _ => by simp [runR, okRuns, Half]
  | r :: rs, h => by
    have hr : r.length ≤ 1000000 := by unfold total at h; simp at h; omega
    have hrs : total rs ≤ 1000000 := by unfold total at *; simp at h; omega
    have ih := runR_ok hrs
    rw [runR, Bool.and_eq_true, Bool.and_eq_true, Bool.and_eq_true, ih, rowB_ok]
    unfold okRuns
    constructor
    · rintro ⟨⟨⟨h1, h2, h3⟩, h4⟩, h5, h6⟩
      refine ⟨fun x hx => ?_, ?_⟩
      · rcases List.mem_cons.1 hx with rfl | hx
        · refine ⟨?_, h3⟩
          rintro rfl
          simp at h1
        · exact h5 x hx
      · cases rs with
        | nil => trivial
        | cons s rs => exact ⟨by simpa [nextB] using h4, h6⟩
    · rintro ⟨h1, h2⟩
      obtain ⟨h3, h4⟩ := h1 r (by simp)
      refine ⟨⟨⟨?_, by omega, h4⟩, ?_⟩, fun x hx => h1 x (by simp [hx]), ?_⟩
      · have : ¬ r.length = 0 := fun e => h3 (List.length_eq_zero_iff.1 e)
        simp [this]
      · cases rs with
        | nil => rfl
        | cons s rs => simpa [nextB] using h2.1
      · cases rs with
        | nil => trivial
        | cons s rs => exact h2.2
theorem fitB_ok {s : CntS} (h : sizeS s ≤ 1000000) : fitB s = true ↔ okS s ∧ s.1.length ≤ 7 ∧ s.2.length ≤ 12 := by
  unfold fitB okS
  rw [Bool.and_eq_true, Bool.and_eq_true, rowB_ok, decide_eq_true_iff, runR_ok (by unfold sizeS at h; omega)]
  constructor
  · rintro ⟨⟨⟨h1, h2⟩, h3⟩, h4⟩; exact ⟨⟨h2, h4⟩, by omega, h3⟩
  · rintro ⟨⟨h1, h2⟩, h3, h4⟩; exact ⟨⟨⟨by omega, h1⟩, h4⟩, h2⟩
theorem runP_cons (p : Option Nat) (r : List Cnt) (rs : List (List Cnt)) : runP p (r :: rs) = (!decide (r.length = 0) && rowB r 1048576 && (match p with | some q => decide (2 * q < r.length) | none => true) && runP (some r.length) rs) := by
  cases p <;> rfl
def prevN (l : List (List Cnt)) (j : Nat) : Option Nat := if j = 0 then none else some ((l[j - 1]?).getD []).length
theorem runP_step (l : List (List Cnt)) (j : Nat) (h : j < l.length) : runP (prevN l j) (l.drop j) = (!decide (l[j].length = 0) && rowB l[j] 1048576 && (match prevN l j with | some q => decide (2 * q < l[j].length) | none => true) && runP (prevN l (j + 1)) (l.drop (j + 1))) := by
  rw [List.drop_eq_getElem_cons h, runP_cons]
  have : prevN l (j + 1) = some l[j].length := by unfold prevN; rw [if_neg (by omega)]; simp [h]
  rw [this]
theorem runR_step (l : List (List Cnt)) (j : Nat) (h : j < l.length) : runR (l.drop j) = (!decide (l[j].length = 0) && rowB l[j] 1048576 && nextB l[j].length (l.drop (j + 1)) && runR (l.drop (j + 1))) := by
  rw [List.drop_eq_getElem_cons h, runR]
set_option maxRecDepth 20000 in
set_option maxHeartbeats 4000000 in
theorem rfit2_any (w : World) (v : Value) (s : CntS) (hs : LsmN w v s) (hl : sizeS s ≤ 1000000) (hn : s.2.length ≤ 1000) :
    Calls Try.prog 14 #[v] w fun e w' => e = .returned (.bool (fitB s)) ∧ Below w.heap.size w w' := by
  obtain ⟨vm, vr, rfl, hm, hr⟩ := hs
  obtain ⟨m, rs⟩ := s
  dsimp only at hm hr hn
  obtain ⟨wE, hwE⟩ : ∃ wE, wE = w.alloc (.cells #[vm, vr] 25) := ⟨_, rfl⟩
  have HWE := Lib.hid hwE.symm
  have HBE : Hid (Below w.heap.size w wE) := by rw [hwE]; exact (Below.refl _ _).alloc (Nat.le_refl _) _
  have q1 : wE.heap[w.heap.size]? = some (.cells #[vm, vr] 25) := by rw [hwE]; exact World.alloc_heap_new w _
  have hltE : w.heap.size < wE.heap.size := by rw [hwE]; simp
  have HX : Hid (∀ w', Below wE.heap.size wE w' → w'.cell? ⟨w.heap.size, 0, none⟩ = some vm ∧ w'.cell? ⟨w.heap.size, 1, none⟩ = some vr ∧ w.heap.size < w'.heap.size) := fun w' hb => by
    have := (hb.block _ hltE).trans q1
    exact ⟨by unfold World.cell?; rw [this]; rfl, by unfold World.cell?; rw [this]; rfl, Nat.lt_of_lt_of_le hltE hb.size⟩
  have HRM := Lib.hid (rrow_any wE vm m 7 (hm.1.below HBE.out (Nat.le_refl _)) (by unfold sizeS at hl; dsimp only at hl; omega))
  have HLR : Hid (∀ r ∈ rs, r.length ≤ 1000000) := fun r hr => by have := total_mem hr; unfold sizeS at hl; dsimp only at hl; omega
  have HR := Lib.hid hr
  obtain ⟨A0, c0, rfl, z0⟩ := hm.1.shape
  obtain ⟨⟨A, c, rfl, z1, z2, z3⟩, z4⟩ := hr
  have hc9 : c ≤ 9223372036854775807 := by unfold maxLen at z2; omega
  have HCC := Lib.hid z3
  have hlm : m.length ≤ 1000000 := by unfold sizeS at hl; dsimp only at hl; omega
  obtain ⟨n, hn'⟩ : ∃ n, n = rs.length := ⟨_, rfl⟩
  have HN := Lib.hid hn'
  rw [← hn'] at hn HX HR z1
  have HFB : Hid (fitB (m, rs) = (rowB m 7 && decide (n ≤ 12) && runR rs)) := by rw [HN.out]; rfl
  unfold LsmV
  rw [← hn'] at HWE ⊢
  clear hwE q1 hltE z0 hm z2 z3 z4 hl hn'
  obtain ⟨x0, x1, x2⟩ := HX.out _ (Below.refl _ _)
  generalize m.length = lm at *
  cases hb : rowB m 7 with
  | false =>
    rw [hb] at HRM HFB
    have HE : Hid (fitB (m, rs) = false) := by rw [HFB.out]; rfl
    go_enter Try.func14, Try.ntmps14
    go_wp2_with fail
    rw [HWE.out]
    go_wp2_with fail
    refine HRM.out.mono ?_
    rintro e w1 ⟨rfl, b1⟩
    have HB1 := Lib.hid (HBE.out.trans (b1.mono HBE.out.size))
    clear b1
    go_wp2_with fail
    go_ret
    rw [HE.out]
    exact ⟨rfl, HB1.out⟩
  | true =>
    rw [hb] at HRM HFB
    by_cases h12 : n ≤ 12
    · have d1 : decide ((12 : Int) < (n : Int)) = false := by rw [decide_eq_false_iff_not]; omega
      have d2 : decide (12 < n) = false := by rw [decide_eq_false_iff_not]; omega
      have HE : Hid (fitB (m, rs) = runR rs) := by rw [HFB.out, decide_eq_true h12]; rfl
      clear HFB
      go_enter Try.func14, Try.ntmps14
      go_wp2_with fail
      rw [HWE.out]
      go_wp2_with fail
      refine HRM.out.mono ?_
      rintro e w1 ⟨rfl, b1⟩
      have HB1 := Lib.hid b1
      clear b1 x0 x1 x2
      obtain ⟨x0, x1, x2⟩ := HX.out _ HB1.out
      go_wp2_with fail
      go_loopw [3] (fun a wr => ∃ j : Nat, j ≤ n ∧ a = .int .i64 j ∧ Hid (runR rs = runR (rs.drop j)) ∧ Hid (Below wE.heap.size wE wr)) (fun a _ => n - (intOf a).toNat)
      case atStart => exact ⟨0, Nat.zero_le _, rfl, by unfold Hid; rfl, HB1⟩
      case round =>
        clear x0 x1 x2
        obtain ⟨j, hj, rfl, HI, HW⟩ := hrel
        obtain ⟨x0, x1, x2⟩ := HX.out _ HW.out
        have HBW := Lib.hid (HBE.out.trans (HW.out.mono HBE.out.size))
        by_cases hlt : j < n
        · have hlt' : (j : Int) < (n : Int) := by omega
          have hjl : j < rs.length := by rw [← HN.out]; exact hlt
          obtain ⟨b, off, rfl, hblt, hc⟩ := HCC.out (by omega)
          obtain ⟨u, c1, c2⟩ := hc j hjl
          have e1 := (HBW.out.cell (p := ⟨b, off + j, none⟩) hblt).trans c1
          have HROW := Lib.hid (rrow_any wr u rs[j] 1048576 (c2.1.below HBW.out (Nat.le_refl _)) (HLR.out _ (List.getElem_mem hjl)))
          have hst := runR_step rs j hjl
          have hrl := HLR.out rs[j] (List.getElem_mem hjl)
          have CJ := Lib.hid c1
          by_cases hnx : j + 1 < n
          · have hjn : j + 1 < rs.length := by rw [← HN.out]; exact hnx
            obtain ⟨u2, c3, c4⟩ := hc (j + 1) hjn
            have CP := Lib.hid c3
            obtain ⟨Av, cv, rfl, zz2⟩ := c4.1.shape
            have hrl2 := HLR.out rs[j + 1] (List.getElem_mem hjn)
            have hnb : nextB rs[j].length (rs.drop (j + 1)) = decide (2 * rs[j].length < rs[j + 1].length) := by rw [List.drop_eq_getElem_cons hjn, nextB]
            clear c3 c4 zz2
            obtain ⟨Au, cu, rfl, zz⟩ := c2.1.shape
            clear c1 c2 zz
            rw [hnb] at hst
            clear hnb
            have HST := Lib.hid (HI.out.trans hst)
            clear hst HI hc
            generalize rs[j].length = q at *
            generalize rowB rs[j] 1048576 = t at *
            generalize rs[j + 1].length = p at *
            by_cases hz : q = 0
            · have hz1 : ((q : Int) == 0) = true := by simp [hz]
              have hz2 : (q == 0) = true := by simp [hz]
              have HE2 : Hid (fitB (m, rs) = false) := by rw [HE.out, HST.out, decide_eq_true hz]; rfl
              subst hz
              go_wp2_with fail
              go_ret
              rw [HE2.out]
              exact ⟨rfl, HBW.out⟩
            · have hz1 : ((q : Int) == 0) = false := by rw [beq_eq_false_iff_ne]; omega
              have hz2 : (q == 0) = false := by rw [beq_eq_false_iff_ne]; omega
              rw [decide_eq_false hz] at HST
              cases t with
              | false =>
                have HE2 : Hid (fitB (m, rs) = false) := by rw [HE.out, HST.out]; rfl
                clear hz
                go_wp2_with fail
                refine HROW.out.mono ?_
                rintro e w2 ⟨rfl, b2⟩
                have HB2 := Lib.hid (HBW.out.trans (b2.mono HBW.out.size))
                clear b2 x0 x1 x2
                go_wp2_with fail
                go_ret
                rw [HE2.out]
                exact ⟨rfl, HB2.out⟩
              | true =>
                clear hz
                have hx1 : decide ((j : Int) + 1 < (n : Int)) = true := by rw [decide_eq_true_iff]; omega
                have hx2 : decide (j + 1 < n) = true := by rw [decide_eq_true_iff]; omega
                have hx3 : (j : Int) + 1 < (n : Int) := by omega
                have hx4 : (0 : Int) ≤ (j : Int) + 1 := by omega
                have hx5 : ((j : Int) + 1).toNat = j + 1 := by omega
                by_cases hpq : 2 * q < p
                · have hy1 : decide ((p : Int) ≤ 2 * (q : Int)) = false := by rw [decide_eq_false_iff_not]; omega
                  have hy2 : decide (p ≤ 2 * q) = false := by rw [decide_eq_false_iff_not]; omega
                  have HE2 : Hid (runR rs = runR (rs.drop (j + 1))) := by rw [HST.out, decide_eq_true hpq]; rfl
                  clear hpq
                  go_wp2_with fail
                  refine HROW.out.mono ?_
                  rintro e w2 ⟨rfl, b2⟩
                  have HB2 := Lib.hid (HBW.out.trans (b2.mono HBW.out.size))
                  have HW2 := Lib.hid (HW.out.trans (b2.mono HW.out.size))
                  clear b2 x0 x1 x2
                  obtain ⟨x0, x1, x2⟩ := HX.out _ HW2.out
                  have e1 := (HB2.out.cell (p := ⟨b, off + j, none⟩) hblt).trans CJ.out
                  have e0 := (HB2.out.cell (p := ⟨b, off + (j + 1), none⟩) hblt).trans CP.out
                  go_wp2_with fail
                  go_quiet (fail)
                  rename_i nq
                  have HW3 := Lib.hid (HW2.out.trans ((below_drewN w2 nq).mono HW2.out.size))
                  have HB3 := Lib.hid (HB2.out.trans ((below_drewN w2 nq).mono HB2.out.size))
                  go_wp2_with fail
                  go_roundw
                  case rel => exact ⟨j + 1, by omega, by go_num, HE2, HW3⟩
                  case measure => simp [intOf]; omega
                · have hy1 : decide ((p : Int) ≤ 2 * (q : Int)) = true := by rw [decide_eq_true_iff]; omega
                  have hy2 : decide (p ≤ 2 * q) = true := by rw [decide_eq_true_iff]; omega
                  have HE2 : Hid (fitB (m, rs) = false) := by rw [HE.out, HST.out, decide_eq_false hpq]; rfl
                  clear hpq
                  go_wp2_with fail
                  refine HROW.out.mono ?_
                  rintro e w2 ⟨rfl, b2⟩
                  have HB2 := Lib.hid (HBW.out.trans (b2.mono HBW.out.size))
                  have HW2 := Lib.hid (HW.out.trans (b2.mono HW.out.size))
                  clear b2 x0 x1 x2
                  obtain ⟨x0, x1, x2⟩ := HX.out _ HW2.out
                  have e1 := (HB2.out.cell (p := ⟨b, off + j, none⟩) hblt).trans CJ.out
                  have e0 := (HB2.out.cell (p := ⟨b, off + (j + 1), none⟩) hblt).trans CP.out
                  go_wp2_with fail
                  go_quiet (fail)
                  rename_i nq
                  have HW3 := Lib.hid (HW2.out.trans ((below_drewN w2 nq).mono HW2.out.size))
                  have HB3 := Lib.hid (HB2.out.trans ((below_drewN w2 nq).mono HB2.out.size))
                  go_wp2_with fail
                  go_ret
                  rw [HE2.out]
                  exact ⟨rfl, HB3.out⟩
          · have hnb : nextB rs[j].length (rs.drop (j + 1)) = true := by rw [List.drop_eq_nil_of_le (by rw [← HN.out]; omega)]; rfl
            obtain ⟨Au, cu, rfl, zz⟩ := c2.1.shape
            clear c1 c2 zz
            rw [hnb] at hst
            clear hnb
            have HST := Lib.hid (HI.out.trans hst)
            clear hst HI hc
            generalize rs[j].length = q at *
            generalize rowB rs[j] 1048576 = t at *
            by_cases hz : q = 0
            · have hz1 : ((q : Int) == 0) = true := by simp [hz]
              have hz2 : (q == 0) = true := by simp [hz]
              have HE2 : Hid (fitB (m, rs) = false) := by rw [HE.out, HST.out, decide_eq_true hz]; rfl
              subst hz
              go_wp2_with fail
              go_ret
              rw [HE2.out]
              exact ⟨rfl, HBW.out⟩
            · have hz1 : ((q : Int) == 0) = false := by rw [beq_eq_false_iff_ne]; omega
              have hz2 : (q == 0) = false := by rw [beq_eq_false_iff_ne]; omega
              rw [decide_eq_false hz] at HST
              cases t with
              | false =>
                have HE2 : Hid (fitB (m, rs) = false) := by rw [HE.out, HST.out]; rfl
                clear hz
                go_wp2_with fail
                refine HROW.out.mono ?_
                rintro e w2 ⟨rfl, b2⟩
                have HB2 := Lib.hid (HBW.out.trans (b2.mono HBW.out.size))
                clear b2 x0 x1 x2
                go_wp2_with fail
                go_ret
                rw [HE2.out]
                exact ⟨rfl, HB2.out⟩
              | true =>
                clear hz
                have hx1 : decide ((j : Int) + 1 < (n : Int)) = false := by rw [decide_eq_false_iff_not]; omega
                have hx2 : decide (j + 1 < n) = false := by rw [decide_eq_false_iff_not]; omega
                have HE2 : Hid (runR rs = runR (rs.drop (j + 1))) := by rw [HST.out]; rfl
                go_wp2_with fail
                refine HROW.out.mono ?_
                rintro e w2 ⟨rfl, b2⟩
                have HB2 := Lib.hid (HBW.out.trans (b2.mono HBW.out.size))
                have HW2 := Lib.hid (HW.out.trans (b2.mono HW.out.size))
                clear b2 x0 x1 x2
                obtain ⟨x0, x1, x2⟩ := HX.out _ HW2.out
                go_wp2_with fail
                go_quiet (fail)
                rename_i nq
                have HW3 := Lib.hid (HW2.out.trans ((below_drewN w2 nq).mono HW2.out.size))
                go_wp2_with fail
                go_roundw
                case rel => exact ⟨j + 1, by omega, by go_num, HE2, HW3⟩
                case measure => simp [intOf]; omega
        · obtain rfl : j = n := by omega
          have HE2 : Hid (fitB (m, rs) = true) := by rw [HE.out, HI.out, List.drop_eq_nil_of_le (by rw [HN.out]; exact Nat.le_refl _)]; rfl
          go_wp2_with fail
          go_ret
          rw [HE2.out]
          exact ⟨rfl, HBW.out⟩
    · have d1 : decide ((12 : Int) < (n : Int)) = true := by rw [decide_eq_true_iff]; omega
      have d2 : decide (12 < n) = true := by rw [decide_eq_true_iff]; omega
      have HE : Hid (fitB (m, rs) = false) := by rw [HFB.out, decide_eq_false h12]; rfl
      go_enter Try.func14, Try.ntmps14
      go_wp2_with fail
      rw [HWE.out]
      go_wp2_with fail
      refine HRM.out.mono ?_
      rintro e w1 ⟨rfl, b1⟩
      have HB1 := Lib.hid (HBE.out.trans (b1.mono HBE.out.size))
      have b1' := b1
      clear x0 x1 x2
      obtain ⟨x0, x1, x2⟩ := HX.out _ b1'
      clear b1 b1'
      go_wp2_with fail
      go_ret
      rw [HE.out]
      exact ⟨rfl, HB1.out⟩
set_option maxRecDepth 20000 in
set_option maxHeartbeats 4000000 in
theorem pfit2_any (w : World) (v : Value) (s : CntS) (hs : LsmN w v s) (hl : sizeS s ≤ 1000000) (hn : s.2.length ≤ 1000) :
    Calls Try.prog 13 #[v] w fun e w' => e = .returned (.bool (fitB s)) ∧ Below w.heap.size w w' := by
  obtain ⟨vm, vr, rfl, hm, hr⟩ := hs
  obtain ⟨m, rs⟩ := s
  dsimp only at hm hr hn
  obtain ⟨wE, hwE⟩ : ∃ wE, wE = w.alloc (.cells #[vm, vr] 25) := ⟨_, rfl⟩
  have HWE := Lib.hid hwE.symm
  have HBE : Hid (Below w.heap.size w wE) := by rw [hwE]; exact (Below.refl _ _).alloc (Nat.le_refl _) _
  have q1 : wE.heap[w.heap.size]? = some (.cells #[vm, vr] 25) := by rw [hwE]; exact World.alloc_heap_new w _
  have hltE : w.heap.size < wE.heap.size := by rw [hwE]; simp
  have HX : Hid (∀ w', Below wE.heap.size wE w' → w'.cell? ⟨w.heap.size, 0, none⟩ = some vm ∧ w'.cell? ⟨w.heap.size, 1, none⟩ = some vr ∧ w.heap.size < w'.heap.size) := fun w' hb => by
    have := (hb.block _ hltE).trans q1
    exact ⟨by unfold World.cell?; rw [this]; rfl, by unfold World.cell?; rw [this]; rfl, Nat.lt_of_lt_of_le hltE hb.size⟩
  have HRM := Lib.hid (pfit_any wE vm m 7 (hm.1.below HBE.out (Nat.le_refl _)) (by unfold sizeS at hl; dsimp only at hl; omega))
  have HLR : Hid (∀ r ∈ rs, r.length ≤ 1000000) := fun r hr => by have := total_mem hr; unfold sizeS at hl; dsimp only at hl; omega
  have HR := Lib.hid hr
  obtain ⟨A0, c0, rfl, z0⟩ := hm.1.shape
  obtain ⟨⟨A, c, rfl, z1, z2, z3⟩, z4⟩ := hr
  have hc9 : c ≤ 9223372036854775807 := by unfold maxLen at z2; omega
  have HCC := Lib.hid z3
  have hlm : m.length ≤ 1000000 := by unfold sizeS at hl; dsimp only at hl; omega
  obtain ⟨n, hn'⟩ : ∃ n, n = rs.length := ⟨_, rfl⟩
  have HN := Lib.hid hn'
  rw [← hn'] at hn HX HR z1
  have HFB : Hid (fitB (m, rs) = (rowB m 7 && decide (n ≤ 12) && runR rs)) := by rw [HN.out]; rfl
  unfold LsmV
  rw [← hn'] at HWE ⊢
  clear hwE q1 hltE z0 hm z2 z3 z4 hl hn'
  obtain ⟨x0, x1, x2⟩ := HX.out _ (Below.refl _ _)
  generalize m.length = lm at *
  cases hb : rowB m 7 with
  | false =>
    rw [hb] at HRM HFB
    have HE : Hid (fitB (m, rs) = false) := by rw [HFB.out]; rfl
    go_enter Try.func13, Try.ntmps13
    go_wp2_with fail
    rw [HWE.out]
    go_wp2_with fail
    refine HRM.out.mono ?_
    rintro e w1 ⟨rfl, b1⟩
    have HB1 := Lib.hid (HBE.out.trans (b1.mono HBE.out.size))
    clear b1
    go_wp2_with fail
    go_ret
    rw [HE.out]
    exact ⟨rfl, HB1.out⟩
  | true =>
    rw [hb] at HRM HFB
    by_cases h12 : n ≤ 12
    · have d1 : decide ((12 : Int) < (n : Int)) = false := by rw [decide_eq_false_iff_not]; omega
      have d2 : decide (12 < n) = false := by rw [decide_eq_false_iff_not]; omega
      have HE : Hid (fitB (m, rs) = runR rs) := by rw [HFB.out, decide_eq_true h12]; rfl
      clear HFB
      go_enter Try.func13, Try.ntmps13
      go_wp2_with fail
      rw [HWE.out]
      go_wp2_with fail
      refine HRM.out.mono ?_
      rintro e w1 ⟨rfl, b1⟩
      have HB1 := Lib.hid b1
      clear b1 x0 x1 x2
      obtain ⟨x0, x1, x2⟩ := HX.out _ HB1.out
      go_wp2_with fail
      go_loopw [18] (fun a wr => ∃ j : Nat, j ≤ n ∧ a = .int .i64 j ∧ Hid (runR rs = runP (prevN rs j) (rs.drop j)) ∧ Hid (Below wE.heap.size wE wr)) (fun a _ => n - (intOf a).toNat)
      case atStart => exact ⟨0, Nat.zero_le _, rfl, by unfold Hid; rw [← runP_none]; rfl, HB1⟩
      case round =>
        clear x0 x1 x2
        obtain ⟨j, hj, rfl, HI, HW⟩ := hrel
        obtain ⟨x0, x1, x2⟩ := HX.out _ HW.out
        have HBW := Lib.hid (HBE.out.trans (HW.out.mono HBE.out.size))
        by_cases hlt : j < n
        · have hlt' : (j : Int) < (n : Int) := by omega
          have hjl : j < rs.length := by rw [← HN.out]; exact hlt
          obtain ⟨b, off, rfl, hblt, hc⟩ := HCC.out (by omega)
          obtain ⟨u, c1, c2⟩ := hc j hjl
          have e1 := (HBW.out.cell (p := ⟨b, off + j, none⟩) hblt).trans c1
          have HROW := Lib.hid (pfit_any wr u rs[j] 1048576 (c2.1.below HBW.out (Nat.le_refl _)) (HLR.out _ (List.getElem_mem hjl)))
          have hst := runP_step rs j hjl
          have hrl := HLR.out rs[j] (List.getElem_mem hjl)
          have CJ := Lib.hid c1
          have HCC1 := Lib.hid hc
          obtain ⟨Au, cu, rfl, zz⟩ := c2.1.shape
          clear c1 c2 zz
          have HST := Lib.hid (HI.out.trans hst)
          clear hst HI hc
          generalize rowB rs[j] 1048576 = t at *
          obtain ⟨q, hq⟩ : ∃ q, q = rs[j].length := ⟨_, rfl⟩
          rw [← hq] at HST hrl e1 HROW CJ
          have HQ := Lib.hid hq
          clear hq
          by_cases hz : q = 0
          · have hz1 : ((q : Int) == 0) = true := by simp [hz]
            have hz2 : (q == 0) = true := by simp [hz]
            have HE2 : Hid (fitB (m, rs) = false) := by rw [HE.out, HST.out, decide_eq_true hz]; rfl
            subst hz
            go_wp2_with fail
            go_ret
            rw [HE2.out]
            exact ⟨rfl, HBW.out⟩
          · have hz1 : ((q : Int) == 0) = false := by rw [beq_eq_false_iff_ne]; omega
            have hz2 : (q == 0) = false := by rw [beq_eq_false_iff_ne]; omega
            rw [decide_eq_false hz] at HST
            cases t with
            | false =>
              have HE2 : Hid (fitB (m, rs) = false) := by rw [HE.out, HST.out]; rfl
              clear hz
              go_wp2_with fail
              refine HROW.out.mono ?_
              rintro e w2 ⟨rfl, b2⟩
              have HB2 := Lib.hid (HBW.out.trans (b2.mono HBW.out.size))
              clear b2 x0 x1 x2
              go_wp2_with fail
              go_ret
              rw [HE2.out]
              exact ⟨rfl, HB2.out⟩
            | true =>
              clear hz
              by_cases hj0 : j = 0
              · have hx1 : decide ((0 : Int) < (j : Int)) = false := by rw [decide_eq_false_iff_not]; omega
                have hx2 : decide (0 < j) = false := by rw [decide_eq_false_iff_not]; omega
                have HE2 : Hid (runR rs = runP (prevN rs (j + 1)) (rs.drop (j + 1))) := by rw [HST.out, show prevN rs j = none by unfold prevN; rw [if_pos hj0]]; rfl
                clear hj0
                go_wp2_with fail
                refine HROW.out.mono ?_
                rintro e w2 ⟨rfl, b2⟩
                have HB2 := Lib.hid (HBW.out.trans (b2.mono HBW.out.size))
                have HW2 := Lib.hid (HW.out.trans (b2.mono HW.out.size))
                clear b2 x0 x1 x2
                obtain ⟨x0, x1, x2⟩ := HX.out _ HW2.out
                go_wp2_with fail
                go_roundw
                case rel => exact ⟨j + 1, by omega, by go_num, HE2, HW2⟩
                case measure => simp [intOf]; omega
              · have hx1 : decide ((0 : Int) < (j : Int)) = true := by rw [decide_eq_true_iff]; omega
                have hx2 : decide (0 < j) = true := by rw [decide_eq_true_iff]; omega
                have hjp : j - 1 < rs.length := by omega
                obtain ⟨u2, c3, c4⟩ := HCC1.out (j - 1) hjp
                have CP := Lib.hid c3
                obtain ⟨Av, cv, rfl, zz2⟩ := c4.1.shape
                have hrl2 := HLR.out rs[j - 1] (List.getElem_mem hjp)
                have hpv : prevN rs j = some rs[j - 1].length := by unfold prevN; rw [if_neg hj0]; simp [hjp]
                rw [hpv] at HST
                clear c3 c4 zz2 hpv
                generalize rs[j - 1].length = p at *
                have hx3 : (0 : Int) ≤ (j : Int) - 1 := by omega
                have hx6 : (1 : Int) ≤ (j : Int) := by omega
                have hx7 : 1 ≤ j := by omega
                have hx4 : (j : Int) - 1 < (n : Int) := by omega
                have hx5 : ((j : Int) - 1).toNat = j - 1 := by omega
                clear hj0
                by_cases hpq : 2 * p < q
                · have hy1 : decide ((q : Int) ≤ 2 * (p : Int)) = false := by rw [decide_eq_false_iff_not]; omega
                  have hy2 : decide (q ≤ 2 * p) = false := by rw [decide_eq_false_iff_not]; omega
                  have HE2 : Hid (runR rs = runP (prevN rs (j + 1)) (rs.drop (j + 1))) := by rw [HST.out]; dsimp only; rw [decide_eq_true hpq]; rfl
                  clear hpq
                  go_wp2_with fail
                  refine HROW.out.mono ?_
                  rintro e w2 ⟨rfl, b2⟩
                  have HB2 := Lib.hid (HBW.out.trans (b2.mono HBW.out.size))
                  have HW2 := Lib.hid (HW.out.trans (b2.mono HW.out.size))
                  clear b2 x0 x1 x2
                  obtain ⟨x0, x1, x2⟩ := HX.out _ HW2.out
                  have e1 := (HB2.out.cell (p := ⟨b, off + j, none⟩) hblt).trans CJ.out
                  have e0 := (HB2.out.cell (p := ⟨b, off + (j - 1), none⟩) hblt).trans CP.out
                  go_wp2_with fail
                  go_roundw
                  case rel => exact ⟨j + 1, by omega, by go_num, HE2, HW2⟩
                  case measure => simp [intOf]; omega
                · have hy1 : decide ((q : Int) ≤ 2 * (p : Int)) = true := by rw [decide_eq_true_iff]; omega
                  have hy2 : decide (q ≤ 2 * p) = true := by rw [decide_eq_true_iff]; omega
                  have HE2 : Hid (fitB (m, rs) = false) := by rw [HE.out, HST.out]; dsimp only; rw [decide_eq_false hpq]; rfl
                  clear hpq
                  go_wp2_with fail
                  refine HROW.out.mono ?_
                  rintro e w2 ⟨rfl, b2⟩
                  have HB2 := Lib.hid (HBW.out.trans (b2.mono HBW.out.size))
                  have HW2 := Lib.hid (HW.out.trans (b2.mono HW.out.size))
                  clear b2 x0 x1 x2
                  obtain ⟨x0, x1, x2⟩ := HX.out _ HW2.out
                  have e1 := (HB2.out.cell (p := ⟨b, off + j, none⟩) hblt).trans CJ.out
                  have e0 := (HB2.out.cell (p := ⟨b, off + (j - 1), none⟩) hblt).trans CP.out
                  go_wp2_with fail
                  go_ret
                  rw [HE2.out]
                  exact ⟨rfl, HB2.out⟩
        · obtain rfl : j = n := by omega
          have HE2 : Hid (fitB (m, rs) = true) := by rw [HE.out, HI.out, List.drop_eq_nil_of_le (by rw [HN.out]; exact Nat.le_refl _)]; rfl
          go_wp2_with fail
          go_ret
          rw [HE2.out]
          exact ⟨rfl, HBW.out⟩
    · have d1 : decide ((12 : Int) < (n : Int)) = true := by rw [decide_eq_true_iff]; omega
      have d2 : decide (12 < n) = true := by rw [decide_eq_true_iff]; omega
      have HE : Hid (fitB (m, rs) = false) := by rw [HFB.out, decide_eq_false h12]; rfl
      go_enter Try.func13, Try.ntmps13
      go_wp2_with fail
      rw [HWE.out]
      go_wp2_with fail
      refine HRM.out.mono ?_
      rintro e w1 ⟨rfl, b1⟩
      have HB1 := Lib.hid (HBE.out.trans (b1.mono HBE.out.size))
      have b1' := b1
      clear x0 x1 x2
      obtain ⟨x0, x1, x2⟩ := HX.out _ b1'
      clear b1 b1'
      go_wp2_with fail
      go_ret
      rw [HE.out]
      exact ⟨rfl, HB1.out⟩
end Go.Proofs.Yteidlngffikboaa
