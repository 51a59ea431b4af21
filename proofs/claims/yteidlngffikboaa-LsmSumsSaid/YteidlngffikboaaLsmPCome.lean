/- Walk: lsm.come: a row comes ahead of others (printed by gen-lsm-pcome.py). -/
import Derived.Test.YteidlngffikboaaLsmRows
import Derived.Test.YteidlngffikboaaLsmR1
import Derived.Deep.RegionHeld3
namespace Go.Proofs.Yteidlngffikboaa
open Go.RowKit
set_option linter.unusedVariables false
set_option linter.unusedSimpArgs false
def lenOfP : Value → Nat
  | .slice _ n _ => n
  | _ => 0
set_option maxRecDepth 20000 in
set_option maxHeartbeats 8000000 in
theorem pcome_any (hf : ∀ (w : World) (va vb : Value) (a b : List Cnt), CntN w va a → CntN w vb b → okR a → okR b → a.length + b.length ≤ 1000000 → Calls Try.prog 49 #[va, vb] w fun e w' => ∃ v', e = .returned v' ∧ CntN w' v' (mergeL a b) ∧ Below w.heap.size w w')
    (w : World) (vr v : Value) (rs : List (List Cnt)) (r : List Cnt) (hr : RunsN w vr rs) (hv : CntN w v r) (ok : ∀ x ∈ r :: rs, okR x) (hl : r.length + total rs ≤ 1000000) (hn : rs.length ≤ 1000) :
    Calls Try.prog 48 #[vr, v, .func (.func 49) #[] #[]] w fun e w' => ∃ v', e = .returned v' ∧ RunsN w' v' (comeP rs r) ∧ Below w.heap.size w w' ∧ (v' = vr ∨ FreshV w.heap.size v') := by
  have HF := Lib.hid hf
  have HR := Lib.hid hr
  have HV := Lib.hid hv
  have HCC := Lib.hid (cat_aheadF w w.heap.size rfl v vr r rs hv hr (by omega))
  obtain ⟨Ar, cr, rfl, h1, h2⟩ := hr.shape
  obtain ⟨A, c, rfl, z0⟩ := hv.1.shape
  have hcr : cr ≤ 9223372036854775807 := by unfold maxLen at h2; omega
  clear hr hv z0 hf
  rcases r with _ | ⟨x, r⟩
  · have HE : Hid (comeP rs [] = rs) := by unfold Hid comeP; simp
    go_enter Try.func48, Try.ntmps48
    go_wp2_with fail
    refine HCC.out.mono ?_
    rintro e w1 ⟨v1, rfl, hR1, hB1, hF1⟩
    clear hF1
    have HR1 := Lib.hid (HR.out.below hB1 (Nat.le_refl _))
    have HB1 := Lib.hid hB1
    clear hR1 hB1
    go_wp2_with fail
    go_ret
    rw [HE.out]
    exact ⟨_, rfl, HR1.out, HB1.out, .inl rfl⟩
  · have HE : Hid (comeP rs (x :: r) = comeL ((x :: r) :: rs)) := by unfold Hid comeP; simp
    have HOK := Lib.hid ok
    have HL := Lib.hid hl
    have hq : 1 ≤ (x :: r).length := by simp
    clear ok hl
    generalize x :: r = q at *
    have hz : ((q.length : Int) == 0) = false := by rw [beq_eq_false_iff_ne]; omega
    have hz2 : (q.length == 0) = false := by rw [beq_eq_false_iff_ne]; omega
    go_enter Try.func48, Try.ntmps48
    go_wp2_with fail
    refine HCC.out.mono ?_
    rintro e w9 ⟨u9, rfl, hR9, hB9, hF9⟩
    have HF9 := Lib.hid hF9
    clear hF9
    have HR9 := Lib.hid hR9
    have HB9 := Lib.hid hB9
    obtain ⟨A9, c9, rfl, _, _⟩ := hR9.shape
    clear hR9 hB9 HCC HR HV
    go_wp2_with fail
    go_loopw [7] (fun o wr => ∃ l : List (List Cnt), Hid (RunsN wr o l) ∧ Hid (comeP rs q = comeL l) ∧ Hid (∀ x ∈ l, okR x) ∧ Hid (total l ≤ 1000000) ∧ Hid (l.length ≤ 1001) ∧ Hid (Below w.heap.size w wr) ∧ Hid (FreshV w.heap.size o)) (fun o _ => lenOfP o)
    case atStart => exact ⟨q :: rs, HR9, HE, HOK, by have := HL.out; unfold Hid total at *; simpa using this, by unfold Hid; simp; omega, HB9, HF9⟩
    case round =>
      obtain ⟨l, HRl, HEl, HOl, HTl, HNl, HBl, HFl⟩ := hrel
      rcases l with _ | ⟨x, _ | ⟨y, rest⟩⟩
      · obtain ⟨Al, cl, rfl, g1, g2⟩ := HRl.out.shape
        have HE2 : Hid (comeP rs q = []) := by unfold Hid; rw [HEl.out, comeL]
        go_wp2_with fail
        go_quiet (fail)
        go_wp2_with fail
        go_ret
        rw [HE2.out]
        exact ⟨_, rfl, HRl.out, HBl.out.trans ((below_drewN _ _).mono HBl.out.size), .inr HFl.out⟩
      · have HE2 : Hid (comeP rs q = [x]) := by unfold Hid; rw [HEl.out, comeL]
        obtain ⟨Al, cl, rfl, g1, g2⟩ := HRl.out.shape
        go_wp2_with fail
        go_quiet (fail)
        go_wp2_with fail
        go_ret
        rw [HE2.out]
        exact ⟨_, rfl, HRl.out, HBl.out.trans ((below_drewN _ _).mono HBl.out.size), .inr HFl.out⟩
      · obtain ⟨b, off, cl, u, rfl, g1, g2, g3, e0, k0, T1⟩ := HRl.out.cons
        obtain ⟨b', off', cl', u2, hu, g4, g5, g6, e1, k1, T2⟩ := T1.cons
        cases hu
        have HFb : Hid (w.heap.size ≤ b) := HFl.out b off _ cl rfl
        have HFt : Hid (∀ o n c, FreshV w.heap.size (.slice (some ⟨b, o, none⟩) n c)) := fun o n c b1 o1 n1 c1 e => by cases e; exact HFb.out
        obtain ⟨n, hn⟩ : ∃ n, n = rest.length := ⟨_, rfl⟩
        have HNn := Lib.hid hn
        simp only [List.length_cons] at HRl T1
        rw [← hn] at HRl T1 T2 g4
        simp only [List.length_cons] at g1
        rw [← hn] at g1
        simp only [List.length_cons]
        rw [← hn]
        clear hn
        have hlx : x.length ≤ 1000000 := by have := HTl.out; simp [total] at this; omega
        have hly : y.length ≤ 1000000 := by have := HTl.out; simp [total] at this; omega
        have hd1 : decide ((1 : Int) < (n : Int) + 1 + 1) = true := by rw [decide_eq_true_iff]; omega
        have hp0 : (0 : Int) < (n : Int) + 1 + 1 := by omega
        have hp1 : (1 : Int) < (n : Int) + 1 + 1 := by omega
        have hcl : cl ≤ 9223372036854775807 := by unfold maxLen at g2; omega
        have hcne : ¬ cl = 1 := by omega
        have K0 := Lib.hid k0
        have K1 := Lib.hid k1
        have HT1 := Lib.hid T1
        have HT2 := Lib.hid T2
        obtain ⟨Ax, cx, rfl, z1⟩ := k0.1.shape
        obtain ⟨Ay, cy, rfl, z2⟩ := k1.1.shape
        clear z1 z2
        have HNE : Hid (n + 1 ≤ cl - 1) := g4
        clear k0 k1 T1 T2 g2 g4 g5 g6
        by_cases ht : y.length ≤ 2 * x.length
        · have hd2 : decide ((y.length : Int) ≤ 2 * (x.length : Int)) = true := by rw [decide_eq_true_iff]; omega
          have hd3 : decide (y.length ≤ 2 * x.length) = true := by rw [decide_eq_true_iff]; omega
          have HE3 : Hid (comeP rs q = if mergeL x y = [] then comeL rest else comeL (mergeL x y :: rest)) := by unfold Hid; rw [HEl.out, comeL, if_pos ht]
          have HML := Lib.hid (mergeL_len x y)
          have HMO := Lib.hid (mergeL_ok (HOl.out x (by simp)) (HOl.out y (by simp)))
          have HTT : Hid (x.length + y.length + total rest ≤ 1000000) := by have := HTl.out; unfold Hid total at *; simp at this; omega
          have HOO : Hid (∀ z ∈ rest, okR z) := fun z hz => HOl.out z (by simp [hz])
          have HNN : Hid (n + 2 ≤ 1001) := by have := HNl.out; rw [HNn.out]; unfold Hid; simpa using this
          have HMC : Hid (∀ w', Below wr.heap.size wr w' → Calls Try.prog 49 #[.slice Ax x.length cx, .slice Ay y.length cy] w' fun e w'' => ∃ v', e = .returned v' ∧ CntN w'' v' (mergeL x y) ∧ Below w'.heap.size w' w'') := fun w' hb => HF.out w' _ _ x y (K0.out.below hb (Nat.le_refl _)) (K1.out.below hb (Nat.le_refl _)) (HOl.out x (by simp)) (HOl.out y (by simp)) (by have := HTT.out; omega)
          clear ht HEl HTl HOl HNl HFb
          generalize mergeL x y = m at *
          generalize x.length = lx at *
          generalize y.length = ly at *
          go_wp2_with fail
          go_quiet (fail)
          rename_i nq
          have HBq : Hid (Below wr.heap.size wr (wr.drewN nq).drew) := ((below_drewN wr nq).drew)
          have HBw : Hid (Below w.heap.size w (wr.drewN nq).drew) := HBl.out.trans (HBq.out.mono HBl.out.size)
          have HMC1 := Lib.hid (HMC.out _ HBq.out)
          have f0 : (wr.drewN nq).drew.cell? ⟨b, off, none⟩ = some (.slice Ax lx cx) := e0
          have f1 : (wr.drewN nq).drew.cell? ⟨b, off + 1, none⟩ = some (.slice Ay ly cy) := e1
          have hg3 : b < (wr.drewN nq).drew.heap.size := g3
          have HT1q : Hid (RunsN (wr.drewN nq).drew (.slice (some ⟨b, off + 1, none⟩) (n + 1) (cl - 1)) (y :: rest)) := HT1.out.below HBq.out (Nat.le_refl _)
          have HT2q : Hid (RunsN (wr.drewN nq).drew (.slice (some ⟨b, off + 1 + 1, none⟩) n (cl - 1 - 1)) rest) := HT2.out.below HBq.out (Nat.le_refl _)
          have hd4 : (n : Int) + 1 + 1 = (n : Int) + 2 := by omega
          clear hd4
          go_wp2_with fail
          refine wp_region_noPanic ?_
          refine wp_region_held_drew (S := fun w' => Below (wr.drewN nq).drew.heap.size (wr.drewN nq).drew w') (by kernel_rfl) (Below.refl _ _) (fun hHeld => ?_)
          clear HBq HMC HT1 HT2 HRl e0 e1 g3 HBl K0 K1
          generalize (wr.drewN nq).drew = wq at *
          refine' wpAnyH_take (i := 0) (v := ?v1) rfl (by kernel_rfl) (by kernel_rfl) (by kernel_rfl) (fun _ _ _ h => h) (Or.inl ⟨by kernel_rfl, ?hy1⟩) (by assumption) ?rest1
          case hy1 => (intro w hSw; (try dsimp only at hSw); go_simp; try with_reducible rfl)
          try simp only [Act.put, List.setIfInBounds_toArray, List.set_cons_zero, List.set_cons_succ]
          refine' wpAnyH_take (i := 1) (v := ?v2) rfl (by kernel_rfl) (by kernel_rfl) (by kernel_rfl) (fun _ _ _ h => h) (Or.inl ⟨by kernel_rfl, ?hy2⟩) (by assumption) ?rest2
          case hy2 => (intro w hSw; (try dsimp only at hSw); go_simp; try with_reducible rfl)
          try simp only [Act.put, List.setIfInBounds_toArray, List.set_cons_zero, List.set_cons_succ]
          refine' wpAnyH_take (i := 4) (v := ?v3) rfl (by kernel_rfl) (by kernel_rfl) (by kernel_rfl) (fun _ _ _ h => h) (Or.inl ⟨by kernel_rfl, ?hy3⟩) (by assumption) ?rest3
          case hy3 => (intro w hSw; (try dsimp only at hSw); go_simp; try with_reducible rfl)
          try simp only [Act.put, List.setIfInBounds_toArray, List.set_cons_zero, List.set_cons_succ]
          refine' wpAnyH_take (i := 2) (v := ?v4) rfl (by kernel_rfl) (by kernel_rfl) (by kernel_rfl) (fun _ _ _ h => h) (Or.inl ⟨by kernel_rfl, ?hy4⟩) (by assumption) ?rest4
          case hy4 => (intro w hSw; (try dsimp only at hSw); go_simp; try with_reducible rfl)
          try simp only [Act.put, List.setIfInBounds_toArray, List.set_cons_zero, List.set_cons_succ]
          refine' wpAnyH_take (i := 5) (v := ?v5) rfl (by kernel_rfl) (by kernel_rfl) (by kernel_rfl) (fun _ _ _ h => h) (Or.inl ⟨by kernel_rfl, ?hy5⟩) (by assumption) ?rest5
          case hy5 => (intro w hSw; (try dsimp only at hSw); go_simp; try with_reducible rfl)
          try simp only [Act.put, List.setIfInBounds_toArray, List.set_cons_zero, List.set_cons_succ]
          refine wpAnyH_take (i := 3) (v := (.slice Ax lx cx)) rfl (by kernel_rfl) (by kernel_rfl) (by kernel_rfl) (fun _ _ _ h => h) (Or.inl ⟨by kernel_rfl, ?_⟩) hHeld ?_
          · intro w hSw
            have hh := ((hSw.cell (p := ⟨b, off, none⟩) hg3).trans f0)
            go_simp
          try simp only [Act.put, List.setIfInBounds_toArray, List.set_cons_zero, List.set_cons_succ]
          refine wpAnyH_take (i := 6) (v := (.slice Ay ly cy)) rfl (by kernel_rfl) (by kernel_rfl) (by kernel_rfl) (fun _ _ _ h => h) (Or.inl ⟨by kernel_rfl, ?_⟩) hHeld ?_
          · intro w hSw
            have hh := ((hSw.cell (p := ⟨b, off + 1, none⟩) hg3).trans f1)
            go_simp
          try simp only [Act.put, List.setIfInBounds_toArray, List.set_cons_zero, List.set_cons_succ]
          refine wpAnyH_ready (rs := [7]) (by kernel_rfl) (by simp) ?_
          refine AllReadyH.cons rfl (fun K hK => ?_) AllReadyH.nil
          go_simp
          go_at_call 49
          refine HMC1.out.mono ?_
          rintro er w2 ⟨vm, rfl, om, bm⟩
          have HOM := Lib.hid om
          have HBM := Lib.hid bm
          obtain ⟨Am, cm, rfl, z3⟩ := om.1.shape
          clear z3 om bm
          go_wp2_with fail
          refine hK.out _ _ HBM.out (fun hHeld => ?_)
          clear hK K hHeld
          try simp only [Act.put, List.setIfInBounds_toArray, List.set_cons_zero, List.set_cons_succ]
          refine wpAnyH_take (i := 8) (v := .slice Am m.length cm) rfl (by kernel_rfl) (by kernel_rfl) (by kernel_rfl) (fun _ _ _ h => h) (Or.inl ⟨by kernel_rfl, ?_⟩) (by assumption) ?_
          · intro w hSw
            go_simp
          refine wpAnyH_done (by kernel_rfl) ?_ _
          refine NoPanic.normal ?_
          have HT1m : Hid (RunsN w2 (.slice (some ⟨b, off + 1, none⟩) (n + 1) (cl - 1)) (y :: rest)) := HT1q.out.below HBM.out (Nat.le_refl _)
          have HT2m : Hid (RunsN w2 (.slice (some ⟨b, off + 1 + 1, none⟩) n (cl - 1 - 1)) rest) := HT2q.out.below HBM.out (Nat.le_refl _)
          have HB2 : Hid (Below w.heap.size w w2) := HBw.out.trans (HBM.out.mono HBw.out.size)
          have HCM : Hid (CntN w2 (.slice Am m.length cm) m) := HOM
          clear HT1q HT2q HBw HBM HOM HMC1 f0 f1 hg3
          by_cases hm0 : m = []
          · have HM0 := Lib.hid hm0
            subst hm0
            by_cases hlc : cl - 1 = 1
            · have HT3 : Hid (RunsN w2 (.slice (some ⟨b, off + 1, none⟩) n 0) rest) := by
                have hn0 : n = 0 := by have := HNE.out; omega
                have hr0 : rest = [] := List.length_eq_zero_iff.1 (by rw [← HNn.out]; exact hn0)
                rw [hn0, hr0]
                exact RunsN.tail0 rfl
              clear HT1m HT2m
              go_wp2_with fail
              go_roundw
              case rel => exact ⟨rest, HT3, by unfold Hid; rw [HE3.out, if_pos HM0.out], HOO, by have := HTT.out; unfold Hid; omega, by have := HNN.out; rw [HNn.out] at this; unfold Hid; omega, HB2, HFt.out _ _ _⟩
              case measure => simp [lenOfP]; try omega
            · have HT3 := HT2m
              clear HT1m HT2m
              go_wp2_with fail
              go_roundw
              case rel => exact ⟨rest, HT3, by unfold Hid; rw [HE3.out, if_pos HM0.out], HOO, by have := HTT.out; unfold Hid; omega, by have := HNN.out; rw [HNn.out] at this; unfold Hid; omega, HB2, HFt.out _ _ _⟩
              case measure => simp [lenOfP]; try omega
          · have HM0 := Lib.hid hm0
            have hml : 1 ≤ m.length := by
              rcases m with _ | ⟨z, m⟩
              · exact absurd rfl hm0
              · simp
            have hmz : ((m.length : Int) == 0) = false := by rw [beq_eq_false_iff_ne]; omega
            have hmz2 : (m.length == 0) = false := by rw [beq_eq_false_iff_ne]; omega
            clear hm0
            by_cases hlc : cl - 1 = 1
            · have HT3 : Hid (RunsN w2 (.slice (some ⟨b, off + 1, none⟩) n 0) rest) := by
                have hn0 : n = 0 := by have := HNE.out; omega
                have hr0 : rest = [] := List.length_eq_zero_iff.1 (by rw [← HNn.out]; exact hn0)
                rw [hn0, hr0]
                exact RunsN.tail0 rfl
              clear HT1m HT2m
              have HCN := Lib.hid (cat_aheadF w2 w2.heap.size rfl _ _ m rest HCM.out HT3.out (by have := HNN.out; have := HNn.out; omega))
              go_wp2_with fail
              refine HCN.out.mono ?_
              rintro e w9 ⟨u9, rfl, hR9, hB9, hF9⟩
              have HF9 := Lib.hid (hF9.mono HB2.out.size)
              clear hF9
              have HR9 := Lib.hid hR9
              have HB9 := Lib.hid hB9
              clear hR9 hB9 HCN
              obtain ⟨A9, c9, rfl, _, _⟩ := HR9.out.shape
              go_wp2_with fail
              go_roundw
              case rel => exact ⟨m :: rest, HR9, by unfold Hid; rw [HE3.out, if_neg HM0.out], (fun z hz => by rcases List.mem_cons.1 hz with rfl | hz; exact HMO.out; exact HOO.out z hz), by have := HTT.out; have := HML.out; unfold Hid total at *; simp only [List.map_cons, List.sum_cons]; omega, by have := HNN.out; rw [HNn.out] at this; unfold Hid; simp only [List.length_cons]; omega, HB2.out.trans (HB9.out.mono HB2.out.size), HF9⟩
              case measure => have := HNn.out; simp [lenOfP]; try omega
            · have HT3 := HT2m
              clear HT1m HT2m
              have HCN := Lib.hid (cat_aheadF w2 w2.heap.size rfl _ _ m rest HCM.out HT3.out (by have := HNN.out; have := HNn.out; omega))
              go_wp2_with fail
              refine HCN.out.mono ?_
              rintro e w9 ⟨u9, rfl, hR9, hB9, hF9⟩
              have HF9 := Lib.hid (hF9.mono HB2.out.size)
              clear hF9
              have HR9 := Lib.hid hR9
              have HB9 := Lib.hid hB9
              clear hR9 hB9 HCN
              obtain ⟨A9, c9, rfl, _, _⟩ := HR9.out.shape
              go_wp2_with fail
              go_roundw
              case rel => exact ⟨m :: rest, HR9, by unfold Hid; rw [HE3.out, if_neg HM0.out], (fun z hz => by rcases List.mem_cons.1 hz with rfl | hz; exact HMO.out; exact HOO.out z hz), by have := HTT.out; have := HML.out; unfold Hid total at *; simp only [List.map_cons, List.sum_cons]; omega, by have := HNN.out; rw [HNn.out] at this; unfold Hid; simp only [List.length_cons]; omega, HB2.out.trans (HB9.out.mono HB2.out.size), HF9⟩
              case measure => have := HNn.out; simp [lenOfP]; try omega
        · have hd2 : decide ((y.length : Int) ≤ 2 * (x.length : Int)) = false := by rw [decide_eq_false_iff_not]; omega
          have hd3 : decide (y.length ≤ 2 * x.length) = false := by rw [decide_eq_false_iff_not]; omega
          have HE3 : Hid (comeP rs q = x :: y :: rest) := by unfold Hid; rw [HEl.out, comeL, if_neg ht]
          clear ht HEl HTl HOl HNl HFb
          generalize x.length = lx at *
          generalize y.length = ly at *
          go_wp2_with fail
          go_quiet (fail)
          go_wp2_with fail
          go_ret
          rw [HE3.out]
          exact ⟨_, rfl, HRl.out, HBl.out.trans ((below_drewN _ _).mono HBl.out.size), .inr (HFt.out _ _ _)⟩
end Go.Proofs.Yteidlngffikboaa
