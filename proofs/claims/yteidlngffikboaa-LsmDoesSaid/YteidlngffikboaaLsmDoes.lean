/- LsmDoes: the law's walk (printed by gen-lsm-does.py). -/
import Derived.Test.YteidlngffikboaaLsmPl3
import Derived.Test.YteidlngffikboaaLsmAwake
import Derived.Test.YteidlngffikboaaLsmSame
import Derived.Test.YteidlngffikboaaArgsX
import Derived.Deep.DeepCutAuto
namespace Go.Proofs.Yteidlngffikboaa
open Go.RowKit
set_option linter.unusedVariables false
set_option linter.unusedSimpArgs false
set_option maxRecDepth 100000 in
set_option maxHeartbeats 16000000 in
theorem does_core (w : World) (vl vm : Value) (l m : CntS) (key : ByteArray) (n : Int) (hl : LsmN w vl l) (hm : LsmN w vm m) (ql : ∀ r ∈ l.2, r.length ≤ 140737488351232) (qm : ∀ r ∈ m.2, r.length ≤ 140737488351232) (hk : key.size ≤ 140737488351232) (h63 : -9223372036854775808 ≤ n ∧ n ≤ 9223372036854775807) :
    Calls Try.prog 4 #[vl, vm, .string key, .int .i64 n] w fun e w' => e = .returned (.bool true) ∧ Below w.heap.size w w' := by
  have HQL := Lib.hid ql
  have HQM := Lib.hid qm
  obtain ⟨A1, c1, A2, c2, rfl⟩ := hl.shapes
  obtain ⟨A3, c3, A4, c4, rfl⟩ := hm.shapes
  obtain ⟨l0, hl0⟩ : ∃ v, v = Value.slice A1 l.1.length c1 := ⟨_, rfl⟩
  obtain ⟨wE, hwE⟩ : ∃ wE, wE = (w.alloc (.cells #[.slice A1 l.1.length c1, .slice A2 l.2.length c2] 25)).alloc (.cells #[.slice A3 m.1.length c3, .slice A4 m.2.length c4] 25) := ⟨_, rfl⟩
  have HWE := Lib.hid hwE.symm
  have LOW : Hid (Below w.heap.size w wE) := by rw [hwE]; exact ((Below.refl _ _).alloc (Nat.le_refl _) _).alloc (by simp) _
  have HL : Hid (BoxV w.heap.size (.slice A1 l.1.length c1) (.slice A2 l.2.length c2) l wE) := by rw [hwE]; exact (boxV_new w _ _ l hl).below ((Below.refl _ _).alloc (Nat.le_refl _) _)
  have HM : Hid (BoxV (w.heap.size + 1) (.slice A3 m.1.length c3) (.slice A4 m.2.length c4) m wE) := by
    rw [hwE]
    have := boxV_new (w.alloc (.cells #[.slice A1 l.1.length c1, .slice A2 l.2.length c2] 25)) _ _ m (hm.below ((Below.refl _ _).alloc (Nat.le_refl _) _) (Nat.le_refl _))
    rw [World.size_alloc] at this
    exact this
  clear hwE hl hm ql qm hl0 l0
  generalize hg1 : l.1.length = n1 at *
  generalize hg2 : l.2.length = n2 at *
  generalize hg3 : m.1.length = n3 at *
  generalize hg4 : m.2.length = n4 at *
  clear hg1 hg2 hg3 hg4
  unfold LsmV
  have hl0 := HL.out.c0
  have hl1 := HL.out.c1
  have hm0 := HM.out.c0
  have hm1 := HM.out.c1
  have HF := Lib.hid (few_any wE _ l HL.out.rows HQL.out)
  go_enter Try.func4, Try.ntmps4
  go_wp2_with fail
  rw [HWE.out]
  unfold LsmV at HF
  cases hfl : fewB l with
  | false =>
    rw [hfl] at HF
    go_wp2_with fail
    refine HF.out.mono ?_
    rintro e w1 ⟨rfl, b1⟩
    replace HL := Lib.hid (HL.out.below b1)
    replace HM := Lib.hid (HM.out.below b1)
    replace LOW := Lib.hid (LOW.out.trans (b1.mono LOW.out.size))
    clear hl0 hl1 hm0 hm1
    have hl0 := HL.out.c0
    have hl1 := HL.out.c1
    have hm0 := HM.out.c0
    have hm1 := HM.out.c1
    clear b1 HF
    go_wp2_with fail
    refine (awake_any _).mono ?_
    rintro e wz ⟨rfl, bz⟩
    have HZ := Lib.hid (LOW.out.trans (bz.mono LOW.out.size))
    clear bz
    go_wp2_with fail
    go_ret
    exact ⟨rfl, HZ.out⟩
  | true =>
    rw [hfl] at HF
    have HFL := Lib.hid (fewB_le hfl)
    go_wp2_with fail
    refine HF.out.mono ?_
    rintro e w1 ⟨rfl, b1⟩
    replace HL := Lib.hid (HL.out.below b1)
    replace HM := Lib.hid (HM.out.below b1)
    replace LOW := Lib.hid (LOW.out.trans (b1.mono LOW.out.size))
    clear hl0 hl1 hm0 hm1
    have hl0 := HL.out.c0
    have hl1 := HL.out.c1
    have hm0 := HM.out.c0
    have hm1 := HM.out.c1
    clear b1 HF
    have HF := Lib.hid (few_any w1 _ m HM.out.rows HQM.out)
    unfold LsmV at HF
    cases hfm : fewB m with
    | false =>
      rw [hfm] at HF
      go_wp2_with fail
      refine HF.out.mono ?_
      rintro e w2 ⟨rfl, b1⟩
      replace HL := Lib.hid (HL.out.below b1)
      replace HM := Lib.hid (HM.out.below b1)
      replace LOW := Lib.hid (LOW.out.trans (b1.mono LOW.out.size))
      clear hl0 hl1 hm0 hm1
      have hl0 := HL.out.c0
      have hl1 := HL.out.c1
      have hm0 := HM.out.c0
      have hm1 := HM.out.c1
      clear b1 HF
      go_wp2_with fail
      refine (awake_any _).mono ?_
      rintro e wz ⟨rfl, bz⟩
      have HZ := Lib.hid (LOW.out.trans (bz.mono LOW.out.size))
      clear bz
      go_wp2_with fail
      go_ret
      exact ⟨rfl, HZ.out⟩
    | true =>
      rw [hfm] at HF
      have HFM := Lib.hid (fewB_le hfm)
      go_wp2_with fail
      refine HF.out.mono ?_
      rintro e w2 ⟨rfl, b1⟩
      replace HL := Lib.hid (HL.out.below b1)
      replace HM := Lib.hid (HM.out.below b1)
      replace LOW := Lib.hid (LOW.out.trans (b1.mono LOW.out.size))
      clear hl0 hl1 hm0 hm1
      have hl0 := HL.out.c0
      have hl1 := HL.out.c1
      have hm0 := HM.out.c0
      have hm1 := HM.out.c1
      clear b1 HF
      by_cases hk1 : key.size ≤ 100
      · have d1 : decide ((100 : Int) < (key.size : Int)) = false := by rw [decide_eq_false_iff_not]; omega
        have d2 : decide (100 < key.size) = false := by rw [decide_eq_false_iff_not]; omega
        clear hk hfl hfm
        have hbd : Below w2.heap.size w2 w2.drew := below_drewN w2 1
        have HLd : Hid (BoxV w.heap.size (.slice A1 n1 c1) (.slice A2 n2 c2) l w2.drew) := HL.out.below hbd
        have HMd : Hid (BoxV (w.heap.size + 1) (.slice A3 n3 c3) (.slice A4 n4 c4) m w2.drew) := HM.out.below hbd
        have LOWd : Hid (Below w.heap.size w w2.drew) := LOW.out.trans (hbd.mono LOW.out.size)
        go_upto_region 3 with fail
        go_cut [48] (fun s48 wx => s48 = .bool false ∧ Hid (Below w2.heap.size w2 wx))
        case first =>
          refine wp_region_noPanic ?_
          refine wp_region_held_drew (S := fun w' => Below w2.drew.heap.size w2.drew w') (by kernel_rfl) (Below.refl _ _) (fun hHeld => ?_)
          have HBW := Lib.hid hbd
          clear HL HM LOW hl0 hl1 hm0 hm1 hbd
          generalize w2.drew = wd at *
          have B_wd : Hid (Below wd.heap.size wd wd) := Below.refl _ _
          have H1 : Hid (∀ w', Below wd.heap.size wd w' → w'.cell? ⟨w.heap.size, 0, none⟩ = some (.slice A1 n1 c1) ∧ w'.cell? ⟨w.heap.size, 1, none⟩ = some (.slice A2 n2 c2)) := fun w' hb => ⟨(HLd.out.below hb).c0, (HLd.out.below hb).c1⟩
          have H2 : Hid (∀ w', Below wd.heap.size wd w' → w'.cell? ⟨w.heap.size + 1, 0, none⟩ = some (.slice A3 n3 c3) ∧ w'.cell? ⟨w.heap.size + 1, 1, none⟩ = some (.slice A4 n4 c4)) := fun w' hb => ⟨(HMd.out.below hb).c0, (HMd.out.below hb).c1⟩
          refine wpAnyH_take (i := 0) (v := .agg #[.slice A1 n1 c1, .slice A2 n2 c2]) rfl (by kernel_rfl) (by kernel_rfl) (by kernel_rfl) (fun _ _ _ h => h) (Or.inl ⟨by kernel_rfl, ?_⟩) (by assumption) ?_
          · intro wz hSw
            obtain ⟨hh, hg⟩ := H1.out wz hSw
            go_simp
          try simp only [Act.put, List.setIfInBounds_toArray, List.set_cons_zero, List.set_cons_succ]
          refine wpAnyH_take (i := 2) (v := .agg #[.slice A1 n1 c1, .slice A2 n2 c2]) rfl (by kernel_rfl) (by kernel_rfl) (by kernel_rfl) (fun _ _ _ h => h) (Or.inl ⟨by kernel_rfl, ?_⟩) (by assumption) ?_
          · intro wz hSw
            obtain ⟨hh, hg⟩ := H1.out wz hSw
            go_simp
          try simp only [Act.put, List.setIfInBounds_toArray, List.set_cons_zero, List.set_cons_succ]
          generalize hfb : fitB l = fb at *
          have HFB := Lib.hid hfb
          clear hfb
          have C1 := Lib.hid (pfit2_any wd _ l (HLd.out.below B_wd.out).rows (by have := HFL.out; omega) (by have := HFL.out; omega))
          unfold LsmV at C1
          rw [HFB.out] at C1
          refine wpAnyH_ready (rs := [1]) (by kernel_rfl) (by simp) ?_
          refine AllReadyH.cons rfl (fun K hK => ?_) AllReadyH.nil
          go_simp
          go_at_call 13
          refine C1.out.mono ?_
          rintro er w3 ⟨rfl, b1⟩
          have B_w3 : Hid (Below wd.heap.size wd w3) := Lib.hid (B_wd.out.trans (b1.mono B_wd.out.size))
          have b_w3 := Lib.hid b1
          clear b1
          go_wp2_with fail
          refine hK.out _ _ B_w3.out (fun hHeld => ?_)
          clear hK K
          try simp only [Act.put, List.setIfInBounds_toArray, List.set_cons_zero, List.set_cons_succ]
          have C2 := Lib.hid (rfit2_any w3 _ l (HLd.out.below B_w3.out).rows (by have := HFL.out; omega) (by have := HFL.out; omega))
          unfold LsmV at C2
          rw [HFB.out] at C2
          refine wpAnyH_ready (rs := [3]) (by kernel_rfl) (by simp) ?_
          refine AllReadyH.cons rfl (fun K hK => ?_) AllReadyH.nil
          go_simp
          go_at_call 14
          refine C2.out.mono ?_
          rintro er w4 ⟨rfl, b1⟩
          have B_w4 : Hid (Below wd.heap.size wd w4) := Lib.hid (B_w3.out.trans (b1.mono B_w3.out.size))
          have b_w4 := Lib.hid b1
          clear b1
          go_wp2_with fail
          refine hK.out _ _ B_w4.out (fun hHeld => ?_)
          clear hK K
          try simp only [Act.put, List.setIfInBounds_toArray, List.set_cons_zero, List.set_cons_succ]
          refine wpAnyH_take (i := 4) (v := .bool false) rfl (by kernel_rfl) (by kernel_rfl) (by kernel_rfl) (fun _ _ _ h => h) (Or.inl ⟨by kernel_rfl, ?_⟩) (by assumption) ?_
          · intro wz hSw
            go_simp
          try simp only [Act.put, List.setIfInBounds_toArray, List.set_cons_zero, List.set_cons_succ]
          refine wpAnyH_take (i := 5) (v := .bool false) rfl (by kernel_rfl) (by kernel_rfl) (by kernel_rfl) (fun _ _ _ h => h) (Or.inl ⟨by kernel_rfl, ?_⟩) (by assumption) ?_
          · intro wz hSw
            go_simp
          try simp only [Act.put, List.setIfInBounds_toArray, List.set_cons_zero, List.set_cons_succ]
          refine wpAnyH_take (i := 6) (v := .agg #[.slice A1 n1 c1, .slice A2 n2 c2]) rfl (by kernel_rfl) (by kernel_rfl) (by kernel_rfl) (fun _ _ _ h => h) (Or.inl ⟨by kernel_rfl, ?_⟩) (by assumption) ?_
          · intro wz hSw
            obtain ⟨hh, hg⟩ := H1.out wz hSw
            go_simp
          try simp only [Act.put, List.setIfInBounds_toArray, List.set_cons_zero, List.set_cons_succ]
          refine wpAnyH_take (i := 7) (v := .agg #[.slice A3 n3 c3, .slice A4 n4 c4]) rfl (by kernel_rfl) (by kernel_rfl) (by kernel_rfl) (fun _ _ _ h => h) (Or.inl ⟨by kernel_rfl, ?_⟩) (by assumption) ?_
          · intro wz hSw
            obtain ⟨hh, hg⟩ := H2.out wz hSw
            go_simp
          try simp only [Act.put, List.setIfInBounds_toArray, List.set_cons_zero, List.set_cons_succ]
          refine wpAnyH_take (i := 9) (v := .agg #[.slice A1 n1 c1, .slice A2 n2 c2]) rfl (by kernel_rfl) (by kernel_rfl) (by kernel_rfl) (fun _ _ _ h => h) (Or.inl ⟨by kernel_rfl, ?_⟩) (by assumption) ?_
          · intro wz hSw
            obtain ⟨hh, hg⟩ := H1.out wz hSw
            go_simp
          try simp only [Act.put, List.setIfInBounds_toArray, List.set_cons_zero, List.set_cons_succ]
          refine wpAnyH_take (i := 10) (v := .agg #[.slice A3 n3 c3, .slice A4 n4 c4]) rfl (by kernel_rfl) (by kernel_rfl) (by kernel_rfl) (fun _ _ _ h => h) (Or.inl ⟨by kernel_rfl, ?_⟩) (by assumption) ?_
          · intro wz hSw
            obtain ⟨hh, hg⟩ := H2.out wz hSw
            go_simp
          try simp only [Act.put, List.setIfInBounds_toArray, List.set_cons_zero, List.set_cons_succ]
          have C3 := Lib.hid (psame_any w4 _ _ l m (HLd.out.below B_w4.out).rows (HMd.out.below B_w4.out).rows)
          unfold LsmV at C3
          generalize hsb : sameB l m = sb at *
          have HSB := Lib.hid hsb
          clear hsb
          refine wpAnyH_ready (rs := [8]) (by kernel_rfl) (by simp) ?_
          refine AllReadyH.cons rfl (fun K hK => ?_) AllReadyH.nil
          go_simp
          go_at_call 15
          refine C3.out.mono ?_
          rintro er w5 ⟨rfl, b1⟩
          have B_w5 : Hid (Below wd.heap.size wd w5) := Lib.hid (B_w4.out.trans (b1.mono B_w4.out.size))
          have b_w5 := Lib.hid b1
          clear b1
          go_wp2_with fail
          refine hK.out _ _ B_w5.out (fun hHeld => ?_)
          clear hK K
          try simp only [Act.put, List.setIfInBounds_toArray, List.set_cons_zero, List.set_cons_succ]
          have C4 := Lib.hid (rSame_any w5 _ _ l m (HLd.out.below B_w5.out).rows (HMd.out.below B_w5.out).rows)
          unfold LsmV at C4
          rw [HSB.out] at C4
          refine wpAnyH_ready (rs := [11]) (by kernel_rfl) (by simp) ?_
          refine AllReadyH.cons rfl (fun K hK => ?_) AllReadyH.nil
          go_simp
          go_at_call 11
          refine C4.out.mono ?_
          rintro er w6 ⟨rfl, b1⟩
          have B_w6 : Hid (Below wd.heap.size wd w6) := Lib.hid (B_w5.out.trans (b1.mono B_w5.out.size))
          have b_w6 := Lib.hid b1
          clear b1
          go_wp2_with fail
          refine hK.out _ _ B_w6.out (fun hHeld => ?_)
          clear hK K
          try simp only [Act.put, List.setIfInBounds_toArray, List.set_cons_zero, List.set_cons_succ]
          refine wpAnyH_take (i := 12) (v := .bool false) rfl (by kernel_rfl) (by kernel_rfl) (by kernel_rfl) (fun _ _ _ h => h) (Or.inl ⟨by kernel_rfl, ?_⟩) (by assumption) ?_
          · intro wz hSw
            go_simp
          try simp only [Act.put, List.setIfInBounds_toArray, List.set_cons_zero, List.set_cons_succ]
          refine wpAnyH_take (i := 13) (v := .bool false) rfl (by kernel_rfl) (by kernel_rfl) (by kernel_rfl) (fun _ _ _ h => h) (Or.inl ⟨by kernel_rfl, ?_⟩) (by assumption) ?_
          · intro wz hSw
            go_simp
          try simp only [Act.put, List.setIfInBounds_toArray, List.set_cons_zero, List.set_cons_succ]
          refine wpAnyH_take (i := 14) (v := .bool false) rfl (by kernel_rfl) (by kernel_rfl) (by kernel_rfl) (fun _ _ _ h => h) (Or.inl ⟨by kernel_rfl, ?_⟩) (by assumption) ?_
          · intro wz hSw
            go_simp
          try simp only [Act.put, List.setIfInBounds_toArray, List.set_cons_zero, List.set_cons_succ]
          refine wpAnyH_take (i := 15) (v := .agg #[.slice A1 n1 c1, .slice A2 n2 c2]) rfl (by kernel_rfl) (by kernel_rfl) (by kernel_rfl) (fun _ _ _ h => h) (Or.inl ⟨by kernel_rfl, ?_⟩) (by assumption) ?_
          · intro wz hSw
            obtain ⟨hh, hg⟩ := H1.out wz hSw
            go_simp
          try simp only [Act.put, List.setIfInBounds_toArray, List.set_cons_zero, List.set_cons_succ]
          refine wpAnyH_take (i := 16) (v := .agg #[.slice A1 n1 c1, .slice A2 n2 c2]) rfl (by kernel_rfl) (by kernel_rfl) (by kernel_rfl) (fun _ _ _ h => h) (Or.inl ⟨by kernel_rfl, ?_⟩) (by assumption) ?_
          · intro wz hSw
            obtain ⟨hh, hg⟩ := H1.out wz hSw
            go_simp
          try simp only [Act.put, List.setIfInBounds_toArray, List.set_cons_zero, List.set_cons_succ]
          have C5 := Lib.hid (psame_any w6 _ _ l l (HLd.out.below B_w6.out).rows (HLd.out.below B_w6.out).rows)
          unfold LsmV at C5
          rw [(sameB_iff l l).2 rfl] at C5
          refine wpAnyH_ready (rs := [17]) (by kernel_rfl) (by simp) ?_
          refine AllReadyH.cons rfl (fun K hK => ?_) AllReadyH.nil
          go_simp
          go_at_call 15
          refine C5.out.mono ?_
          rintro er w7 ⟨rfl, b1⟩
          have B_w7 : Hid (Below wd.heap.size wd w7) := Lib.hid (B_w6.out.trans (b1.mono B_w6.out.size))
          have b_w7 := Lib.hid b1
          clear b1
          go_wp2_with fail
          refine hK.out _ _ B_w7.out (fun hHeld => ?_)
          clear hK K
          try simp only [Act.put, List.setIfInBounds_toArray, List.set_cons_zero, List.set_cons_succ]
          refine wpAnyH_take (i := 18) (v := .bool false) rfl (by kernel_rfl) (by kernel_rfl) (by kernel_rfl) (fun _ _ _ h => h) (Or.inl ⟨by kernel_rfl, ?_⟩) (by assumption) ?_
          · intro wz hSw
            go_simp
          refine wpAnyH_take (i := 19) (v := .bool false) rfl (by kernel_rfl) (by kernel_rfl) (by kernel_rfl) (fun _ _ _ h => h) (Or.inl ⟨by kernel_rfl, ?_⟩) (by assumption) ?_
          · intro wz hSw
            go_simp
          refine wpAnyH_done (by kernel_rfl) ?_ _
          refine NoPanic.normal ?_
          go_wp2_with fail
          go_meet
          exact ⟨rfl, HBW.out.trans (B_w7.out.mono HBW.out.size)⟩
        case rest =>
          obtain ⟨rfl, HBx⟩ := hcut
          obtain ⟨w3, rfl⟩ : ∃ w3 : World, w3 = wc := ⟨_, rfl⟩
          replace HL := Lib.hid (HL.out.below HBx.out)
          replace HM := Lib.hid (HM.out.below HBx.out)
          replace LOW := Lib.hid (LOW.out.trans (HBx.out.mono LOW.out.size))
          clear hl0 hl1 hm0 hm1 hbd HLd HMd LOWd HBx
          have hl0 := HL.out.c0
          have hl1 := HL.out.c1
          have hm0 := HM.out.c0
          have hm1 := HM.out.c1
          have HF := Lib.hid (rfit2_any w3 _ l HL.out.rows (by have := HFL.out; omega) (by have := HFL.out; omega))
          unfold LsmV at HF
          cases hfb : fitB l with
          | false =>
            rw [hfb] at HF
            go_wp2_with fail
            refine HF.out.mono ?_
            rintro e w4 ⟨rfl, b1⟩
            replace HL := Lib.hid (HL.out.below b1)
            replace HM := Lib.hid (HM.out.below b1)
            replace LOW := Lib.hid (LOW.out.trans (b1.mono LOW.out.size))
            clear hl0 hl1 hm0 hm1
            have hl0 := HL.out.c0
            have hl1 := HL.out.c1
            have hm0 := HM.out.c0
            have hm1 := HM.out.c1
            clear b1 HF
            go_wp2_with fail
            refine (awake_any _).mono ?_
            rintro e wz ⟨rfl, bz⟩
            have HZ := Lib.hid (LOW.out.trans (bz.mono LOW.out.size))
            clear bz
            go_wp2_with fail
            go_ret
            exact ⟨rfl, HZ.out⟩
          | true =>
            rw [hfb] at HF
            have HFP : Hid (fitP l) := (fitB_ok (by have := HFL.out; omega)).1 hfb
            clear hfb
            go_wp2_with fail
            refine HF.out.mono ?_
            rintro e w4 ⟨rfl, b1⟩
            replace HL := Lib.hid (HL.out.below b1)
            replace HM := Lib.hid (HM.out.below b1)
            replace LOW := Lib.hid (LOW.out.trans (b1.mono LOW.out.size))
            clear hl0 hl1 hm0 hm1
            have hl0 := HL.out.c0
            have hl1 := HL.out.c1
            have hm0 := HM.out.c0
            have hm1 := HM.out.c1
            clear b1 HF
            have HP := Lib.hid (pput_any w4 _ l key n HL.out.rows HFP.out.1 (by have := HFL.out; omega) (by have := HFL.out; omega) h63 (by omega))
            unfold LsmV at HP
            obtain ⟨sp, hsp⟩ : ∃ sp, sp = putL l key n := ⟨_, rfl⟩
            have HSP := Lib.hid hsp
            rw [← hsp] at HP
            clear hsp
            go_wp2_with fail
            refine HP.out.mono ?_
            rintro e w5 ⟨v1, rfl, hA, b1, hF1⟩
            replace HL := Lib.hid (HL.out.below b1)
            replace HM := Lib.hid (HM.out.below b1)
            replace LOW := Lib.hid (LOW.out.trans (b1.mono LOW.out.size))
            clear hl0 hl1 hm0 hm1
            have hl0 := HL.out.c0
            have hl1 := HL.out.c1
            have hm0 := HM.out.c0
            have hm1 := HM.out.c1
            have lt5 := HL.out.lt
            obtain ⟨A5, c5, A6, c6, rfl⟩ := hA.shapes
            have HA := Lib.hid (boxV_new w5 _ _ _ hA)
            obtain ⟨w6, hw6⟩ : ∃ w6, w6 = w5.alloc (.cells #[.slice A5 sp.1.1.length c5, .slice A6 sp.1.2.length c6] 25) := ⟨_, rfl⟩
            have HW6 := Lib.hid hw6.symm
            have hb6 : Below w5.heap.size w5 w6 := by rw [hw6]; exact (Below.refl _ _).alloc (Nat.le_refl _) _
            rw [← hw6] at HA
            replace HL := Lib.hid (HL.out.below hb6)
            replace HM := Lib.hid (HM.out.below hb6)
            replace LOW := Lib.hid (LOW.out.trans (hb6.mono LOW.out.size))
            generalize sp.1.1.length = m5 at *
            generalize sp.1.2.length = m6 at *
            clear hA b1 hF1 hw6 hb6 HP
            have HRP := Lib.hid (rput_any w6 _ l key n HL.out.rows HFP.out.1 (by have := HFL.out; omega) (by have := HFL.out; omega) h63 (by omega))
            unfold LsmV at HRP
            rw [← HSP.out] at HRP
            unfold LsmV
            go_wp2_with fail
            rw [HW6.out]
            clear hl0 hl1 hm0 hm1
            have hl0 := HL.out.c0
            have hl1 := HL.out.c1
            have hm0 := HM.out.c0
            have hm1 := HM.out.c1
            refine HRP.out.mono ?_
            rintro e w7 ⟨v2, rfl, hB, b2⟩
            have lt7 := Nat.lt_of_lt_of_le HL.out.lt b2.size
            obtain ⟨A7, c7, A8, c8, rfl⟩ := hB.shapes
            replace HL := Lib.hid (HL.out.below b2)
            replace HM := Lib.hid (HM.out.below b2)
            replace HA := Lib.hid (HA.out.below b2)
            replace LOW := Lib.hid (LOW.out.trans (b2.mono LOW.out.size))
            have HB := Lib.hid (boxV_new w7 _ _ _ hB)
            obtain ⟨w8, hw8⟩ : ∃ w8, w8 = w7.alloc (.cells #[.slice A7 sp.1.1.length c7, .slice A8 sp.1.2.length c8] 25) := ⟨_, rfl⟩
            have HW8 := Lib.hid hw8.symm
            have hb8 : Below w7.heap.size w7 w8 := by rw [hw8]; exact (Below.refl _ _).alloc (Nat.le_refl _) _
            rw [← hw8] at HB
            replace HL := Lib.hid (HL.out.below hb8)
            replace HM := Lib.hid (HM.out.below hb8)
            replace HA := Lib.hid (HA.out.below hb8)
            replace LOW := Lib.hid (LOW.out.trans (hb8.mono LOW.out.size))
            generalize sp.1.1.length = m7 at *
            generalize sp.1.2.length = m8 at *
            clear hB b2 hw8 hb8 HRP hl0 hl1 hm0 hm1
            unfold LsmV
            go_wp2_with fail
            rw [HW8.out]
            have hbd : Below w8.heap.size w8 w8.drew := below_drewN w8 1
            have HLd : Hid (BoxV w.heap.size (.slice A1 n1 c1) (.slice A2 n2 c2) l w8.drew) := HL.out.below hbd
            go_cut [13, 14] (fun s13 s14 wx => ∃ (B13 B14 : Nat) (A9 : Option Addr) (m9 c9 : Nat) (A10 : Option Addr) (m10 c10 : Nat) (A11 : Option Addr) (m11 c11 : Nat) (A12 : Option Addr) (m12 c12 : Nat), s13 = .pointer (some ⟨B13, 0, none⟩) ∧ s14 = .pointer (some ⟨B14, 0, none⟩) ∧ Hid (BoxV B13 (.slice A9 m9 c9) (.slice A10 m10 c10) (flushL l) wx) ∧ Hid (BoxV B14 (.slice A11 m11 c11) (.slice A12 m12 c12) (packL l) wx) ∧ Hid (Below w8.heap.size w8 wx))
            case first =>
              refine wp_region_noPanic ?_
              refine wp_region_held_drew (S := fun w' => Below w8.drew.heap.size w8.drew w') (by kernel_rfl) (Below.refl _ _) (fun hHeld => ?_)
              have HBW := Lib.hid hbd
              clear HL HM HA HB LOW hbd
              generalize w8.drew = wd at *
              have B_wd : Hid (Below wd.heap.size wd wd) := Below.refl _ _
              have H1 : Hid (∀ w', Below wd.heap.size wd w' → w'.cell? ⟨w.heap.size, 0, none⟩ = some (.slice A1 n1 c1) ∧ w'.cell? ⟨w.heap.size, 1, none⟩ = some (.slice A2 n2 c2)) := fun w' hb => ⟨(HLd.out.below hb).c0, (HLd.out.below hb).c1⟩
              have HCF : Hid (∀ W, Below wd.heap.size wd W → Calls Try.prog 18 #[.agg #[.slice A1 n1 c1, .slice A2 n2 c2]] W fun e w' => ∃ v', e = .returned v' ∧ LsmN w' v' (flushL l) ∧ Below W.heap.size W w' ∧ FreshS W.heap.size (LsmV (.slice A1 n1 c1) (.slice A2 n2 c2)) v') := fun W hb => pflush_any W _ l (HLd.out.below hb).rows HFP.out.1 (by have := HFL.out; omega) (by have := HFL.out; omega)
              have HCP : Hid (∀ W, Below wd.heap.size wd W → Calls Try.prog 19 #[.agg #[.slice A1 n1 c1, .slice A2 n2 c2]] W fun e w' => ∃ v', e = .returned v' ∧ LsmN w' v' (packL l) ∧ Below W.heap.size W w' ∧ FreshS W.heap.size (LsmV (.slice A1 n1 c1) (.slice A2 n2 c2)) v') := fun W hb => ppack_any W _ l (HLd.out.below hb).rows HFP.out.1 (by have := HFL.out; omega) (by have := HFL.out; omega)
              refine wpAnyH_take (i := 0) (v := .agg #[.slice A1 n1 c1, .slice A2 n2 c2]) rfl (by kernel_rfl) (by kernel_rfl) (by kernel_rfl) (fun _ _ _ h => h) (Or.inl ⟨by kernel_rfl, ?_⟩) (by assumption) ?_
              · intro wz hSw
                obtain ⟨hh, hg⟩ := H1.out wz hSw
                go_simp
              try simp only [Act.put, List.setIfInBounds_toArray, List.set_cons_zero, List.set_cons_succ]
              refine wpAnyH_take (i := 2) (v := .agg #[.slice A1 n1 c1, .slice A2 n2 c2]) rfl (by kernel_rfl) (by kernel_rfl) (by kernel_rfl) (fun _ _ _ h => h) (Or.inl ⟨by kernel_rfl, ?_⟩) (by assumption) ?_
              · intro wz hSw
                obtain ⟨hh, hg⟩ := H1.out wz hSw
                go_simp
              try simp only [Act.put, List.setIfInBounds_toArray, List.set_cons_zero, List.set_cons_succ]
              refine wpAnyH_ready (rs := [1, 4, 5]) (by kernel_rfl) (by simp) ?_
              refine AllReadyH.cons rfl (fun K hK => ?_) (AllReadyH.cons rfl (fun K hK => ?_) (AllReadyH.cons rfl (fun K hK => ?_) (AllReadyH.nil)))
              · go_simp
                go_at_call 18
                refine (HCF.out wd B_wd.out).mono ?_
                rintro er u1 ⟨vC, rfl, hC, bC, fC⟩
                obtain ⟨ACa, cCa, ACb, cCb, rfl⟩ := hC.shapes
                have RC := Lib.hid hC
                have FC := Lib.hid fC
                have ZC : Hid (Below u1.heap.size u1 u1) := Below.refl _ _
                have YC : Hid (wd.heap.size ≤ u1.heap.size) := bC.size
                have hb := bC
                clear hC fC bC
                have hbw : Below wd.heap.size wd u1 := B_wd.out.trans (hb.mono B_wd.out.size)
                go_wp2_with fail
                refine hK.out _ _ hbw (fun hHeld => ?_)
                clear hK K
                try simp only [Act.put, List.setIfInBounds_toArray, List.set_cons_zero, List.set_cons_succ]
                have B_u1 := Lib.hid hbw
                clear hb hbw
                refine wpAnyH_ready (rs := [3, 4, 5]) (by kernel_rfl) (by simp) ?_
                refine AllReadyH.cons rfl (fun K hK => ?_) (AllReadyH.cons rfl (fun K hK => ?_) (AllReadyH.cons rfl (fun K hK => ?_) (AllReadyH.nil)))
                · go_simp
                  go_at_call 19
                  refine (HCP.out u1 B_u1.out).mono ?_
                  rintro er u13 ⟨vD, rfl, hD, bD, fD⟩
                  obtain ⟨ADa, cDa, ADb, cDb, rfl⟩ := hD.shapes
                  have RD := Lib.hid hD
                  have FD := Lib.hid fD
                  have ZD : Hid (Below u13.heap.size u13 u13) := Below.refl _ _
                  have YD : Hid (u1.heap.size ≤ u13.heap.size) := bD.size
                  have hb := bD
                  clear hD fD bD
                  have hbw : Below wd.heap.size wd u13 := B_u1.out.trans (hb.mono B_u1.out.size)
                  go_wp2_with fail
                  refine hK.out _ _ hbw (fun hHeld => ?_)
                  clear hK K
                  try simp only [Act.put, List.setIfInBounds_toArray, List.set_cons_zero, List.set_cons_succ]
                  have B_u13 := Lib.hid hbw
                  replace ZC := Lib.hid (ZC.out.trans (hb.mono ZC.out.size))
                  clear hb hbw
                  refine wpAnyH_ready (rs := [4, 5]) (by kernel_rfl) (by simp) ?_
                  refine AllReadyH.cons rfl (fun K hK => ?_) (AllReadyH.cons rfl (fun K hK => ?_) (AllReadyH.nil))
                  · go_simp
                    have hb : Below u13.heap.size u13 (u13.alloc (.cells #[.slice none 0 0, .slice none 0 0] 25)) := (Below.refl _ _).alloc (Nat.le_refl _) _
                    have hnb := nilBox_new u13
                    have hsz : (u13.alloc (.cells #[.slice none 0 0, .slice none 0 0] 25)).heap.size = u13.heap.size + 1 := by simp
                    have hbw : Below wd.heap.size wd (u13.alloc (.cells #[.slice none 0 0, .slice none 0 0] 25)) := B_u13.out.trans (hb.mono B_u13.out.size)
                    refine hK.out _ _ hbw (fun hHeld => ?_)
                    clear hK K
                    try simp only [Act.put, List.setIfInBounds_toArray, List.set_cons_zero, List.set_cons_succ]
                    obtain ⟨u134, hu⟩ : ∃ u, u = (u13.alloc (.cells #[.slice none 0 0, .slice none 0 0] 25)) := ⟨_, rfl⟩
                    rw [← hu] at hb hnb hsz hbw hHeld ⊢
                    clear hu
                    have N4 := Lib.hid hnb
                    have X4 := Lib.hid hsz
                    clear hnb hsz
                    have B_u134 := Lib.hid hbw
                    replace ZC := Lib.hid (ZC.out.trans (hb.mono ZC.out.size))
                    replace ZD := Lib.hid (ZD.out.trans (hb.mono ZD.out.size))
                    clear hb hbw
                    refine wpAnyH_ready (rs := [5]) (by kernel_rfl) (by simp) ?_
                    refine AllReadyH.cons rfl (fun K hK => ?_) (AllReadyH.nil)
                    · go_simp
                      have hb : Below u134.heap.size u134 (u134.alloc (.cells #[.slice none 0 0, .slice none 0 0] 25)) := (Below.refl _ _).alloc (Nat.le_refl _) _
                      have hnb := nilBox_new u134
                      have hsz : (u134.alloc (.cells #[.slice none 0 0, .slice none 0 0] 25)).heap.size = u134.heap.size + 1 := by simp
                      have hbw : Below wd.heap.size wd (u134.alloc (.cells #[.slice none 0 0, .slice none 0 0] 25)) := B_u134.out.trans (hb.mono B_u134.out.size)
                      refine hK.out _ _ hbw (fun hHeld => ?_)
                      clear hK K
                      try simp only [Act.put, List.setIfInBounds_toArray, List.set_cons_zero, List.set_cons_succ]
                      obtain ⟨u1345, hu⟩ : ∃ u, u = (u134.alloc (.cells #[.slice none 0 0, .slice none 0 0] 25)) := ⟨_, rfl⟩
                      rw [← hu] at hb hnb hsz hbw hHeld ⊢
                      clear hu
                      have N5 := Lib.hid hnb
                      have X5 := Lib.hid hsz
                      clear hnb hsz
                      have B_u1345 := Lib.hid hbw
                      replace N4 := Lib.hid (N4.out.below hb)
                      replace ZC := Lib.hid (ZC.out.trans (hb.mono ZC.out.size))
                      replace ZD := Lib.hid (ZD.out.trans (hb.mono ZD.out.size))
                      clear hb hbw
                      have z0 : wd.heap.size ≤ wd.heap.size := Nat.le_refl _
                      have z1 := YC.out
                      have z2 := YD.out
                      have z3 := X4.out
                      have z4 := X5.out
                      have HLF := leaf9 (B4 := u13.heap.size) (B5 := u134.heap.size) (by omega) (by omega) (by omega) N4.out N5.out B_u1345.out HLd.out.rows RC.out FC.out ZC.out (fun h => absurd h (by omega)) (fun h => absurd h (by omega)) RD.out FD.out ZD.out (fun h => absurd h (by omega)) (fun h => absurd h (by omega))
                      have HLF := Lib.hid HLF
                      have h4b : wd.heap.size ≤ u13.heap.size := by omega
                      have h5b : wd.heap.size ≤ u134.heap.size := by omega
                      have hne : u134.heap.size ≠ u13.heap.size := by omega
                      have n0 := N4.out.c0
                      have n1 := N4.out.c1
                      have nf0 := N4.out.f 0
                      have nf1 := N4.out.f 1
                      have HS1 : Hid (Below wd.heap.size wd ((u1345.setCell ⟨u13.heap.size, 0, none⟩ (.slice ACa (flushL l).1.length cCa)).setCell ⟨u13.heap.size, 1, none⟩ (.slice ACb (flushL l).2.length cCb))) := (B_u1345.out.setCell (p := ⟨u13.heap.size, 0, none⟩) h4b _).setCell (p := ⟨u13.heap.size, 1, none⟩) h4b _
                      have NN : Hid (NilBox u134.heap.size ((u1345.setCell ⟨u13.heap.size, 0, none⟩ (.slice ACa (flushL l).1.length cCa)).setCell ⟨u13.heap.size, 1, none⟩ (.slice ACb (flushL l).2.length cCb))) := (set2_keep _ _ _ _ _ hne).trans N5.out
                      clear z0 z1 z2 z3 z4 hne
                      refine wpAnyH_ready (rs := [6]) (by kernel_rfl) (by simp) ?_
                      refine AllReadyH.cons rfl (fun K hK => ?_) AllReadyH.nil
                      unfold LsmV
                      go_simp
                      go_wp2_with fail
                      refine hK.out _ _ HS1.out (fun hHeld => ?_)
                      clear hK K n0 n1 nf0 nf1
                      try simp only [Act.put, List.setIfInBounds_toArray, List.set_cons_zero, List.set_cons_succ]
                      have n0 := NN.out.c0
                      have n1 := NN.out.c1
                      have nf0 := NN.out.f 0
                      have nf1 := NN.out.f 1
                      refine wpAnyH_ready (rs := [7]) (by kernel_rfl) (by simp) ?_
                      refine AllReadyH.cons rfl (fun K hK => ?_) AllReadyH.nil
                      go_simp
                      go_wp2_with fail
                      refine hK.out _ _ HLF.out.2.2 (fun hHeld => ?_)
                      clear hK K
                      refine wpAnyH_done (by kernel_rfl) ?_ _
                      refine NoPanic.normal ?_
                      go_wp2_with fail
                      go_meet
                      exact ⟨_, _, _, _, _, _, _, _, _, _, _, _, _, _, rfl, rfl, Lib.hid HLF.out.1, Lib.hid HLF.out.2.1, Lib.hid (HBW.out.trans (HLF.out.2.2.mono HBW.out.size))⟩
                  · go_simp
                    have hb : Below u13.heap.size u13 (u13.alloc (.cells #[.slice none 0 0, .slice none 0 0] 25)) := (Below.refl _ _).alloc (Nat.le_refl _) _
                    have hnb := nilBox_new u13
                    have hsz : (u13.alloc (.cells #[.slice none 0 0, .slice none 0 0] 25)).heap.size = u13.heap.size + 1 := by simp
                    have hbw : Below wd.heap.size wd (u13.alloc (.cells #[.slice none 0 0, .slice none 0 0] 25)) := B_u13.out.trans (hb.mono B_u13.out.size)
                    refine hK.out _ _ hbw (fun hHeld => ?_)
                    clear hK K
                    try simp only [Act.put, List.setIfInBounds_toArray, List.set_cons_zero, List.set_cons_succ]
                    obtain ⟨u135, hu⟩ : ∃ u, u = (u13.alloc (.cells #[.slice none 0 0, .slice none 0 0] 25)) := ⟨_, rfl⟩
                    rw [← hu] at hb hnb hsz hbw hHeld ⊢
                    clear hu
                    have N5 := Lib.hid hnb
                    have X5 := Lib.hid hsz
                    clear hnb hsz
                    have B_u135 := Lib.hid hbw
                    replace ZC := Lib.hid (ZC.out.trans (hb.mono ZC.out.size))
                    replace ZD := Lib.hid (ZD.out.trans (hb.mono ZD.out.size))
                    clear hb hbw
                    refine wpAnyH_ready (rs := [4]) (by kernel_rfl) (by simp) ?_
                    refine AllReadyH.cons rfl (fun K hK => ?_) (AllReadyH.nil)
                    · go_simp
                      have hb : Below u135.heap.size u135 (u135.alloc (.cells #[.slice none 0 0, .slice none 0 0] 25)) := (Below.refl _ _).alloc (Nat.le_refl _) _
                      have hnb := nilBox_new u135
                      have hsz : (u135.alloc (.cells #[.slice none 0 0, .slice none 0 0] 25)).heap.size = u135.heap.size + 1 := by simp
                      have hbw : Below wd.heap.size wd (u135.alloc (.cells #[.slice none 0 0, .slice none 0 0] 25)) := B_u135.out.trans (hb.mono B_u135.out.size)
                      refine hK.out _ _ hbw (fun hHeld => ?_)
                      clear hK K
                      try simp only [Act.put, List.setIfInBounds_toArray, List.set_cons_zero, List.set_cons_succ]
                      obtain ⟨u1354, hu⟩ : ∃ u, u = (u135.alloc (.cells #[.slice none 0 0, .slice none 0 0] 25)) := ⟨_, rfl⟩
                      rw [← hu] at hb hnb hsz hbw hHeld ⊢
                      clear hu
                      have N4 := Lib.hid hnb
                      have X4 := Lib.hid hsz
                      clear hnb hsz
                      have B_u1354 := Lib.hid hbw
                      replace N5 := Lib.hid (N5.out.below hb)
                      replace ZC := Lib.hid (ZC.out.trans (hb.mono ZC.out.size))
                      replace ZD := Lib.hid (ZD.out.trans (hb.mono ZD.out.size))
                      clear hb hbw
                      have z0 : wd.heap.size ≤ wd.heap.size := Nat.le_refl _
                      have z1 := YC.out
                      have z2 := YD.out
                      have z3 := X5.out
                      have z4 := X4.out
                      have HLF := leaf9 (B4 := u135.heap.size) (B5 := u13.heap.size) (by omega) (by omega) (by omega) N4.out N5.out B_u1354.out HLd.out.rows RC.out FC.out ZC.out (fun h => absurd h (by omega)) (fun h => absurd h (by omega)) RD.out FD.out ZD.out (fun h => absurd h (by omega)) (fun h => absurd h (by omega))
                      have HLF := Lib.hid HLF
                      have h4b : wd.heap.size ≤ u135.heap.size := by omega
                      have h5b : wd.heap.size ≤ u13.heap.size := by omega
                      have hne : u13.heap.size ≠ u135.heap.size := by omega
                      have n0 := N4.out.c0
                      have n1 := N4.out.c1
                      have nf0 := N4.out.f 0
                      have nf1 := N4.out.f 1
                      have HS1 : Hid (Below wd.heap.size wd ((u1354.setCell ⟨u135.heap.size, 0, none⟩ (.slice ACa (flushL l).1.length cCa)).setCell ⟨u135.heap.size, 1, none⟩ (.slice ACb (flushL l).2.length cCb))) := (B_u1354.out.setCell (p := ⟨u135.heap.size, 0, none⟩) h4b _).setCell (p := ⟨u135.heap.size, 1, none⟩) h4b _
                      have NN : Hid (NilBox u13.heap.size ((u1354.setCell ⟨u135.heap.size, 0, none⟩ (.slice ACa (flushL l).1.length cCa)).setCell ⟨u135.heap.size, 1, none⟩ (.slice ACb (flushL l).2.length cCb))) := (set2_keep _ _ _ _ _ hne).trans N5.out
                      clear z0 z1 z2 z3 z4 hne
                      refine wpAnyH_ready (rs := [6]) (by kernel_rfl) (by simp) ?_
                      refine AllReadyH.cons rfl (fun K hK => ?_) AllReadyH.nil
                      unfold LsmV
                      go_simp
                      go_wp2_with fail
                      refine hK.out _ _ HS1.out (fun hHeld => ?_)
                      clear hK K n0 n1 nf0 nf1
                      try simp only [Act.put, List.setIfInBounds_toArray, List.set_cons_zero, List.set_cons_succ]
                      have n0 := NN.out.c0
                      have n1 := NN.out.c1
                      have nf0 := NN.out.f 0
                      have nf1 := NN.out.f 1
                      refine wpAnyH_ready (rs := [7]) (by kernel_rfl) (by simp) ?_
                      refine AllReadyH.cons rfl (fun K hK => ?_) AllReadyH.nil
                      go_simp
                      go_wp2_with fail
                      refine hK.out _ _ HLF.out.2.2 (fun hHeld => ?_)
                      clear hK K
                      refine wpAnyH_done (by kernel_rfl) ?_ _
                      refine NoPanic.normal ?_
                      go_wp2_with fail
                      go_meet
                      exact ⟨_, _, _, _, _, _, _, _, _, _, _, _, _, _, rfl, rfl, Lib.hid HLF.out.1, Lib.hid HLF.out.2.1, Lib.hid (HBW.out.trans (HLF.out.2.2.mono HBW.out.size))⟩
                · go_simp
                  have hb : Below u1.heap.size u1 (u1.alloc (.cells #[.slice none 0 0, .slice none 0 0] 25)) := (Below.refl _ _).alloc (Nat.le_refl _) _
                  have hnb := nilBox_new u1
                  have hsz : (u1.alloc (.cells #[.slice none 0 0, .slice none 0 0] 25)).heap.size = u1.heap.size + 1 := by simp
                  have hbw : Below wd.heap.size wd (u1.alloc (.cells #[.slice none 0 0, .slice none 0 0] 25)) := B_u1.out.trans (hb.mono B_u1.out.size)
                  refine hK.out _ _ hbw (fun hHeld => ?_)
                  clear hK K
                  try simp only [Act.put, List.setIfInBounds_toArray, List.set_cons_zero, List.set_cons_succ]
                  obtain ⟨u14, hu⟩ : ∃ u, u = (u1.alloc (.cells #[.slice none 0 0, .slice none 0 0] 25)) := ⟨_, rfl⟩
                  rw [← hu] at hb hnb hsz hbw hHeld ⊢
                  clear hu
                  have N4 := Lib.hid hnb
                  have X4 := Lib.hid hsz
                  clear hnb hsz
                  have B_u14 := Lib.hid hbw
                  replace ZC := Lib.hid (ZC.out.trans (hb.mono ZC.out.size))
                  clear hb hbw
                  refine wpAnyH_ready (rs := [3, 5]) (by kernel_rfl) (by simp) ?_
                  refine AllReadyH.cons rfl (fun K hK => ?_) (AllReadyH.cons rfl (fun K hK => ?_) (AllReadyH.nil))
                  · go_simp
                    go_at_call 19
                    refine (HCP.out u14 B_u14.out).mono ?_
                    rintro er u143 ⟨vD, rfl, hD, bD, fD⟩
                    obtain ⟨ADa, cDa, ADb, cDb, rfl⟩ := hD.shapes
                    have RD := Lib.hid hD
                    have FD := Lib.hid fD
                    have ZD : Hid (Below u143.heap.size u143 u143) := Below.refl _ _
                    have YD : Hid (u14.heap.size ≤ u143.heap.size) := bD.size
                    have hb := bD
                    clear hD fD bD
                    have hbw : Below wd.heap.size wd u143 := B_u14.out.trans (hb.mono B_u14.out.size)
                    go_wp2_with fail
                    refine hK.out _ _ hbw (fun hHeld => ?_)
                    clear hK K
                    try simp only [Act.put, List.setIfInBounds_toArray, List.set_cons_zero, List.set_cons_succ]
                    have B_u143 := Lib.hid hbw
                    have N4D := Lib.hid (N4.out.below hb)
                    replace N4 := Lib.hid (N4.out.below hb)
                    replace ZC := Lib.hid (ZC.out.trans (hb.mono ZC.out.size))
                    clear hb hbw
                    refine wpAnyH_ready (rs := [5]) (by kernel_rfl) (by simp) ?_
                    refine AllReadyH.cons rfl (fun K hK => ?_) (AllReadyH.nil)
                    · go_simp
                      have hb : Below u143.heap.size u143 (u143.alloc (.cells #[.slice none 0 0, .slice none 0 0] 25)) := (Below.refl _ _).alloc (Nat.le_refl _) _
                      have hnb := nilBox_new u143
                      have hsz : (u143.alloc (.cells #[.slice none 0 0, .slice none 0 0] 25)).heap.size = u143.heap.size + 1 := by simp
                      have hbw : Below wd.heap.size wd (u143.alloc (.cells #[.slice none 0 0, .slice none 0 0] 25)) := B_u143.out.trans (hb.mono B_u143.out.size)
                      refine hK.out _ _ hbw (fun hHeld => ?_)
                      clear hK K
                      try simp only [Act.put, List.setIfInBounds_toArray, List.set_cons_zero, List.set_cons_succ]
                      obtain ⟨u1435, hu⟩ : ∃ u, u = (u143.alloc (.cells #[.slice none 0 0, .slice none 0 0] 25)) := ⟨_, rfl⟩
                      rw [← hu] at hb hnb hsz hbw hHeld ⊢
                      clear hu
                      have N5 := Lib.hid hnb
                      have X5 := Lib.hid hsz
                      clear hnb hsz
                      have B_u1435 := Lib.hid hbw
                      replace N4 := Lib.hid (N4.out.below hb)
                      replace ZC := Lib.hid (ZC.out.trans (hb.mono ZC.out.size))
                      replace ZD := Lib.hid (ZD.out.trans (hb.mono ZD.out.size))
                      clear hb hbw
                      have z0 : wd.heap.size ≤ wd.heap.size := Nat.le_refl _
                      have z1 := YC.out
                      have z2 := X4.out
                      have z3 := YD.out
                      have z4 := X5.out
                      have HLF := leaf9 (B4 := u1.heap.size) (B5 := u143.heap.size) (by omega) (by omega) (by omega) N4.out N5.out B_u1435.out HLd.out.rows RC.out FC.out ZC.out (fun h => absurd h (by omega)) (fun h => absurd h (by omega)) RD.out FD.out ZD.out (fun _ => ⟨by omega, N4D.out⟩) (fun h => absurd h (by omega))
                      have HLF := Lib.hid HLF
                      have h4b : wd.heap.size ≤ u1.heap.size := by omega
                      have h5b : wd.heap.size ≤ u143.heap.size := by omega
                      have hne : u143.heap.size ≠ u1.heap.size := by omega
                      have n0 := N4.out.c0
                      have n1 := N4.out.c1
                      have nf0 := N4.out.f 0
                      have nf1 := N4.out.f 1
                      have HS1 : Hid (Below wd.heap.size wd ((u1435.setCell ⟨u1.heap.size, 0, none⟩ (.slice ACa (flushL l).1.length cCa)).setCell ⟨u1.heap.size, 1, none⟩ (.slice ACb (flushL l).2.length cCb))) := (B_u1435.out.setCell (p := ⟨u1.heap.size, 0, none⟩) h4b _).setCell (p := ⟨u1.heap.size, 1, none⟩) h4b _
                      have NN : Hid (NilBox u143.heap.size ((u1435.setCell ⟨u1.heap.size, 0, none⟩ (.slice ACa (flushL l).1.length cCa)).setCell ⟨u1.heap.size, 1, none⟩ (.slice ACb (flushL l).2.length cCb))) := (set2_keep _ _ _ _ _ hne).trans N5.out
                      clear z0 z1 z2 z3 z4 hne
                      refine wpAnyH_ready (rs := [6]) (by kernel_rfl) (by simp) ?_
                      refine AllReadyH.cons rfl (fun K hK => ?_) AllReadyH.nil
                      unfold LsmV
                      go_simp
                      go_wp2_with fail
                      refine hK.out _ _ HS1.out (fun hHeld => ?_)
                      clear hK K n0 n1 nf0 nf1
                      try simp only [Act.put, List.setIfInBounds_toArray, List.set_cons_zero, List.set_cons_succ]
                      have n0 := NN.out.c0
                      have n1 := NN.out.c1
                      have nf0 := NN.out.f 0
                      have nf1 := NN.out.f 1
                      refine wpAnyH_ready (rs := [7]) (by kernel_rfl) (by simp) ?_
                      refine AllReadyH.cons rfl (fun K hK => ?_) AllReadyH.nil
                      go_simp
                      go_wp2_with fail
                      refine hK.out _ _ HLF.out.2.2 (fun hHeld => ?_)
                      clear hK K
                      refine wpAnyH_done (by kernel_rfl) ?_ _
                      refine NoPanic.normal ?_
                      go_wp2_with fail
                      go_meet
                      exact ⟨_, _, _, _, _, _, _, _, _, _, _, _, _, _, rfl, rfl, Lib.hid HLF.out.1, Lib.hid HLF.out.2.1, Lib.hid (HBW.out.trans (HLF.out.2.2.mono HBW.out.size))⟩
                  · go_simp
                    have hb : Below u14.heap.size u14 (u14.alloc (.cells #[.slice none 0 0, .slice none 0 0] 25)) := (Below.refl _ _).alloc (Nat.le_refl _) _
                    have hnb := nilBox_new u14
                    have hsz : (u14.alloc (.cells #[.slice none 0 0, .slice none 0 0] 25)).heap.size = u14.heap.size + 1 := by simp
                    have hbw : Below wd.heap.size wd (u14.alloc (.cells #[.slice none 0 0, .slice none 0 0] 25)) := B_u14.out.trans (hb.mono B_u14.out.size)
                    refine hK.out _ _ hbw (fun hHeld => ?_)
                    clear hK K
                    try simp only [Act.put, List.setIfInBounds_toArray, List.set_cons_zero, List.set_cons_succ]
                    obtain ⟨u145, hu⟩ : ∃ u, u = (u14.alloc (.cells #[.slice none 0 0, .slice none 0 0] 25)) := ⟨_, rfl⟩
                    rw [← hu] at hb hnb hsz hbw hHeld ⊢
                    clear hu
                    have N5 := Lib.hid hnb
                    have X5 := Lib.hid hsz
                    clear hnb hsz
                    have B_u145 := Lib.hid hbw
                    replace N4 := Lib.hid (N4.out.below hb)
                    replace ZC := Lib.hid (ZC.out.trans (hb.mono ZC.out.size))
                    clear hb hbw
                    refine wpAnyH_ready (rs := [3]) (by kernel_rfl) (by simp) ?_
                    refine AllReadyH.cons rfl (fun K hK => ?_) (AllReadyH.nil)
                    · go_simp
                      go_at_call 19
                      refine (HCP.out u145 B_u145.out).mono ?_
                      rintro er u1453 ⟨vD, rfl, hD, bD, fD⟩
                      obtain ⟨ADa, cDa, ADb, cDb, rfl⟩ := hD.shapes
                      have RD := Lib.hid hD
                      have FD := Lib.hid fD
                      have ZD : Hid (Below u1453.heap.size u1453 u1453) := Below.refl _ _
                      have YD : Hid (u145.heap.size ≤ u1453.heap.size) := bD.size
                      have hb := bD
                      clear hD fD bD
                      have hbw : Below wd.heap.size wd u1453 := B_u145.out.trans (hb.mono B_u145.out.size)
                      go_wp2_with fail
                      refine hK.out _ _ hbw (fun hHeld => ?_)
                      clear hK K
                      try simp only [Act.put, List.setIfInBounds_toArray, List.set_cons_zero, List.set_cons_succ]
                      have B_u1453 := Lib.hid hbw
                      have N4D := Lib.hid (N4.out.below hb)
                      replace N4 := Lib.hid (N4.out.below hb)
                      have N5D := Lib.hid (N5.out.below hb)
                      replace N5 := Lib.hid (N5.out.below hb)
                      replace ZC := Lib.hid (ZC.out.trans (hb.mono ZC.out.size))
                      clear hb hbw
                      have z0 : wd.heap.size ≤ wd.heap.size := Nat.le_refl _
                      have z1 := YC.out
                      have z2 := X4.out
                      have z3 := X5.out
                      have z4 := YD.out
                      have HLF := leaf9 (B4 := u1.heap.size) (B5 := u14.heap.size) (by omega) (by omega) (by omega) N4.out N5.out B_u1453.out HLd.out.rows RC.out FC.out ZC.out (fun h => absurd h (by omega)) (fun h => absurd h (by omega)) RD.out FD.out ZD.out (fun _ => ⟨by omega, N4D.out⟩) (fun _ => ⟨by omega, N5D.out⟩)
                      have HLF := Lib.hid HLF
                      have h4b : wd.heap.size ≤ u1.heap.size := by omega
                      have h5b : wd.heap.size ≤ u14.heap.size := by omega
                      have hne : u14.heap.size ≠ u1.heap.size := by omega
                      have n0 := N4.out.c0
                      have n1 := N4.out.c1
                      have nf0 := N4.out.f 0
                      have nf1 := N4.out.f 1
                      have HS1 : Hid (Below wd.heap.size wd ((u1453.setCell ⟨u1.heap.size, 0, none⟩ (.slice ACa (flushL l).1.length cCa)).setCell ⟨u1.heap.size, 1, none⟩ (.slice ACb (flushL l).2.length cCb))) := (B_u1453.out.setCell (p := ⟨u1.heap.size, 0, none⟩) h4b _).setCell (p := ⟨u1.heap.size, 1, none⟩) h4b _
                      have NN : Hid (NilBox u14.heap.size ((u1453.setCell ⟨u1.heap.size, 0, none⟩ (.slice ACa (flushL l).1.length cCa)).setCell ⟨u1.heap.size, 1, none⟩ (.slice ACb (flushL l).2.length cCb))) := (set2_keep _ _ _ _ _ hne).trans N5.out
                      clear z0 z1 z2 z3 z4 hne
                      refine wpAnyH_ready (rs := [6]) (by kernel_rfl) (by simp) ?_
                      refine AllReadyH.cons rfl (fun K hK => ?_) AllReadyH.nil
                      unfold LsmV
                      go_simp
                      go_wp2_with fail
                      refine hK.out _ _ HS1.out (fun hHeld => ?_)
                      clear hK K n0 n1 nf0 nf1
                      try simp only [Act.put, List.setIfInBounds_toArray, List.set_cons_zero, List.set_cons_succ]
                      have n0 := NN.out.c0
                      have n1 := NN.out.c1
                      have nf0 := NN.out.f 0
                      have nf1 := NN.out.f 1
                      refine wpAnyH_ready (rs := [7]) (by kernel_rfl) (by simp) ?_
                      refine AllReadyH.cons rfl (fun K hK => ?_) AllReadyH.nil
                      go_simp
                      go_wp2_with fail
                      refine hK.out _ _ HLF.out.2.2 (fun hHeld => ?_)
                      clear hK K
                      refine wpAnyH_done (by kernel_rfl) ?_ _
                      refine NoPanic.normal ?_
                      go_wp2_with fail
                      go_meet
                      exact ⟨_, _, _, _, _, _, _, _, _, _, _, _, _, _, rfl, rfl, Lib.hid HLF.out.1, Lib.hid HLF.out.2.1, Lib.hid (HBW.out.trans (HLF.out.2.2.mono HBW.out.size))⟩
                · go_simp
                  have hb : Below u1.heap.size u1 (u1.alloc (.cells #[.slice none 0 0, .slice none 0 0] 25)) := (Below.refl _ _).alloc (Nat.le_refl _) _
                  have hnb := nilBox_new u1
                  have hsz : (u1.alloc (.cells #[.slice none 0 0, .slice none 0 0] 25)).heap.size = u1.heap.size + 1 := by simp
                  have hbw : Below wd.heap.size wd (u1.alloc (.cells #[.slice none 0 0, .slice none 0 0] 25)) := B_u1.out.trans (hb.mono B_u1.out.size)
                  refine hK.out _ _ hbw (fun hHeld => ?_)
                  clear hK K
                  try simp only [Act.put, List.setIfInBounds_toArray, List.set_cons_zero, List.set_cons_succ]
                  obtain ⟨u15, hu⟩ : ∃ u, u = (u1.alloc (.cells #[.slice none 0 0, .slice none 0 0] 25)) := ⟨_, rfl⟩
                  rw [← hu] at hb hnb hsz hbw hHeld ⊢
                  clear hu
                  have N5 := Lib.hid hnb
                  have X5 := Lib.hid hsz
                  clear hnb hsz
                  have B_u15 := Lib.hid hbw
                  replace ZC := Lib.hid (ZC.out.trans (hb.mono ZC.out.size))
                  clear hb hbw
                  refine wpAnyH_ready (rs := [3, 4]) (by kernel_rfl) (by simp) ?_
                  refine AllReadyH.cons rfl (fun K hK => ?_) (AllReadyH.cons rfl (fun K hK => ?_) (AllReadyH.nil))
                  · go_simp
                    go_at_call 19
                    refine (HCP.out u15 B_u15.out).mono ?_
                    rintro er u153 ⟨vD, rfl, hD, bD, fD⟩
                    obtain ⟨ADa, cDa, ADb, cDb, rfl⟩ := hD.shapes
                    have RD := Lib.hid hD
                    have FD := Lib.hid fD
                    have ZD : Hid (Below u153.heap.size u153 u153) := Below.refl _ _
                    have YD : Hid (u15.heap.size ≤ u153.heap.size) := bD.size
                    have hb := bD
                    clear hD fD bD
                    have hbw : Below wd.heap.size wd u153 := B_u15.out.trans (hb.mono B_u15.out.size)
                    go_wp2_with fail
                    refine hK.out _ _ hbw (fun hHeld => ?_)
                    clear hK K
                    try simp only [Act.put, List.setIfInBounds_toArray, List.set_cons_zero, List.set_cons_succ]
                    have B_u153 := Lib.hid hbw
                    have N5D := Lib.hid (N5.out.below hb)
                    replace N5 := Lib.hid (N5.out.below hb)
                    replace ZC := Lib.hid (ZC.out.trans (hb.mono ZC.out.size))
                    clear hb hbw
                    refine wpAnyH_ready (rs := [4]) (by kernel_rfl) (by simp) ?_
                    refine AllReadyH.cons rfl (fun K hK => ?_) (AllReadyH.nil)
                    · go_simp
                      have hb : Below u153.heap.size u153 (u153.alloc (.cells #[.slice none 0 0, .slice none 0 0] 25)) := (Below.refl _ _).alloc (Nat.le_refl _) _
                      have hnb := nilBox_new u153
                      have hsz : (u153.alloc (.cells #[.slice none 0 0, .slice none 0 0] 25)).heap.size = u153.heap.size + 1 := by simp
                      have hbw : Below wd.heap.size wd (u153.alloc (.cells #[.slice none 0 0, .slice none 0 0] 25)) := B_u153.out.trans (hb.mono B_u153.out.size)
                      refine hK.out _ _ hbw (fun hHeld => ?_)
                      clear hK K
                      try simp only [Act.put, List.setIfInBounds_toArray, List.set_cons_zero, List.set_cons_succ]
                      obtain ⟨u1534, hu⟩ : ∃ u, u = (u153.alloc (.cells #[.slice none 0 0, .slice none 0 0] 25)) := ⟨_, rfl⟩
                      rw [← hu] at hb hnb hsz hbw hHeld ⊢
                      clear hu
                      have N4 := Lib.hid hnb
                      have X4 := Lib.hid hsz
                      clear hnb hsz
                      have B_u1534 := Lib.hid hbw
                      replace N5 := Lib.hid (N5.out.below hb)
                      replace ZC := Lib.hid (ZC.out.trans (hb.mono ZC.out.size))
                      replace ZD := Lib.hid (ZD.out.trans (hb.mono ZD.out.size))
                      clear hb hbw
                      have z0 : wd.heap.size ≤ wd.heap.size := Nat.le_refl _
                      have z1 := YC.out
                      have z2 := X5.out
                      have z3 := YD.out
                      have z4 := X4.out
                      have HLF := leaf9 (B4 := u153.heap.size) (B5 := u1.heap.size) (by omega) (by omega) (by omega) N4.out N5.out B_u1534.out HLd.out.rows RC.out FC.out ZC.out (fun h => absurd h (by omega)) (fun h => absurd h (by omega)) RD.out FD.out ZD.out (fun h => absurd h (by omega)) (fun _ => ⟨by omega, N5D.out⟩)
                      have HLF := Lib.hid HLF
                      have h4b : wd.heap.size ≤ u153.heap.size := by omega
                      have h5b : wd.heap.size ≤ u1.heap.size := by omega
                      have hne : u1.heap.size ≠ u153.heap.size := by omega
                      have n0 := N4.out.c0
                      have n1 := N4.out.c1
                      have nf0 := N4.out.f 0
                      have nf1 := N4.out.f 1
                      have HS1 : Hid (Below wd.heap.size wd ((u1534.setCell ⟨u153.heap.size, 0, none⟩ (.slice ACa (flushL l).1.length cCa)).setCell ⟨u153.heap.size, 1, none⟩ (.slice ACb (flushL l).2.length cCb))) := (B_u1534.out.setCell (p := ⟨u153.heap.size, 0, none⟩) h4b _).setCell (p := ⟨u153.heap.size, 1, none⟩) h4b _
                      have NN : Hid (NilBox u1.heap.size ((u1534.setCell ⟨u153.heap.size, 0, none⟩ (.slice ACa (flushL l).1.length cCa)).setCell ⟨u153.heap.size, 1, none⟩ (.slice ACb (flushL l).2.length cCb))) := (set2_keep _ _ _ _ _ hne).trans N5.out
                      clear z0 z1 z2 z3 z4 hne
                      refine wpAnyH_ready (rs := [6]) (by kernel_rfl) (by simp) ?_
                      refine AllReadyH.cons rfl (fun K hK => ?_) AllReadyH.nil
                      unfold LsmV
                      go_simp
                      go_wp2_with fail
                      refine hK.out _ _ HS1.out (fun hHeld => ?_)
                      clear hK K n0 n1 nf0 nf1
                      try simp only [Act.put, List.setIfInBounds_toArray, List.set_cons_zero, List.set_cons_succ]
                      have n0 := NN.out.c0
                      have n1 := NN.out.c1
                      have nf0 := NN.out.f 0
                      have nf1 := NN.out.f 1
                      refine wpAnyH_ready (rs := [7]) (by kernel_rfl) (by simp) ?_
                      refine AllReadyH.cons rfl (fun K hK => ?_) AllReadyH.nil
                      go_simp
                      go_wp2_with fail
                      refine hK.out _ _ HLF.out.2.2 (fun hHeld => ?_)
                      clear hK K
                      refine wpAnyH_done (by kernel_rfl) ?_ _
                      refine NoPanic.normal ?_
                      go_wp2_with fail
                      go_meet
                      exact ⟨_, _, _, _, _, _, _, _, _, _, _, _, _, _, rfl, rfl, Lib.hid HLF.out.1, Lib.hid HLF.out.2.1, Lib.hid (HBW.out.trans (HLF.out.2.2.mono HBW.out.size))⟩
                  · go_simp
                    have hb : Below u15.heap.size u15 (u15.alloc (.cells #[.slice none 0 0, .slice none 0 0] 25)) := (Below.refl _ _).alloc (Nat.le_refl _) _
                    have hnb := nilBox_new u15
                    have hsz : (u15.alloc (.cells #[.slice none 0 0, .slice none 0 0] 25)).heap.size = u15.heap.size + 1 := by simp
                    have hbw : Below wd.heap.size wd (u15.alloc (.cells #[.slice none 0 0, .slice none 0 0] 25)) := B_u15.out.trans (hb.mono B_u15.out.size)
                    refine hK.out _ _ hbw (fun hHeld => ?_)
                    clear hK K
                    try simp only [Act.put, List.setIfInBounds_toArray, List.set_cons_zero, List.set_cons_succ]
                    obtain ⟨u154, hu⟩ : ∃ u, u = (u15.alloc (.cells #[.slice none 0 0, .slice none 0 0] 25)) := ⟨_, rfl⟩
                    rw [← hu] at hb hnb hsz hbw hHeld ⊢
                    clear hu
                    have N4 := Lib.hid hnb
                    have X4 := Lib.hid hsz
                    clear hnb hsz
                    have B_u154 := Lib.hid hbw
                    replace N5 := Lib.hid (N5.out.below hb)
                    replace ZC := Lib.hid (ZC.out.trans (hb.mono ZC.out.size))
                    clear hb hbw
                    refine wpAnyH_ready (rs := [3]) (by kernel_rfl) (by simp) ?_
                    refine AllReadyH.cons rfl (fun K hK => ?_) (AllReadyH.nil)
                    · go_simp
                      go_at_call 19
                      refine (HCP.out u154 B_u154.out).mono ?_
                      rintro er u1543 ⟨vD, rfl, hD, bD, fD⟩
                      obtain ⟨ADa, cDa, ADb, cDb, rfl⟩ := hD.shapes
                      have RD := Lib.hid hD
                      have FD := Lib.hid fD
                      have ZD : Hid (Below u1543.heap.size u1543 u1543) := Below.refl _ _
                      have YD : Hid (u154.heap.size ≤ u1543.heap.size) := bD.size
                      have hb := bD
                      clear hD fD bD
                      have hbw : Below wd.heap.size wd u1543 := B_u154.out.trans (hb.mono B_u154.out.size)
                      go_wp2_with fail
                      refine hK.out _ _ hbw (fun hHeld => ?_)
                      clear hK K
                      try simp only [Act.put, List.setIfInBounds_toArray, List.set_cons_zero, List.set_cons_succ]
                      have B_u1543 := Lib.hid hbw
                      have N5D := Lib.hid (N5.out.below hb)
                      replace N5 := Lib.hid (N5.out.below hb)
                      have N4D := Lib.hid (N4.out.below hb)
                      replace N4 := Lib.hid (N4.out.below hb)
                      replace ZC := Lib.hid (ZC.out.trans (hb.mono ZC.out.size))
                      clear hb hbw
                      have z0 : wd.heap.size ≤ wd.heap.size := Nat.le_refl _
                      have z1 := YC.out
                      have z2 := X5.out
                      have z3 := X4.out
                      have z4 := YD.out
                      have HLF := leaf9 (B4 := u15.heap.size) (B5 := u1.heap.size) (by omega) (by omega) (by omega) N4.out N5.out B_u1543.out HLd.out.rows RC.out FC.out ZC.out (fun h => absurd h (by omega)) (fun h => absurd h (by omega)) RD.out FD.out ZD.out (fun _ => ⟨by omega, N4D.out⟩) (fun _ => ⟨by omega, N5D.out⟩)
                      have HLF := Lib.hid HLF
                      have h4b : wd.heap.size ≤ u15.heap.size := by omega
                      have h5b : wd.heap.size ≤ u1.heap.size := by omega
                      have hne : u1.heap.size ≠ u15.heap.size := by omega
                      have n0 := N4.out.c0
                      have n1 := N4.out.c1
                      have nf0 := N4.out.f 0
                      have nf1 := N4.out.f 1
                      have HS1 : Hid (Below wd.heap.size wd ((u1543.setCell ⟨u15.heap.size, 0, none⟩ (.slice ACa (flushL l).1.length cCa)).setCell ⟨u15.heap.size, 1, none⟩ (.slice ACb (flushL l).2.length cCb))) := (B_u1543.out.setCell (p := ⟨u15.heap.size, 0, none⟩) h4b _).setCell (p := ⟨u15.heap.size, 1, none⟩) h4b _
                      have NN : Hid (NilBox u1.heap.size ((u1543.setCell ⟨u15.heap.size, 0, none⟩ (.slice ACa (flushL l).1.length cCa)).setCell ⟨u15.heap.size, 1, none⟩ (.slice ACb (flushL l).2.length cCb))) := (set2_keep _ _ _ _ _ hne).trans N5.out
                      clear z0 z1 z2 z3 z4 hne
                      refine wpAnyH_ready (rs := [6]) (by kernel_rfl) (by simp) ?_
                      refine AllReadyH.cons rfl (fun K hK => ?_) AllReadyH.nil
                      unfold LsmV
                      go_simp
                      go_wp2_with fail
                      refine hK.out _ _ HS1.out (fun hHeld => ?_)
                      clear hK K n0 n1 nf0 nf1
                      try simp only [Act.put, List.setIfInBounds_toArray, List.set_cons_zero, List.set_cons_succ]
                      have n0 := NN.out.c0
                      have n1 := NN.out.c1
                      have nf0 := NN.out.f 0
                      have nf1 := NN.out.f 1
                      refine wpAnyH_ready (rs := [7]) (by kernel_rfl) (by simp) ?_
                      refine AllReadyH.cons rfl (fun K hK => ?_) AllReadyH.nil
                      go_simp
                      go_wp2_with fail
                      refine hK.out _ _ HLF.out.2.2 (fun hHeld => ?_)
                      clear hK K
                      refine wpAnyH_done (by kernel_rfl) ?_ _
                      refine NoPanic.normal ?_
                      go_wp2_with fail
                      go_meet
                      exact ⟨_, _, _, _, _, _, _, _, _, _, _, _, _, _, rfl, rfl, Lib.hid HLF.out.1, Lib.hid HLF.out.2.1, Lib.hid (HBW.out.trans (HLF.out.2.2.mono HBW.out.size))⟩
              · go_simp
                have hb : Below wd.heap.size wd (wd.alloc (.cells #[.slice none 0 0, .slice none 0 0] 25)) := (Below.refl _ _).alloc (Nat.le_refl _) _
                have hnb := nilBox_new wd
                have hsz : (wd.alloc (.cells #[.slice none 0 0, .slice none 0 0] 25)).heap.size = wd.heap.size + 1 := by simp
                have hbw : Below wd.heap.size wd (wd.alloc (.cells #[.slice none 0 0, .slice none 0 0] 25)) := B_wd.out.trans (hb.mono B_wd.out.size)
                refine hK.out _ _ hbw (fun hHeld => ?_)
                clear hK K
                try simp only [Act.put, List.setIfInBounds_toArray, List.set_cons_zero, List.set_cons_succ]
                obtain ⟨u4, hu⟩ : ∃ u, u = (wd.alloc (.cells #[.slice none 0 0, .slice none 0 0] 25)) := ⟨_, rfl⟩
                rw [← hu] at hb hnb hsz hbw hHeld ⊢
                clear hu
                have N4 := Lib.hid hnb
                have X4 := Lib.hid hsz
                clear hnb hsz
                have B_u4 := Lib.hid hbw
                clear hb hbw
                refine wpAnyH_ready (rs := [1, 5]) (by kernel_rfl) (by simp) ?_
                refine AllReadyH.cons rfl (fun K hK => ?_) (AllReadyH.cons rfl (fun K hK => ?_) (AllReadyH.nil))
                · go_simp
                  go_at_call 18
                  refine (HCF.out u4 B_u4.out).mono ?_
                  rintro er u41 ⟨vC, rfl, hC, bC, fC⟩
                  obtain ⟨ACa, cCa, ACb, cCb, rfl⟩ := hC.shapes
                  have RC := Lib.hid hC
                  have FC := Lib.hid fC
                  have ZC : Hid (Below u41.heap.size u41 u41) := Below.refl _ _
                  have YC : Hid (u4.heap.size ≤ u41.heap.size) := bC.size
                  have hb := bC
                  clear hC fC bC
                  have hbw : Below wd.heap.size wd u41 := B_u4.out.trans (hb.mono B_u4.out.size)
                  go_wp2_with fail
                  refine hK.out _ _ hbw (fun hHeld => ?_)
                  clear hK K
                  try simp only [Act.put, List.setIfInBounds_toArray, List.set_cons_zero, List.set_cons_succ]
                  have B_u41 := Lib.hid hbw
                  have N4C := Lib.hid (N4.out.below hb)
                  replace N4 := Lib.hid (N4.out.below hb)
                  clear hb hbw
                  refine wpAnyH_ready (rs := [3, 5]) (by kernel_rfl) (by simp) ?_
                  refine AllReadyH.cons rfl (fun K hK => ?_) (AllReadyH.cons rfl (fun K hK => ?_) (AllReadyH.nil))
                  · go_simp
                    go_at_call 19
                    refine (HCP.out u41 B_u41.out).mono ?_
                    rintro er u413 ⟨vD, rfl, hD, bD, fD⟩
                    obtain ⟨ADa, cDa, ADb, cDb, rfl⟩ := hD.shapes
                    have RD := Lib.hid hD
                    have FD := Lib.hid fD
                    have ZD : Hid (Below u413.heap.size u413 u413) := Below.refl _ _
                    have YD : Hid (u41.heap.size ≤ u413.heap.size) := bD.size
                    have hb := bD
                    clear hD fD bD
                    have hbw : Below wd.heap.size wd u413 := B_u41.out.trans (hb.mono B_u41.out.size)
                    go_wp2_with fail
                    refine hK.out _ _ hbw (fun hHeld => ?_)
                    clear hK K
                    try simp only [Act.put, List.setIfInBounds_toArray, List.set_cons_zero, List.set_cons_succ]
                    have B_u413 := Lib.hid hbw
                    have N4D := Lib.hid (N4.out.below hb)
                    replace N4 := Lib.hid (N4.out.below hb)
                    replace ZC := Lib.hid (ZC.out.trans (hb.mono ZC.out.size))
                    clear hb hbw
                    refine wpAnyH_ready (rs := [5]) (by kernel_rfl) (by simp) ?_
                    refine AllReadyH.cons rfl (fun K hK => ?_) (AllReadyH.nil)
                    · go_simp
                      have hb : Below u413.heap.size u413 (u413.alloc (.cells #[.slice none 0 0, .slice none 0 0] 25)) := (Below.refl _ _).alloc (Nat.le_refl _) _
                      have hnb := nilBox_new u413
                      have hsz : (u413.alloc (.cells #[.slice none 0 0, .slice none 0 0] 25)).heap.size = u413.heap.size + 1 := by simp
                      have hbw : Below wd.heap.size wd (u413.alloc (.cells #[.slice none 0 0, .slice none 0 0] 25)) := B_u413.out.trans (hb.mono B_u413.out.size)
                      refine hK.out _ _ hbw (fun hHeld => ?_)
                      clear hK K
                      try simp only [Act.put, List.setIfInBounds_toArray, List.set_cons_zero, List.set_cons_succ]
                      obtain ⟨u4135, hu⟩ : ∃ u, u = (u413.alloc (.cells #[.slice none 0 0, .slice none 0 0] 25)) := ⟨_, rfl⟩
                      rw [← hu] at hb hnb hsz hbw hHeld ⊢
                      clear hu
                      have N5 := Lib.hid hnb
                      have X5 := Lib.hid hsz
                      clear hnb hsz
                      have B_u4135 := Lib.hid hbw
                      replace N4 := Lib.hid (N4.out.below hb)
                      replace ZC := Lib.hid (ZC.out.trans (hb.mono ZC.out.size))
                      replace ZD := Lib.hid (ZD.out.trans (hb.mono ZD.out.size))
                      clear hb hbw
                      have z0 : wd.heap.size ≤ wd.heap.size := Nat.le_refl _
                      have z1 := X4.out
                      have z2 := YC.out
                      have z3 := YD.out
                      have z4 := X5.out
                      have HLF := leaf9 (B4 := wd.heap.size) (B5 := u413.heap.size) (by omega) (by omega) (by omega) N4.out N5.out B_u4135.out HLd.out.rows RC.out FC.out ZC.out (fun _ => ⟨by omega, N4C.out⟩) (fun h => absurd h (by omega)) RD.out FD.out ZD.out (fun _ => ⟨by omega, N4D.out⟩) (fun h => absurd h (by omega))
                      have HLF := Lib.hid HLF
                      have h4b : wd.heap.size ≤ wd.heap.size := by omega
                      have h5b : wd.heap.size ≤ u413.heap.size := by omega
                      have hne : u413.heap.size ≠ wd.heap.size := by omega
                      have n0 := N4.out.c0
                      have n1 := N4.out.c1
                      have nf0 := N4.out.f 0
                      have nf1 := N4.out.f 1
                      have HS1 : Hid (Below wd.heap.size wd ((u4135.setCell ⟨wd.heap.size, 0, none⟩ (.slice ACa (flushL l).1.length cCa)).setCell ⟨wd.heap.size, 1, none⟩ (.slice ACb (flushL l).2.length cCb))) := (B_u4135.out.setCell (p := ⟨wd.heap.size, 0, none⟩) h4b _).setCell (p := ⟨wd.heap.size, 1, none⟩) h4b _
                      have NN : Hid (NilBox u413.heap.size ((u4135.setCell ⟨wd.heap.size, 0, none⟩ (.slice ACa (flushL l).1.length cCa)).setCell ⟨wd.heap.size, 1, none⟩ (.slice ACb (flushL l).2.length cCb))) := (set2_keep _ _ _ _ _ hne).trans N5.out
                      clear z0 z1 z2 z3 z4 hne
                      refine wpAnyH_ready (rs := [6]) (by kernel_rfl) (by simp) ?_
                      refine AllReadyH.cons rfl (fun K hK => ?_) AllReadyH.nil
                      unfold LsmV
                      go_simp
                      go_wp2_with fail
                      refine hK.out _ _ HS1.out (fun hHeld => ?_)
                      clear hK K n0 n1 nf0 nf1
                      try simp only [Act.put, List.setIfInBounds_toArray, List.set_cons_zero, List.set_cons_succ]
                      have n0 := NN.out.c0
                      have n1 := NN.out.c1
                      have nf0 := NN.out.f 0
                      have nf1 := NN.out.f 1
                      refine wpAnyH_ready (rs := [7]) (by kernel_rfl) (by simp) ?_
                      refine AllReadyH.cons rfl (fun K hK => ?_) AllReadyH.nil
                      go_simp
                      go_wp2_with fail
                      refine hK.out _ _ HLF.out.2.2 (fun hHeld => ?_)
                      clear hK K
                      refine wpAnyH_done (by kernel_rfl) ?_ _
                      refine NoPanic.normal ?_
                      go_wp2_with fail
                      go_meet
                      exact ⟨_, _, _, _, _, _, _, _, _, _, _, _, _, _, rfl, rfl, Lib.hid HLF.out.1, Lib.hid HLF.out.2.1, Lib.hid (HBW.out.trans (HLF.out.2.2.mono HBW.out.size))⟩
                  · go_simp
                    have hb : Below u41.heap.size u41 (u41.alloc (.cells #[.slice none 0 0, .slice none 0 0] 25)) := (Below.refl _ _).alloc (Nat.le_refl _) _
                    have hnb := nilBox_new u41
                    have hsz : (u41.alloc (.cells #[.slice none 0 0, .slice none 0 0] 25)).heap.size = u41.heap.size + 1 := by simp
                    have hbw : Below wd.heap.size wd (u41.alloc (.cells #[.slice none 0 0, .slice none 0 0] 25)) := B_u41.out.trans (hb.mono B_u41.out.size)
                    refine hK.out _ _ hbw (fun hHeld => ?_)
                    clear hK K
                    try simp only [Act.put, List.setIfInBounds_toArray, List.set_cons_zero, List.set_cons_succ]
                    obtain ⟨u415, hu⟩ : ∃ u, u = (u41.alloc (.cells #[.slice none 0 0, .slice none 0 0] 25)) := ⟨_, rfl⟩
                    rw [← hu] at hb hnb hsz hbw hHeld ⊢
                    clear hu
                    have N5 := Lib.hid hnb
                    have X5 := Lib.hid hsz
                    clear hnb hsz
                    have B_u415 := Lib.hid hbw
                    replace N4 := Lib.hid (N4.out.below hb)
                    replace ZC := Lib.hid (ZC.out.trans (hb.mono ZC.out.size))
                    clear hb hbw
                    refine wpAnyH_ready (rs := [3]) (by kernel_rfl) (by simp) ?_
                    refine AllReadyH.cons rfl (fun K hK => ?_) (AllReadyH.nil)
                    · go_simp
                      go_at_call 19
                      refine (HCP.out u415 B_u415.out).mono ?_
                      rintro er u4153 ⟨vD, rfl, hD, bD, fD⟩
                      obtain ⟨ADa, cDa, ADb, cDb, rfl⟩ := hD.shapes
                      have RD := Lib.hid hD
                      have FD := Lib.hid fD
                      have ZD : Hid (Below u4153.heap.size u4153 u4153) := Below.refl _ _
                      have YD : Hid (u415.heap.size ≤ u4153.heap.size) := bD.size
                      have hb := bD
                      clear hD fD bD
                      have hbw : Below wd.heap.size wd u4153 := B_u415.out.trans (hb.mono B_u415.out.size)
                      go_wp2_with fail
                      refine hK.out _ _ hbw (fun hHeld => ?_)
                      clear hK K
                      try simp only [Act.put, List.setIfInBounds_toArray, List.set_cons_zero, List.set_cons_succ]
                      have B_u4153 := Lib.hid hbw
                      have N4D := Lib.hid (N4.out.below hb)
                      replace N4 := Lib.hid (N4.out.below hb)
                      have N5D := Lib.hid (N5.out.below hb)
                      replace N5 := Lib.hid (N5.out.below hb)
                      replace ZC := Lib.hid (ZC.out.trans (hb.mono ZC.out.size))
                      clear hb hbw
                      have z0 : wd.heap.size ≤ wd.heap.size := Nat.le_refl _
                      have z1 := X4.out
                      have z2 := YC.out
                      have z3 := X5.out
                      have z4 := YD.out
                      have HLF := leaf9 (B4 := wd.heap.size) (B5 := u41.heap.size) (by omega) (by omega) (by omega) N4.out N5.out B_u4153.out HLd.out.rows RC.out FC.out ZC.out (fun _ => ⟨by omega, N4C.out⟩) (fun h => absurd h (by omega)) RD.out FD.out ZD.out (fun _ => ⟨by omega, N4D.out⟩) (fun _ => ⟨by omega, N5D.out⟩)
                      have HLF := Lib.hid HLF
                      have h4b : wd.heap.size ≤ wd.heap.size := by omega
                      have h5b : wd.heap.size ≤ u41.heap.size := by omega
                      have hne : u41.heap.size ≠ wd.heap.size := by omega
                      have n0 := N4.out.c0
                      have n1 := N4.out.c1
                      have nf0 := N4.out.f 0
                      have nf1 := N4.out.f 1
                      have HS1 : Hid (Below wd.heap.size wd ((u4153.setCell ⟨wd.heap.size, 0, none⟩ (.slice ACa (flushL l).1.length cCa)).setCell ⟨wd.heap.size, 1, none⟩ (.slice ACb (flushL l).2.length cCb))) := (B_u4153.out.setCell (p := ⟨wd.heap.size, 0, none⟩) h4b _).setCell (p := ⟨wd.heap.size, 1, none⟩) h4b _
                      have NN : Hid (NilBox u41.heap.size ((u4153.setCell ⟨wd.heap.size, 0, none⟩ (.slice ACa (flushL l).1.length cCa)).setCell ⟨wd.heap.size, 1, none⟩ (.slice ACb (flushL l).2.length cCb))) := (set2_keep _ _ _ _ _ hne).trans N5.out
                      clear z0 z1 z2 z3 z4 hne
                      refine wpAnyH_ready (rs := [6]) (by kernel_rfl) (by simp) ?_
                      refine AllReadyH.cons rfl (fun K hK => ?_) AllReadyH.nil
                      unfold LsmV
                      go_simp
                      go_wp2_with fail
                      refine hK.out _ _ HS1.out (fun hHeld => ?_)
                      clear hK K n0 n1 nf0 nf1
                      try simp only [Act.put, List.setIfInBounds_toArray, List.set_cons_zero, List.set_cons_succ]
                      have n0 := NN.out.c0
                      have n1 := NN.out.c1
                      have nf0 := NN.out.f 0
                      have nf1 := NN.out.f 1
                      refine wpAnyH_ready (rs := [7]) (by kernel_rfl) (by simp) ?_
                      refine AllReadyH.cons rfl (fun K hK => ?_) AllReadyH.nil
                      go_simp
                      go_wp2_with fail
                      refine hK.out _ _ HLF.out.2.2 (fun hHeld => ?_)
                      clear hK K
                      refine wpAnyH_done (by kernel_rfl) ?_ _
                      refine NoPanic.normal ?_
                      go_wp2_with fail
                      go_meet
                      exact ⟨_, _, _, _, _, _, _, _, _, _, _, _, _, _, rfl, rfl, Lib.hid HLF.out.1, Lib.hid HLF.out.2.1, Lib.hid (HBW.out.trans (HLF.out.2.2.mono HBW.out.size))⟩
                · go_simp
                  have hb : Below u4.heap.size u4 (u4.alloc (.cells #[.slice none 0 0, .slice none 0 0] 25)) := (Below.refl _ _).alloc (Nat.le_refl _) _
                  have hnb := nilBox_new u4
                  have hsz : (u4.alloc (.cells #[.slice none 0 0, .slice none 0 0] 25)).heap.size = u4.heap.size + 1 := by simp
                  have hbw : Below wd.heap.size wd (u4.alloc (.cells #[.slice none 0 0, .slice none 0 0] 25)) := B_u4.out.trans (hb.mono B_u4.out.size)
                  refine hK.out _ _ hbw (fun hHeld => ?_)
                  clear hK K
                  try simp only [Act.put, List.setIfInBounds_toArray, List.set_cons_zero, List.set_cons_succ]
                  obtain ⟨u45, hu⟩ : ∃ u, u = (u4.alloc (.cells #[.slice none 0 0, .slice none 0 0] 25)) := ⟨_, rfl⟩
                  rw [← hu] at hb hnb hsz hbw hHeld ⊢
                  clear hu
                  have N5 := Lib.hid hnb
                  have X5 := Lib.hid hsz
                  clear hnb hsz
                  have B_u45 := Lib.hid hbw
                  replace N4 := Lib.hid (N4.out.below hb)
                  clear hb hbw
                  refine wpAnyH_ready (rs := [1]) (by kernel_rfl) (by simp) ?_
                  refine AllReadyH.cons rfl (fun K hK => ?_) (AllReadyH.nil)
                  · go_simp
                    go_at_call 18
                    refine (HCF.out u45 B_u45.out).mono ?_
                    rintro er u451 ⟨vC, rfl, hC, bC, fC⟩
                    obtain ⟨ACa, cCa, ACb, cCb, rfl⟩ := hC.shapes
                    have RC := Lib.hid hC
                    have FC := Lib.hid fC
                    have ZC : Hid (Below u451.heap.size u451 u451) := Below.refl _ _
                    have YC : Hid (u45.heap.size ≤ u451.heap.size) := bC.size
                    have hb := bC
                    clear hC fC bC
                    have hbw : Below wd.heap.size wd u451 := B_u45.out.trans (hb.mono B_u45.out.size)
                    go_wp2_with fail
                    refine hK.out _ _ hbw (fun hHeld => ?_)
                    clear hK K
                    try simp only [Act.put, List.setIfInBounds_toArray, List.set_cons_zero, List.set_cons_succ]
                    have B_u451 := Lib.hid hbw
                    have N4C := Lib.hid (N4.out.below hb)
                    replace N4 := Lib.hid (N4.out.below hb)
                    have N5C := Lib.hid (N5.out.below hb)
                    replace N5 := Lib.hid (N5.out.below hb)
                    clear hb hbw
                    refine wpAnyH_ready (rs := [3]) (by kernel_rfl) (by simp) ?_
                    refine AllReadyH.cons rfl (fun K hK => ?_) (AllReadyH.nil)
                    · go_simp
                      go_at_call 19
                      refine (HCP.out u451 B_u451.out).mono ?_
                      rintro er u4513 ⟨vD, rfl, hD, bD, fD⟩
                      obtain ⟨ADa, cDa, ADb, cDb, rfl⟩ := hD.shapes
                      have RD := Lib.hid hD
                      have FD := Lib.hid fD
                      have ZD : Hid (Below u4513.heap.size u4513 u4513) := Below.refl _ _
                      have YD : Hid (u451.heap.size ≤ u4513.heap.size) := bD.size
                      have hb := bD
                      clear hD fD bD
                      have hbw : Below wd.heap.size wd u4513 := B_u451.out.trans (hb.mono B_u451.out.size)
                      go_wp2_with fail
                      refine hK.out _ _ hbw (fun hHeld => ?_)
                      clear hK K
                      try simp only [Act.put, List.setIfInBounds_toArray, List.set_cons_zero, List.set_cons_succ]
                      have B_u4513 := Lib.hid hbw
                      have N4D := Lib.hid (N4.out.below hb)
                      replace N4 := Lib.hid (N4.out.below hb)
                      have N5D := Lib.hid (N5.out.below hb)
                      replace N5 := Lib.hid (N5.out.below hb)
                      replace ZC := Lib.hid (ZC.out.trans (hb.mono ZC.out.size))
                      clear hb hbw
                      have z0 : wd.heap.size ≤ wd.heap.size := Nat.le_refl _
                      have z1 := X4.out
                      have z2 := X5.out
                      have z3 := YC.out
                      have z4 := YD.out
                      have HLF := leaf9 (B4 := wd.heap.size) (B5 := u4.heap.size) (by omega) (by omega) (by omega) N4.out N5.out B_u4513.out HLd.out.rows RC.out FC.out ZC.out (fun _ => ⟨by omega, N4C.out⟩) (fun _ => ⟨by omega, N5C.out⟩) RD.out FD.out ZD.out (fun _ => ⟨by omega, N4D.out⟩) (fun _ => ⟨by omega, N5D.out⟩)
                      have HLF := Lib.hid HLF
                      have h4b : wd.heap.size ≤ wd.heap.size := by omega
                      have h5b : wd.heap.size ≤ u4.heap.size := by omega
                      have hne : u4.heap.size ≠ wd.heap.size := by omega
                      have n0 := N4.out.c0
                      have n1 := N4.out.c1
                      have nf0 := N4.out.f 0
                      have nf1 := N4.out.f 1
                      have HS1 : Hid (Below wd.heap.size wd ((u4513.setCell ⟨wd.heap.size, 0, none⟩ (.slice ACa (flushL l).1.length cCa)).setCell ⟨wd.heap.size, 1, none⟩ (.slice ACb (flushL l).2.length cCb))) := (B_u4513.out.setCell (p := ⟨wd.heap.size, 0, none⟩) h4b _).setCell (p := ⟨wd.heap.size, 1, none⟩) h4b _
                      have NN : Hid (NilBox u4.heap.size ((u4513.setCell ⟨wd.heap.size, 0, none⟩ (.slice ACa (flushL l).1.length cCa)).setCell ⟨wd.heap.size, 1, none⟩ (.slice ACb (flushL l).2.length cCb))) := (set2_keep _ _ _ _ _ hne).trans N5.out
                      clear z0 z1 z2 z3 z4 hne
                      refine wpAnyH_ready (rs := [6]) (by kernel_rfl) (by simp) ?_
                      refine AllReadyH.cons rfl (fun K hK => ?_) AllReadyH.nil
                      unfold LsmV
                      go_simp
                      go_wp2_with fail
                      refine hK.out _ _ HS1.out (fun hHeld => ?_)
                      clear hK K n0 n1 nf0 nf1
                      try simp only [Act.put, List.setIfInBounds_toArray, List.set_cons_zero, List.set_cons_succ]
                      have n0 := NN.out.c0
                      have n1 := NN.out.c1
                      have nf0 := NN.out.f 0
                      have nf1 := NN.out.f 1
                      refine wpAnyH_ready (rs := [7]) (by kernel_rfl) (by simp) ?_
                      refine AllReadyH.cons rfl (fun K hK => ?_) AllReadyH.nil
                      go_simp
                      go_wp2_with fail
                      refine hK.out _ _ HLF.out.2.2 (fun hHeld => ?_)
                      clear hK K
                      refine wpAnyH_done (by kernel_rfl) ?_ _
                      refine NoPanic.normal ?_
                      go_wp2_with fail
                      go_meet
                      exact ⟨_, _, _, _, _, _, _, _, _, _, _, _, _, _, rfl, rfl, Lib.hid HLF.out.1, Lib.hid HLF.out.2.1, Lib.hid (HBW.out.trans (HLF.out.2.2.mono HBW.out.size))⟩
              · go_simp
                have hb : Below wd.heap.size wd (wd.alloc (.cells #[.slice none 0 0, .slice none 0 0] 25)) := (Below.refl _ _).alloc (Nat.le_refl _) _
                have hnb := nilBox_new wd
                have hsz : (wd.alloc (.cells #[.slice none 0 0, .slice none 0 0] 25)).heap.size = wd.heap.size + 1 := by simp
                have hbw : Below wd.heap.size wd (wd.alloc (.cells #[.slice none 0 0, .slice none 0 0] 25)) := B_wd.out.trans (hb.mono B_wd.out.size)
                refine hK.out _ _ hbw (fun hHeld => ?_)
                clear hK K
                try simp only [Act.put, List.setIfInBounds_toArray, List.set_cons_zero, List.set_cons_succ]
                obtain ⟨u5, hu⟩ : ∃ u, u = (wd.alloc (.cells #[.slice none 0 0, .slice none 0 0] 25)) := ⟨_, rfl⟩
                rw [← hu] at hb hnb hsz hbw hHeld ⊢
                clear hu
                have N5 := Lib.hid hnb
                have X5 := Lib.hid hsz
                clear hnb hsz
                have B_u5 := Lib.hid hbw
                clear hb hbw
                refine wpAnyH_ready (rs := [1, 4]) (by kernel_rfl) (by simp) ?_
                refine AllReadyH.cons rfl (fun K hK => ?_) (AllReadyH.cons rfl (fun K hK => ?_) (AllReadyH.nil))
                · go_simp
                  go_at_call 18
                  refine (HCF.out u5 B_u5.out).mono ?_
                  rintro er u51 ⟨vC, rfl, hC, bC, fC⟩
                  obtain ⟨ACa, cCa, ACb, cCb, rfl⟩ := hC.shapes
                  have RC := Lib.hid hC
                  have FC := Lib.hid fC
                  have ZC : Hid (Below u51.heap.size u51 u51) := Below.refl _ _
                  have YC : Hid (u5.heap.size ≤ u51.heap.size) := bC.size
                  have hb := bC
                  clear hC fC bC
                  have hbw : Below wd.heap.size wd u51 := B_u5.out.trans (hb.mono B_u5.out.size)
                  go_wp2_with fail
                  refine hK.out _ _ hbw (fun hHeld => ?_)
                  clear hK K
                  try simp only [Act.put, List.setIfInBounds_toArray, List.set_cons_zero, List.set_cons_succ]
                  have B_u51 := Lib.hid hbw
                  have N5C := Lib.hid (N5.out.below hb)
                  replace N5 := Lib.hid (N5.out.below hb)
                  clear hb hbw
                  refine wpAnyH_ready (rs := [3, 4]) (by kernel_rfl) (by simp) ?_
                  refine AllReadyH.cons rfl (fun K hK => ?_) (AllReadyH.cons rfl (fun K hK => ?_) (AllReadyH.nil))
                  · go_simp
                    go_at_call 19
                    refine (HCP.out u51 B_u51.out).mono ?_
                    rintro er u513 ⟨vD, rfl, hD, bD, fD⟩
                    obtain ⟨ADa, cDa, ADb, cDb, rfl⟩ := hD.shapes
                    have RD := Lib.hid hD
                    have FD := Lib.hid fD
                    have ZD : Hid (Below u513.heap.size u513 u513) := Below.refl _ _
                    have YD : Hid (u51.heap.size ≤ u513.heap.size) := bD.size
                    have hb := bD
                    clear hD fD bD
                    have hbw : Below wd.heap.size wd u513 := B_u51.out.trans (hb.mono B_u51.out.size)
                    go_wp2_with fail
                    refine hK.out _ _ hbw (fun hHeld => ?_)
                    clear hK K
                    try simp only [Act.put, List.setIfInBounds_toArray, List.set_cons_zero, List.set_cons_succ]
                    have B_u513 := Lib.hid hbw
                    have N5D := Lib.hid (N5.out.below hb)
                    replace N5 := Lib.hid (N5.out.below hb)
                    replace ZC := Lib.hid (ZC.out.trans (hb.mono ZC.out.size))
                    clear hb hbw
                    refine wpAnyH_ready (rs := [4]) (by kernel_rfl) (by simp) ?_
                    refine AllReadyH.cons rfl (fun K hK => ?_) (AllReadyH.nil)
                    · go_simp
                      have hb : Below u513.heap.size u513 (u513.alloc (.cells #[.slice none 0 0, .slice none 0 0] 25)) := (Below.refl _ _).alloc (Nat.le_refl _) _
                      have hnb := nilBox_new u513
                      have hsz : (u513.alloc (.cells #[.slice none 0 0, .slice none 0 0] 25)).heap.size = u513.heap.size + 1 := by simp
                      have hbw : Below wd.heap.size wd (u513.alloc (.cells #[.slice none 0 0, .slice none 0 0] 25)) := B_u513.out.trans (hb.mono B_u513.out.size)
                      refine hK.out _ _ hbw (fun hHeld => ?_)
                      clear hK K
                      try simp only [Act.put, List.setIfInBounds_toArray, List.set_cons_zero, List.set_cons_succ]
                      obtain ⟨u5134, hu⟩ : ∃ u, u = (u513.alloc (.cells #[.slice none 0 0, .slice none 0 0] 25)) := ⟨_, rfl⟩
                      rw [← hu] at hb hnb hsz hbw hHeld ⊢
                      clear hu
                      have N4 := Lib.hid hnb
                      have X4 := Lib.hid hsz
                      clear hnb hsz
                      have B_u5134 := Lib.hid hbw
                      replace N5 := Lib.hid (N5.out.below hb)
                      replace ZC := Lib.hid (ZC.out.trans (hb.mono ZC.out.size))
                      replace ZD := Lib.hid (ZD.out.trans (hb.mono ZD.out.size))
                      clear hb hbw
                      have z0 : wd.heap.size ≤ wd.heap.size := Nat.le_refl _
                      have z1 := X5.out
                      have z2 := YC.out
                      have z3 := YD.out
                      have z4 := X4.out
                      have HLF := leaf9 (B4 := u513.heap.size) (B5 := wd.heap.size) (by omega) (by omega) (by omega) N4.out N5.out B_u5134.out HLd.out.rows RC.out FC.out ZC.out (fun h => absurd h (by omega)) (fun _ => ⟨by omega, N5C.out⟩) RD.out FD.out ZD.out (fun h => absurd h (by omega)) (fun _ => ⟨by omega, N5D.out⟩)
                      have HLF := Lib.hid HLF
                      have h4b : wd.heap.size ≤ u513.heap.size := by omega
                      have h5b : wd.heap.size ≤ wd.heap.size := by omega
                      have hne : wd.heap.size ≠ u513.heap.size := by omega
                      have n0 := N4.out.c0
                      have n1 := N4.out.c1
                      have nf0 := N4.out.f 0
                      have nf1 := N4.out.f 1
                      have HS1 : Hid (Below wd.heap.size wd ((u5134.setCell ⟨u513.heap.size, 0, none⟩ (.slice ACa (flushL l).1.length cCa)).setCell ⟨u513.heap.size, 1, none⟩ (.slice ACb (flushL l).2.length cCb))) := (B_u5134.out.setCell (p := ⟨u513.heap.size, 0, none⟩) h4b _).setCell (p := ⟨u513.heap.size, 1, none⟩) h4b _
                      have NN : Hid (NilBox wd.heap.size ((u5134.setCell ⟨u513.heap.size, 0, none⟩ (.slice ACa (flushL l).1.length cCa)).setCell ⟨u513.heap.size, 1, none⟩ (.slice ACb (flushL l).2.length cCb))) := (set2_keep _ _ _ _ _ hne).trans N5.out
                      clear z0 z1 z2 z3 z4 hne
                      refine wpAnyH_ready (rs := [6]) (by kernel_rfl) (by simp) ?_
                      refine AllReadyH.cons rfl (fun K hK => ?_) AllReadyH.nil
                      unfold LsmV
                      go_simp
                      go_wp2_with fail
                      refine hK.out _ _ HS1.out (fun hHeld => ?_)
                      clear hK K n0 n1 nf0 nf1
                      try simp only [Act.put, List.setIfInBounds_toArray, List.set_cons_zero, List.set_cons_succ]
                      have n0 := NN.out.c0
                      have n1 := NN.out.c1
                      have nf0 := NN.out.f 0
                      have nf1 := NN.out.f 1
                      refine wpAnyH_ready (rs := [7]) (by kernel_rfl) (by simp) ?_
                      refine AllReadyH.cons rfl (fun K hK => ?_) AllReadyH.nil
                      go_simp
                      go_wp2_with fail
                      refine hK.out _ _ HLF.out.2.2 (fun hHeld => ?_)
                      clear hK K
                      refine wpAnyH_done (by kernel_rfl) ?_ _
                      refine NoPanic.normal ?_
                      go_wp2_with fail
                      go_meet
                      exact ⟨_, _, _, _, _, _, _, _, _, _, _, _, _, _, rfl, rfl, Lib.hid HLF.out.1, Lib.hid HLF.out.2.1, Lib.hid (HBW.out.trans (HLF.out.2.2.mono HBW.out.size))⟩
                  · go_simp
                    have hb : Below u51.heap.size u51 (u51.alloc (.cells #[.slice none 0 0, .slice none 0 0] 25)) := (Below.refl _ _).alloc (Nat.le_refl _) _
                    have hnb := nilBox_new u51
                    have hsz : (u51.alloc (.cells #[.slice none 0 0, .slice none 0 0] 25)).heap.size = u51.heap.size + 1 := by simp
                    have hbw : Below wd.heap.size wd (u51.alloc (.cells #[.slice none 0 0, .slice none 0 0] 25)) := B_u51.out.trans (hb.mono B_u51.out.size)
                    refine hK.out _ _ hbw (fun hHeld => ?_)
                    clear hK K
                    try simp only [Act.put, List.setIfInBounds_toArray, List.set_cons_zero, List.set_cons_succ]
                    obtain ⟨u514, hu⟩ : ∃ u, u = (u51.alloc (.cells #[.slice none 0 0, .slice none 0 0] 25)) := ⟨_, rfl⟩
                    rw [← hu] at hb hnb hsz hbw hHeld ⊢
                    clear hu
                    have N4 := Lib.hid hnb
                    have X4 := Lib.hid hsz
                    clear hnb hsz
                    have B_u514 := Lib.hid hbw
                    replace N5 := Lib.hid (N5.out.below hb)
                    replace ZC := Lib.hid (ZC.out.trans (hb.mono ZC.out.size))
                    clear hb hbw
                    refine wpAnyH_ready (rs := [3]) (by kernel_rfl) (by simp) ?_
                    refine AllReadyH.cons rfl (fun K hK => ?_) (AllReadyH.nil)
                    · go_simp
                      go_at_call 19
                      refine (HCP.out u514 B_u514.out).mono ?_
                      rintro er u5143 ⟨vD, rfl, hD, bD, fD⟩
                      obtain ⟨ADa, cDa, ADb, cDb, rfl⟩ := hD.shapes
                      have RD := Lib.hid hD
                      have FD := Lib.hid fD
                      have ZD : Hid (Below u5143.heap.size u5143 u5143) := Below.refl _ _
                      have YD : Hid (u514.heap.size ≤ u5143.heap.size) := bD.size
                      have hb := bD
                      clear hD fD bD
                      have hbw : Below wd.heap.size wd u5143 := B_u514.out.trans (hb.mono B_u514.out.size)
                      go_wp2_with fail
                      refine hK.out _ _ hbw (fun hHeld => ?_)
                      clear hK K
                      try simp only [Act.put, List.setIfInBounds_toArray, List.set_cons_zero, List.set_cons_succ]
                      have B_u5143 := Lib.hid hbw
                      have N5D := Lib.hid (N5.out.below hb)
                      replace N5 := Lib.hid (N5.out.below hb)
                      have N4D := Lib.hid (N4.out.below hb)
                      replace N4 := Lib.hid (N4.out.below hb)
                      replace ZC := Lib.hid (ZC.out.trans (hb.mono ZC.out.size))
                      clear hb hbw
                      have z0 : wd.heap.size ≤ wd.heap.size := Nat.le_refl _
                      have z1 := X5.out
                      have z2 := YC.out
                      have z3 := X4.out
                      have z4 := YD.out
                      have HLF := leaf9 (B4 := u51.heap.size) (B5 := wd.heap.size) (by omega) (by omega) (by omega) N4.out N5.out B_u5143.out HLd.out.rows RC.out FC.out ZC.out (fun h => absurd h (by omega)) (fun _ => ⟨by omega, N5C.out⟩) RD.out FD.out ZD.out (fun _ => ⟨by omega, N4D.out⟩) (fun _ => ⟨by omega, N5D.out⟩)
                      have HLF := Lib.hid HLF
                      have h4b : wd.heap.size ≤ u51.heap.size := by omega
                      have h5b : wd.heap.size ≤ wd.heap.size := by omega
                      have hne : wd.heap.size ≠ u51.heap.size := by omega
                      have n0 := N4.out.c0
                      have n1 := N4.out.c1
                      have nf0 := N4.out.f 0
                      have nf1 := N4.out.f 1
                      have HS1 : Hid (Below wd.heap.size wd ((u5143.setCell ⟨u51.heap.size, 0, none⟩ (.slice ACa (flushL l).1.length cCa)).setCell ⟨u51.heap.size, 1, none⟩ (.slice ACb (flushL l).2.length cCb))) := (B_u5143.out.setCell (p := ⟨u51.heap.size, 0, none⟩) h4b _).setCell (p := ⟨u51.heap.size, 1, none⟩) h4b _
                      have NN : Hid (NilBox wd.heap.size ((u5143.setCell ⟨u51.heap.size, 0, none⟩ (.slice ACa (flushL l).1.length cCa)).setCell ⟨u51.heap.size, 1, none⟩ (.slice ACb (flushL l).2.length cCb))) := (set2_keep _ _ _ _ _ hne).trans N5.out
                      clear z0 z1 z2 z3 z4 hne
                      refine wpAnyH_ready (rs := [6]) (by kernel_rfl) (by simp) ?_
                      refine AllReadyH.cons rfl (fun K hK => ?_) AllReadyH.nil
                      unfold LsmV
                      go_simp
                      go_wp2_with fail
                      refine hK.out _ _ HS1.out (fun hHeld => ?_)
                      clear hK K n0 n1 nf0 nf1
                      try simp only [Act.put, List.setIfInBounds_toArray, List.set_cons_zero, List.set_cons_succ]
                      have n0 := NN.out.c0
                      have n1 := NN.out.c1
                      have nf0 := NN.out.f 0
                      have nf1 := NN.out.f 1
                      refine wpAnyH_ready (rs := [7]) (by kernel_rfl) (by simp) ?_
                      refine AllReadyH.cons rfl (fun K hK => ?_) AllReadyH.nil
                      go_simp
                      go_wp2_with fail
                      refine hK.out _ _ HLF.out.2.2 (fun hHeld => ?_)
                      clear hK K
                      refine wpAnyH_done (by kernel_rfl) ?_ _
                      refine NoPanic.normal ?_
                      go_wp2_with fail
                      go_meet
                      exact ⟨_, _, _, _, _, _, _, _, _, _, _, _, _, _, rfl, rfl, Lib.hid HLF.out.1, Lib.hid HLF.out.2.1, Lib.hid (HBW.out.trans (HLF.out.2.2.mono HBW.out.size))⟩
                · go_simp
                  have hb : Below u5.heap.size u5 (u5.alloc (.cells #[.slice none 0 0, .slice none 0 0] 25)) := (Below.refl _ _).alloc (Nat.le_refl _) _
                  have hnb := nilBox_new u5
                  have hsz : (u5.alloc (.cells #[.slice none 0 0, .slice none 0 0] 25)).heap.size = u5.heap.size + 1 := by simp
                  have hbw : Below wd.heap.size wd (u5.alloc (.cells #[.slice none 0 0, .slice none 0 0] 25)) := B_u5.out.trans (hb.mono B_u5.out.size)
                  refine hK.out _ _ hbw (fun hHeld => ?_)
                  clear hK K
                  try simp only [Act.put, List.setIfInBounds_toArray, List.set_cons_zero, List.set_cons_succ]
                  obtain ⟨u54, hu⟩ : ∃ u, u = (u5.alloc (.cells #[.slice none 0 0, .slice none 0 0] 25)) := ⟨_, rfl⟩
                  rw [← hu] at hb hnb hsz hbw hHeld ⊢
                  clear hu
                  have N4 := Lib.hid hnb
                  have X4 := Lib.hid hsz
                  clear hnb hsz
                  have B_u54 := Lib.hid hbw
                  replace N5 := Lib.hid (N5.out.below hb)
                  clear hb hbw
                  refine wpAnyH_ready (rs := [1]) (by kernel_rfl) (by simp) ?_
                  refine AllReadyH.cons rfl (fun K hK => ?_) (AllReadyH.nil)
                  · go_simp
                    go_at_call 18
                    refine (HCF.out u54 B_u54.out).mono ?_
                    rintro er u541 ⟨vC, rfl, hC, bC, fC⟩
                    obtain ⟨ACa, cCa, ACb, cCb, rfl⟩ := hC.shapes
                    have RC := Lib.hid hC
                    have FC := Lib.hid fC
                    have ZC : Hid (Below u541.heap.size u541 u541) := Below.refl _ _
                    have YC : Hid (u54.heap.size ≤ u541.heap.size) := bC.size
                    have hb := bC
                    clear hC fC bC
                    have hbw : Below wd.heap.size wd u541 := B_u54.out.trans (hb.mono B_u54.out.size)
                    go_wp2_with fail
                    refine hK.out _ _ hbw (fun hHeld => ?_)
                    clear hK K
                    try simp only [Act.put, List.setIfInBounds_toArray, List.set_cons_zero, List.set_cons_succ]
                    have B_u541 := Lib.hid hbw
                    have N5C := Lib.hid (N5.out.below hb)
                    replace N5 := Lib.hid (N5.out.below hb)
                    have N4C := Lib.hid (N4.out.below hb)
                    replace N4 := Lib.hid (N4.out.below hb)
                    clear hb hbw
                    refine wpAnyH_ready (rs := [3]) (by kernel_rfl) (by simp) ?_
                    refine AllReadyH.cons rfl (fun K hK => ?_) (AllReadyH.nil)
                    · go_simp
                      go_at_call 19
                      refine (HCP.out u541 B_u541.out).mono ?_
                      rintro er u5413 ⟨vD, rfl, hD, bD, fD⟩
                      obtain ⟨ADa, cDa, ADb, cDb, rfl⟩ := hD.shapes
                      have RD := Lib.hid hD
                      have FD := Lib.hid fD
                      have ZD : Hid (Below u5413.heap.size u5413 u5413) := Below.refl _ _
                      have YD : Hid (u541.heap.size ≤ u5413.heap.size) := bD.size
                      have hb := bD
                      clear hD fD bD
                      have hbw : Below wd.heap.size wd u5413 := B_u541.out.trans (hb.mono B_u541.out.size)
                      go_wp2_with fail
                      refine hK.out _ _ hbw (fun hHeld => ?_)
                      clear hK K
                      try simp only [Act.put, List.setIfInBounds_toArray, List.set_cons_zero, List.set_cons_succ]
                      have B_u5413 := Lib.hid hbw
                      have N5D := Lib.hid (N5.out.below hb)
                      replace N5 := Lib.hid (N5.out.below hb)
                      have N4D := Lib.hid (N4.out.below hb)
                      replace N4 := Lib.hid (N4.out.below hb)
                      replace ZC := Lib.hid (ZC.out.trans (hb.mono ZC.out.size))
                      clear hb hbw
                      have z0 : wd.heap.size ≤ wd.heap.size := Nat.le_refl _
                      have z1 := X5.out
                      have z2 := X4.out
                      have z3 := YC.out
                      have z4 := YD.out
                      have HLF := leaf9 (B4 := u5.heap.size) (B5 := wd.heap.size) (by omega) (by omega) (by omega) N4.out N5.out B_u5413.out HLd.out.rows RC.out FC.out ZC.out (fun _ => ⟨by omega, N4C.out⟩) (fun _ => ⟨by omega, N5C.out⟩) RD.out FD.out ZD.out (fun _ => ⟨by omega, N4D.out⟩) (fun _ => ⟨by omega, N5D.out⟩)
                      have HLF := Lib.hid HLF
                      have h4b : wd.heap.size ≤ u5.heap.size := by omega
                      have h5b : wd.heap.size ≤ wd.heap.size := by omega
                      have hne : wd.heap.size ≠ u5.heap.size := by omega
                      have n0 := N4.out.c0
                      have n1 := N4.out.c1
                      have nf0 := N4.out.f 0
                      have nf1 := N4.out.f 1
                      have HS1 : Hid (Below wd.heap.size wd ((u5413.setCell ⟨u5.heap.size, 0, none⟩ (.slice ACa (flushL l).1.length cCa)).setCell ⟨u5.heap.size, 1, none⟩ (.slice ACb (flushL l).2.length cCb))) := (B_u5413.out.setCell (p := ⟨u5.heap.size, 0, none⟩) h4b _).setCell (p := ⟨u5.heap.size, 1, none⟩) h4b _
                      have NN : Hid (NilBox wd.heap.size ((u5413.setCell ⟨u5.heap.size, 0, none⟩ (.slice ACa (flushL l).1.length cCa)).setCell ⟨u5.heap.size, 1, none⟩ (.slice ACb (flushL l).2.length cCb))) := (set2_keep _ _ _ _ _ hne).trans N5.out
                      clear z0 z1 z2 z3 z4 hne
                      refine wpAnyH_ready (rs := [6]) (by kernel_rfl) (by simp) ?_
                      refine AllReadyH.cons rfl (fun K hK => ?_) AllReadyH.nil
                      unfold LsmV
                      go_simp
                      go_wp2_with fail
                      refine hK.out _ _ HS1.out (fun hHeld => ?_)
                      clear hK K n0 n1 nf0 nf1
                      try simp only [Act.put, List.setIfInBounds_toArray, List.set_cons_zero, List.set_cons_succ]
                      have n0 := NN.out.c0
                      have n1 := NN.out.c1
                      have nf0 := NN.out.f 0
                      have nf1 := NN.out.f 1
                      refine wpAnyH_ready (rs := [7]) (by kernel_rfl) (by simp) ?_
                      refine AllReadyH.cons rfl (fun K hK => ?_) AllReadyH.nil
                      go_simp
                      go_wp2_with fail
                      refine hK.out _ _ HLF.out.2.2 (fun hHeld => ?_)
                      clear hK K
                      refine wpAnyH_done (by kernel_rfl) ?_ _
                      refine NoPanic.normal ?_
                      go_wp2_with fail
                      go_meet
                      exact ⟨_, _, _, _, _, _, _, _, _, _, _, _, _, _, rfl, rfl, Lib.hid HLF.out.1, Lib.hid HLF.out.2.1, Lib.hid (HBW.out.trans (HLF.out.2.2.mono HBW.out.size))⟩
            case rest =>
              obtain ⟨B13, B14, A9, m9, c9, A10, m10, c10, A11, m11, c11, A12, m12, c12, rfl, rfl, HC, HD, HBx⟩ := hcut
              obtain ⟨w9, rfl⟩ : ∃ w9 : World, w9 = wc := ⟨_, rfl⟩
              replace HL := Lib.hid (HL.out.below HBx.out)
              replace HA := Lib.hid (HA.out.below HBx.out)
              replace HB := Lib.hid (HB.out.below HBx.out)
              replace LOW := Lib.hid (LOW.out.trans (HBx.out.mono LOW.out.size))
              clear hbd HLd HBx HM HW8 HW6 HWE lt5 lt7
              have HSF : Hid (fitP sp.1 ∧ sizeS sp.1 ≤ 151) := by
                have := put_fit HFP.out key n
                rw [← HSP.out] at this
                exact ⟨this.1, by have := HFL.out; omega⟩
              have HFF := Lib.hid (flush_fit HFP.out)
              have HPF := Lib.hid (pack_fit HFP.out)
              clear HSP
              have hbd : Below w9.heap.size w9 w9.drew := below_drewN w9 1
              have HLd : Hid (BoxV w.heap.size (.slice A1 n1 c1) (.slice A2 n2 c2) l w9.drew) := HL.out.below hbd
              have HAd : Hid (BoxV w5.heap.size (.slice A5 m5 c5) (.slice A6 m6 c6) sp.1 w9.drew) := HA.out.below hbd
              have HBd : Hid (BoxV w7.heap.size (.slice A7 m7 c7) (.slice A8 m8 c8) sp.1 w9.drew) := HB.out.below hbd
              have HCd : Hid (BoxV B13 (.slice A9 m9 c9) (.slice A10 m10 c10) (flushL l) w9.drew) := HC.out.below hbd
              have HDd : Hid (BoxV B14 (.slice A11 m11 c11) (.slice A12 m12 c12) (packL l) w9.drew) := HD.out.below hbd
              have LOWd : Hid (Below w.heap.size w w9.drew) := LOW.out.trans (hbd.mono LOW.out.size)
              go_wp2_with fail
              refine wp_region_noPanic ?_
              refine wp_region_held_drew (S := fun w' => Below w9.drew.heap.size w9.drew w') (by kernel_rfl) (Below.refl _ _) (fun hHeld => ?_)
              clear HL HA HB HC HD LOW hbd
              generalize w9.drew = wd at *
              have B_wd : Hid (Below wd.heap.size wd wd) := Below.refl _ _
              have GL : Hid (∀ w', Below wd.heap.size wd w' → w'.cell? ⟨w.heap.size, 0, none⟩ = some (.slice A1 n1 c1) ∧ w'.cell? ⟨w.heap.size, 1, none⟩ = some (.slice A2 n2 c2)) := fun w' hb => ⟨(HLd.out.below hb).c0, (HLd.out.below hb).c1⟩
              have GA : Hid (∀ w', Below wd.heap.size wd w' → w'.cell? ⟨w5.heap.size, 0, none⟩ = some (.slice A5 m5 c5) ∧ w'.cell? ⟨w5.heap.size, 1, none⟩ = some (.slice A6 m6 c6)) := fun w' hb => ⟨(HAd.out.below hb).c0, (HAd.out.below hb).c1⟩
              have GB : Hid (∀ w', Below wd.heap.size wd w' → w'.cell? ⟨w7.heap.size, 0, none⟩ = some (.slice A7 m7 c7) ∧ w'.cell? ⟨w7.heap.size, 1, none⟩ = some (.slice A8 m8 c8)) := fun w' hb => ⟨(HBd.out.below hb).c0, (HBd.out.below hb).c1⟩
              have GC : Hid (∀ w', Below wd.heap.size wd w' → w'.cell? ⟨B13, 0, none⟩ = some (.slice A9 m9 c9) ∧ w'.cell? ⟨B13, 1, none⟩ = some (.slice A10 m10 c10)) := fun w' hb => ⟨(HCd.out.below hb).c0, (HCd.out.below hb).c1⟩
              have GD : Hid (∀ w', Below wd.heap.size wd w' → w'.cell? ⟨B14, 0, none⟩ = some (.slice A11 m11 c11) ∧ w'.cell? ⟨B14, 1, none⟩ = some (.slice A12 m12 c12)) := fun w' hb => ⟨(HDd.out.below hb).c0, (HDd.out.below hb).c1⟩
              refine wpAnyH_take (i := 0) (v := .agg #[.slice A5 m5 c5, .slice A6 m6 c6]) rfl (by kernel_rfl) (by kernel_rfl) (by kernel_rfl) (fun _ _ _ h => h) (Or.inl ⟨by kernel_rfl, ?_⟩) (by assumption) ?_
              · intro wz hSw
                obtain ⟨hh, hg⟩ := GA.out wz hSw
                go_simp
              try simp only [Act.put, List.setIfInBounds_toArray, List.set_cons_zero, List.set_cons_succ]
              refine wpAnyH_take (i := 1) (v := .agg #[.slice A7 m7 c7, .slice A8 m8 c8]) rfl (by kernel_rfl) (by kernel_rfl) (by kernel_rfl) (fun _ _ _ h => h) (Or.inl ⟨by kernel_rfl, ?_⟩) (by assumption) ?_
              · intro wz hSw
                obtain ⟨hh, hg⟩ := GB.out wz hSw
                go_simp
              try simp only [Act.put, List.setIfInBounds_toArray, List.set_cons_zero, List.set_cons_succ]
              have CC := Lib.hid (rSame_any wd _ _ sp.1 sp.1 (HAd.out.below B_wd.out).rows (HBd.out.below B_wd.out).rows)
              unfold LsmV at CC
              rw [(sameB_iff sp.1 sp.1).2 rfl] at CC
              refine wpAnyH_ready (rs := [2]) (by kernel_rfl) (by simp) ?_
              refine AllReadyH.cons rfl (fun K hK => ?_) AllReadyH.nil
              go_simp
              go_at_call 11
              refine CC.out.mono ?_
              rintro er x2 ⟨rfl, b1⟩
              have B_x2 : Hid (Below wd.heap.size wd x2) := Lib.hid (B_wd.out.trans (b1.mono B_wd.out.size))
              have b_x2 := Lib.hid b1
              clear b1
              clear CC
              go_wp2_with fail
              refine hK.out _ _ B_x2.out (fun hHeld => ?_)
              clear hK K
              try simp only [Act.put, List.setIfInBounds_toArray, List.set_cons_zero, List.set_cons_succ]
              refine wpAnyH_take (i := 3) (v := .bool true) rfl (by kernel_rfl) (by kernel_rfl) (by kernel_rfl) (fun _ _ _ h => h) (Or.inl ⟨by kernel_rfl, ?_⟩) (by assumption) ?_
              · intro wz hSw
                go_simp
              try simp only [Act.put, List.setIfInBounds_toArray, List.set_cons_zero, List.set_cons_succ]
              refine wpAnyH_take (i := 4) (v := .int .i64 sp.2) rfl (by kernel_rfl) (by kernel_rfl) (by kernel_rfl) (fun _ _ _ h => h) (Or.inl ⟨by kernel_rfl, ?_⟩) (by assumption) ?_
              · intro wz hSw
                go_simp
              try simp only [Act.put, List.setIfInBounds_toArray, List.set_cons_zero, List.set_cons_succ]
              refine wpAnyH_take (i := 5) (v := .int .i64 sp.2) rfl (by kernel_rfl) (by kernel_rfl) (by kernel_rfl) (fun _ _ _ h => h) (Or.inl ⟨by kernel_rfl, ?_⟩) (by assumption) ?_
              · intro wz hSw
                go_simp
              try simp only [Act.put, List.setIfInBounds_toArray, List.set_cons_zero, List.set_cons_succ]
              refine wpAnyH_take (i := 6) (v := .bool true) rfl (by kernel_rfl) (by kernel_rfl) (by kernel_rfl) (fun _ _ _ h => h) (Or.inl ⟨by kernel_rfl, ?_⟩) (by assumption) ?_
              · intro wz hSw
                go_simp
              try simp only [Act.put, List.setIfInBounds_toArray, List.set_cons_zero, List.set_cons_succ]
              refine wpAnyH_take (i := 7) (v := .bool true) rfl (by kernel_rfl) (by kernel_rfl) (by kernel_rfl) (fun _ _ _ h => h) (Or.inl ⟨by kernel_rfl, ?_⟩) (by assumption) ?_
              · intro wz hSw
                go_simp
              try simp only [Act.put, List.setIfInBounds_toArray, List.set_cons_zero, List.set_cons_succ]
              refine wpAnyH_take (i := 8) (v := .bool true) rfl (by kernel_rfl) (by kernel_rfl) (by kernel_rfl) (fun _ _ _ h => h) (Or.inl ⟨by kernel_rfl, ?_⟩) (by assumption) ?_
              · intro wz hSw
                go_simp
              try simp only [Act.put, List.setIfInBounds_toArray, List.set_cons_zero, List.set_cons_succ]
              refine wpAnyH_take (i := 9) (v := .agg #[.slice A9 m9 c9, .slice A10 m10 c10]) rfl (by kernel_rfl) (by kernel_rfl) (by kernel_rfl) (fun _ _ _ h => h) (Or.inl ⟨by kernel_rfl, ?_⟩) (by assumption) ?_
              · intro wz hSw
                obtain ⟨hh, hg⟩ := GC.out wz hSw
                go_simp
              try simp only [Act.put, List.setIfInBounds_toArray, List.set_cons_zero, List.set_cons_succ]
              refine wpAnyH_take (i := 10) (v := .agg #[.slice A1 n1 c1, .slice A2 n2 c2]) rfl (by kernel_rfl) (by kernel_rfl) (by kernel_rfl) (fun _ _ _ h => h) (Or.inl ⟨by kernel_rfl, ?_⟩) (by assumption) ?_
              · intro wz hSw
                obtain ⟨hh, hg⟩ := GL.out wz hSw
                go_simp
              try simp only [Act.put, List.setIfInBounds_toArray, List.set_cons_zero, List.set_cons_succ]
              have CC := Lib.hid (rflush_any x2 _ l (HLd.out.below B_x2.out).rows HFP.out.1 (by have := HFL.out; omega) (by have := HFL.out; omega))
              unfold LsmV at CC
              refine wpAnyH_ready (rs := [11]) (by kernel_rfl) (by simp) ?_
              refine AllReadyH.cons rfl (fun K hK => ?_) AllReadyH.nil
              go_simp
              go_at_call 20
              refine CC.out.mono ?_
              rintro er x11 ⟨vR, rfl, hR, b1⟩
              have B_x11 : Hid (Below wd.heap.size wd x11) := Lib.hid (B_x2.out.trans (b1.mono B_x2.out.size))
              have b_x11 := Lib.hid b1
              clear b1
              clear CC
              obtain ⟨Ra, Rb, Rc, Rd, rfl⟩ := hR.shapes
              have HR := Lib.hid hR
              clear hR
              unfold LsmV
              go_wp2_with fail
              refine hK.out _ _ B_x11.out (fun hHeld => ?_)
              clear hK K
              try simp only [Act.put, List.setIfInBounds_toArray, List.set_cons_zero, List.set_cons_succ]
              have CC := Lib.hid (rSame_any x11 _ _ (flushL l) (flushL l) (HCd.out.below B_x11.out).rows HR.out)
              unfold LsmV at CC
              rw [(sameB_iff (flushL l) (flushL l)).2 rfl] at CC
              refine wpAnyH_ready (rs := [12]) (by kernel_rfl) (by simp) ?_
              refine AllReadyH.cons rfl (fun K hK => ?_) AllReadyH.nil
              go_simp
              go_at_call 11
              refine CC.out.mono ?_
              rintro er x12 ⟨rfl, b1⟩
              have B_x12 : Hid (Below wd.heap.size wd x12) := Lib.hid (B_x11.out.trans (b1.mono B_x11.out.size))
              have b_x12 := Lib.hid b1
              clear b1
              clear CC
              go_wp2_with fail
              refine hK.out _ _ B_x12.out (fun hHeld => ?_)
              clear hK K
              try simp only [Act.put, List.setIfInBounds_toArray, List.set_cons_zero, List.set_cons_succ]
              clear HR
              refine wpAnyH_take (i := 13) (v := .bool true) rfl (by kernel_rfl) (by kernel_rfl) (by kernel_rfl) (fun _ _ _ h => h) (Or.inl ⟨by kernel_rfl, ?_⟩) (by assumption) ?_
              · intro wz hSw
                go_simp
              try simp only [Act.put, List.setIfInBounds_toArray, List.set_cons_zero, List.set_cons_succ]
              refine wpAnyH_take (i := 14) (v := .bool true) rfl (by kernel_rfl) (by kernel_rfl) (by kernel_rfl) (fun _ _ _ h => h) (Or.inl ⟨by kernel_rfl, ?_⟩) (by assumption) ?_
              · intro wz hSw
                go_simp
              try simp only [Act.put, List.setIfInBounds_toArray, List.set_cons_zero, List.set_cons_succ]
              refine wpAnyH_take (i := 15) (v := .agg #[.slice A11 m11 c11, .slice A12 m12 c12]) rfl (by kernel_rfl) (by kernel_rfl) (by kernel_rfl) (fun _ _ _ h => h) (Or.inl ⟨by kernel_rfl, ?_⟩) (by assumption) ?_
              · intro wz hSw
                obtain ⟨hh, hg⟩ := GD.out wz hSw
                go_simp
              try simp only [Act.put, List.setIfInBounds_toArray, List.set_cons_zero, List.set_cons_succ]
              refine wpAnyH_take (i := 16) (v := .agg #[.slice A1 n1 c1, .slice A2 n2 c2]) rfl (by kernel_rfl) (by kernel_rfl) (by kernel_rfl) (fun _ _ _ h => h) (Or.inl ⟨by kernel_rfl, ?_⟩) (by assumption) ?_
              · intro wz hSw
                obtain ⟨hh, hg⟩ := GL.out wz hSw
                go_simp
              try simp only [Act.put, List.setIfInBounds_toArray, List.set_cons_zero, List.set_cons_succ]
              have CC := Lib.hid (rpack_any x12 _ l (HLd.out.below B_x12.out).rows HFP.out.1 (by have := HFL.out; omega) (by have := HFL.out; omega))
              unfold LsmV at CC
              refine wpAnyH_ready (rs := [17]) (by kernel_rfl) (by simp) ?_
              refine AllReadyH.cons rfl (fun K hK => ?_) AllReadyH.nil
              go_simp
              go_at_call 21
              refine CC.out.mono ?_
              rintro er x17 ⟨vR, rfl, hR, b1⟩
              have B_x17 : Hid (Below wd.heap.size wd x17) := Lib.hid (B_x12.out.trans (b1.mono B_x12.out.size))
              have b_x17 := Lib.hid b1
              clear b1
              clear CC
              obtain ⟨Ra, Rb, Rc, Rd, rfl⟩ := hR.shapes
              have HR := Lib.hid hR
              clear hR
              unfold LsmV
              go_wp2_with fail
              refine hK.out _ _ B_x17.out (fun hHeld => ?_)
              clear hK K
              try simp only [Act.put, List.setIfInBounds_toArray, List.set_cons_zero, List.set_cons_succ]
              have CC := Lib.hid (rSame_any x17 _ _ (packL l) (packL l) (HDd.out.below B_x17.out).rows HR.out)
              unfold LsmV at CC
              rw [(sameB_iff (packL l) (packL l)).2 rfl] at CC
              refine wpAnyH_ready (rs := [18]) (by kernel_rfl) (by simp) ?_
              refine AllReadyH.cons rfl (fun K hK => ?_) AllReadyH.nil
              go_simp
              go_at_call 11
              refine CC.out.mono ?_
              rintro er x18 ⟨rfl, b1⟩
              have B_x18 : Hid (Below wd.heap.size wd x18) := Lib.hid (B_x17.out.trans (b1.mono B_x17.out.size))
              have b_x18 := Lib.hid b1
              clear b1
              clear CC
              go_wp2_with fail
              refine hK.out _ _ B_x18.out (fun hHeld => ?_)
              clear hK K
              try simp only [Act.put, List.setIfInBounds_toArray, List.set_cons_zero, List.set_cons_succ]
              clear HR
              refine wpAnyH_take (i := 19) (v := .bool true) rfl (by kernel_rfl) (by kernel_rfl) (by kernel_rfl) (fun _ _ _ h => h) (Or.inl ⟨by kernel_rfl, ?_⟩) (by assumption) ?_
              · intro wz hSw
                go_simp
              try simp only [Act.put, List.setIfInBounds_toArray, List.set_cons_zero, List.set_cons_succ]
              refine wpAnyH_take (i := 20) (v := .bool true) rfl (by kernel_rfl) (by kernel_rfl) (by kernel_rfl) (fun _ _ _ h => h) (Or.inl ⟨by kernel_rfl, ?_⟩) (by assumption) ?_
              · intro wz hSw
                go_simp
              try simp only [Act.put, List.setIfInBounds_toArray, List.set_cons_zero, List.set_cons_succ]
              refine wpAnyH_take (i := 21) (v := .agg #[.slice A1 n1 c1, .slice A2 n2 c2]) rfl (by kernel_rfl) (by kernel_rfl) (by kernel_rfl) (fun _ _ _ h => h) (Or.inl ⟨by kernel_rfl, ?_⟩) (by assumption) ?_
              · intro wz hSw
                obtain ⟨hh, hg⟩ := GL.out wz hSw
                go_simp
              try simp only [Act.put, List.setIfInBounds_toArray, List.set_cons_zero, List.set_cons_succ]
              refine wpAnyH_take (i := 22) (v := .string key) rfl (by kernel_rfl) (by kernel_rfl) (by kernel_rfl) (fun _ _ _ h => h) (Or.inl ⟨by kernel_rfl, ?_⟩) (by assumption) ?_
              · intro wz hSw
                go_simp
              try simp only [Act.put, List.setIfInBounds_toArray, List.set_cons_zero, List.set_cons_succ]
              refine wpAnyH_take (i := 24) (v := .agg #[.slice A1 n1 c1, .slice A2 n2 c2]) rfl (by kernel_rfl) (by kernel_rfl) (by kernel_rfl) (fun _ _ _ h => h) (Or.inl ⟨by kernel_rfl, ?_⟩) (by assumption) ?_
              · intro wz hSw
                obtain ⟨hh, hg⟩ := GL.out wz hSw
                go_simp
              try simp only [Act.put, List.setIfInBounds_toArray, List.set_cons_zero, List.set_cons_succ]
              refine wpAnyH_take (i := 25) (v := .string key) rfl (by kernel_rfl) (by kernel_rfl) (by kernel_rfl) (fun _ _ _ h => h) (Or.inl ⟨by kernel_rfl, ?_⟩) (by assumption) ?_
              · intro wz hSw
                go_simp
              try simp only [Act.put, List.setIfInBounds_toArray, List.set_cons_zero, List.set_cons_succ]
              generalize hgl : getL l.1 l.2 key = gl at *
              have HGL := Lib.hid hgl
              clear hgl
              have VV := Lib.hid ((HLd.out.below B_x18.out).rows.vals)
              have CC := Lib.hid (pGet_any x18 _ _ l.1 l.2 key VV.out.1 VV.out.2 (fun r hr => by rcases List.mem_cons.1 hr with rfl | hr; exact HFP.out.1.1; exact (HFP.out.1.2.1 r hr).2) (by have := HFL.out; unfold sizeS at this; omega) (by have := HFL.out; omega))
              unfold LsmV at CC
              rw [HGL.out] at CC
              refine wpAnyH_ready (rs := [23]) (by kernel_rfl) (by simp) ?_
              refine AllReadyH.cons rfl (fun K hK => ?_) AllReadyH.nil
              go_simp
              go_at_call 22
              refine CC.out.mono ?_
              rintro er x23 ⟨rfl, b1⟩
              have B_x23 : Hid (Below wd.heap.size wd x23) := Lib.hid (B_x18.out.trans (b1.mono B_x18.out.size))
              have b_x23 := Lib.hid b1
              clear b1
              clear CC
              go_wp2_with fail
              refine hK.out _ _ B_x23.out (fun hHeld => ?_)
              clear hK K
              try simp only [Act.put, List.setIfInBounds_toArray, List.set_cons_zero, List.set_cons_succ]
              clear VV
              have VV := Lib.hid ((HLd.out.below B_x23.out).rows.vals)
              have CC := Lib.hid (rGet_any x23 _ _ l.1 l.2 key VV.out.1.1 VV.out.2.1 (by have := HFL.out; unfold sizeS at this; omega) (fun r hr => by have := total_mem hr; have := HFL.out; unfold sizeS at this; omega) (by have := HFL.out; omega) (fun r hr => by rcases List.mem_cons.1 hr with rfl | hr; exact inL_bound2 HFP.out.1.1 key; exact inL_bound2 (HFP.out.1.2.1 r hr).2 key))
              unfold LsmV at CC
              rw [HGL.out] at CC
              refine wpAnyH_ready (rs := [26]) (by kernel_rfl) (by simp) ?_
              refine AllReadyH.cons rfl (fun K hK => ?_) AllReadyH.nil
              go_simp
              go_at_call 23
              refine CC.out.mono ?_
              rintro er x26 ⟨rfl, b1⟩
              have B_x26 : Hid (Below wd.heap.size wd x26) := Lib.hid (B_x23.out.trans (b1.mono B_x23.out.size))
              have b_x26 := Lib.hid b1
              clear b1
              clear CC
              go_wp2_with fail
              refine hK.out _ _ B_x26.out (fun hHeld => ?_)
              clear hK K
              try simp only [Act.put, List.setIfInBounds_toArray, List.set_cons_zero, List.set_cons_succ]
              clear VV
              refine wpAnyH_take (i := 27) (v := .bool true) rfl (by kernel_rfl) (by kernel_rfl) (by kernel_rfl) (fun _ _ _ h => h) (Or.inl ⟨by kernel_rfl, ?_⟩) (by assumption) ?_
              · intro wz hSw
                go_simp
              try simp only [Act.put, List.setIfInBounds_toArray, List.set_cons_zero, List.set_cons_succ]
              refine wpAnyH_take (i := 28) (v := .bool true) rfl (by kernel_rfl) (by kernel_rfl) (by kernel_rfl) (fun _ _ _ h => h) (Or.inl ⟨by kernel_rfl, ?_⟩) (by assumption) ?_
              · intro wz hSw
                go_simp
              try simp only [Act.put, List.setIfInBounds_toArray, List.set_cons_zero, List.set_cons_succ]
              refine wpAnyH_take (i := 29) (v := .bool true) rfl (by kernel_rfl) (by kernel_rfl) (by kernel_rfl) (fun _ _ _ h => h) (Or.inl ⟨by kernel_rfl, ?_⟩) (by assumption) ?_
              · intro wz hSw
                go_simp
              try simp only [Act.put, List.setIfInBounds_toArray, List.set_cons_zero, List.set_cons_succ]
              refine wpAnyH_take (i := 30) (v := .agg #[.slice A1 n1 c1, .slice A2 n2 c2]) rfl (by kernel_rfl) (by kernel_rfl) (by kernel_rfl) (fun _ _ _ h => h) (Or.inl ⟨by kernel_rfl, ?_⟩) (by assumption) ?_
              · intro wz hSw
                obtain ⟨hh, hg⟩ := GL.out wz hSw
                go_simp
              try simp only [Act.put, List.setIfInBounds_toArray, List.set_cons_zero, List.set_cons_succ]
              refine wpAnyH_take (i := 32) (v := .agg #[.slice A1 n1 c1, .slice A2 n2 c2]) rfl (by kernel_rfl) (by kernel_rfl) (by kernel_rfl) (fun _ _ _ h => h) (Or.inl ⟨by kernel_rfl, ?_⟩) (by assumption) ?_
              · intro wz hSw
                obtain ⟨hh, hg⟩ := GL.out wz hSw
                go_simp
              try simp only [Act.put, List.setIfInBounds_toArray, List.set_cons_zero, List.set_cons_succ]
              have CC := Lib.hid (pAll_any x26 _ l (HLd.out.below B_x26.out).rows HFP.out.1 (by have := HFL.out; omega) (by have := HFL.out; omega))
              unfold LsmV at CC
              refine wpAnyH_ready (rs := [31]) (by kernel_rfl) (by simp) ?_
              refine AllReadyH.cons rfl (fun K hK => ?_) AllReadyH.nil
              go_simp
              go_at_call 25
              refine CC.out.mono ?_
              rintro er x31 ⟨vR, rfl, hR, b1⟩
              have B_x31 : Hid (Below wd.heap.size wd x31) := Lib.hid (B_x26.out.trans (b1.mono B_x26.out.size))
              have b_x31 := Lib.hid b1
              clear b1
              clear CC
              have HR := Lib.hid hR
              obtain ⟨Ra, Rb, rfl, zr⟩ := hR.1.shape
              clear hR zr
              go_wp2_with fail
              refine hK.out _ _ B_x31.out (fun hHeld => ?_)
              clear hK K
              try simp only [Act.put, List.setIfInBounds_toArray, List.set_cons_zero, List.set_cons_succ]
              have CC := Lib.hid (rAll_any x31 _ l (HLd.out.below B_x31.out).rows HFP.out.1 (by have := HFL.out; omega) (by have := HFL.out; omega))
              unfold LsmV at CC
              refine wpAnyH_ready (rs := [33]) (by kernel_rfl) (by simp) ?_
              refine AllReadyH.cons rfl (fun K hK => ?_) AllReadyH.nil
              go_simp
              go_at_call 26
              refine CC.out.mono ?_
              rintro er x33 ⟨vQ, rfl, hQ, b1⟩
              have B_x33 : Hid (Below wd.heap.size wd x33) := Lib.hid (B_x31.out.trans (b1.mono B_x31.out.size))
              have b_x33 := Lib.hid b1
              clear b1
              clear CC
              have HR2 := Lib.hid (HR.out.below b_x33.out (Nat.le_refl _))
              have HQ := Lib.hid hQ
              obtain ⟨Rc, Rd, rfl, zr⟩ := hQ.1.shape
              clear hQ zr HR
              go_wp2_with fail
              refine hK.out _ _ B_x33.out (fun hHeld => ?_)
              clear hK K
              try simp only [Act.put, List.setIfInBounds_toArray, List.set_cons_zero, List.set_cons_succ]
              have hrr : rowE (allL l) (allL l) = true := by simp [rowE]
              have CS := Lib.hid (samerow_any x33 _ _ (allL l) (allL l) HR2.out.1 HQ.out.1)
              rw [hrr] at CS
              clear hrr
              refine wpAnyH_ready (rs := [34]) (by kernel_rfl) (by simp) ?_
              refine AllReadyH.cons rfl (fun K hK => ?_) AllReadyH.nil
              go_simp
              go_at_call 24
              refine CS.out.mono ?_
              rintro er x34 ⟨rfl, b1⟩
              have B_x34 : Hid (Below wd.heap.size wd x34) := Lib.hid (B_x33.out.trans (b1.mono B_x33.out.size))
              have b_x34 := Lib.hid b1
              clear b1
              go_wp2_with fail
              refine hK.out _ _ B_x34.out (fun hHeld => ?_)
              clear hK K
              try simp only [Act.put, List.setIfInBounds_toArray, List.set_cons_zero, List.set_cons_succ]
              clear CS HR2 HQ
              refine wpAnyH_take (i := 35) (v := .bool true) rfl (by kernel_rfl) (by kernel_rfl) (by kernel_rfl) (fun _ _ _ h => h) (Or.inl ⟨by kernel_rfl, ?_⟩) (by assumption) ?_
              · intro wz hSw
                go_simp
              try simp only [Act.put, List.setIfInBounds_toArray, List.set_cons_zero, List.set_cons_succ]
              refine wpAnyH_take (i := 36) (v := .bool true) rfl (by kernel_rfl) (by kernel_rfl) (by kernel_rfl) (fun _ _ _ h => h) (Or.inl ⟨by kernel_rfl, ?_⟩) (by assumption) ?_
              · intro wz hSw
                go_simp
              try simp only [Act.put, List.setIfInBounds_toArray, List.set_cons_zero, List.set_cons_succ]
              refine wpAnyH_take (i := 37) (v := .agg #[.slice A5 m5 c5, .slice A6 m6 c6]) rfl (by kernel_rfl) (by kernel_rfl) (by kernel_rfl) (fun _ _ _ h => h) (Or.inl ⟨by kernel_rfl, ?_⟩) (by assumption) ?_
              · intro wz hSw
                obtain ⟨hh, hg⟩ := GA.out wz hSw
                go_simp
              try simp only [Act.put, List.setIfInBounds_toArray, List.set_cons_zero, List.set_cons_succ]
              have CC := Lib.hid (rfit2_any x34 _ (sp.1) (HAd.out.below B_x34.out).rows (by have := HSF.out.2; omega) (by have := HSF.out.1.2.2; omega))
              unfold LsmV at CC
              rw [fitB_of HSF.out.1 (by have := HSF.out.2; omega)] at CC
              refine wpAnyH_ready (rs := [38]) (by kernel_rfl) (by simp) ?_
              refine AllReadyH.cons rfl (fun K hK => ?_) AllReadyH.nil
              go_simp
              go_at_call 14
              refine CC.out.mono ?_
              rintro er x38 ⟨rfl, b1⟩
              have B_x38 : Hid (Below wd.heap.size wd x38) := Lib.hid (B_x34.out.trans (b1.mono B_x34.out.size))
              have b_x38 := Lib.hid b1
              clear b1
              clear CC
              go_wp2_with fail
              refine hK.out _ _ B_x38.out (fun hHeld => ?_)
              clear hK K
              try simp only [Act.put, List.setIfInBounds_toArray, List.set_cons_zero, List.set_cons_succ]
              refine wpAnyH_take (i := 39) (v := .bool true) rfl (by kernel_rfl) (by kernel_rfl) (by kernel_rfl) (fun _ _ _ h => h) (Or.inl ⟨by kernel_rfl, ?_⟩) (by assumption) ?_
              · intro wz hSw
                go_simp
              try simp only [Act.put, List.setIfInBounds_toArray, List.set_cons_zero, List.set_cons_succ]
              refine wpAnyH_take (i := 40) (v := .bool true) rfl (by kernel_rfl) (by kernel_rfl) (by kernel_rfl) (fun _ _ _ h => h) (Or.inl ⟨by kernel_rfl, ?_⟩) (by assumption) ?_
              · intro wz hSw
                go_simp
              try simp only [Act.put, List.setIfInBounds_toArray, List.set_cons_zero, List.set_cons_succ]
              refine wpAnyH_take (i := 41) (v := .agg #[.slice A9 m9 c9, .slice A10 m10 c10]) rfl (by kernel_rfl) (by kernel_rfl) (by kernel_rfl) (fun _ _ _ h => h) (Or.inl ⟨by kernel_rfl, ?_⟩) (by assumption) ?_
              · intro wz hSw
                obtain ⟨hh, hg⟩ := GC.out wz hSw
                go_simp
              try simp only [Act.put, List.setIfInBounds_toArray, List.set_cons_zero, List.set_cons_succ]
              have CC := Lib.hid (rfit2_any x38 _ (flushL l) (HCd.out.below B_x38.out).rows (by have := HFF.out.2; have := HFL.out; omega) (by have := HFF.out.1.2.2; omega))
              unfold LsmV at CC
              rw [fitB_of HFF.out.1 (by have := HFF.out.2; have := HFL.out; omega)] at CC
              refine wpAnyH_ready (rs := [42]) (by kernel_rfl) (by simp) ?_
              refine AllReadyH.cons rfl (fun K hK => ?_) AllReadyH.nil
              go_simp
              go_at_call 14
              refine CC.out.mono ?_
              rintro er x42 ⟨rfl, b1⟩
              have B_x42 : Hid (Below wd.heap.size wd x42) := Lib.hid (B_x38.out.trans (b1.mono B_x38.out.size))
              have b_x42 := Lib.hid b1
              clear b1
              clear CC
              go_wp2_with fail
              refine hK.out _ _ B_x42.out (fun hHeld => ?_)
              clear hK K
              try simp only [Act.put, List.setIfInBounds_toArray, List.set_cons_zero, List.set_cons_succ]
              refine wpAnyH_take (i := 43) (v := .bool true) rfl (by kernel_rfl) (by kernel_rfl) (by kernel_rfl) (fun _ _ _ h => h) (Or.inl ⟨by kernel_rfl, ?_⟩) (by assumption) ?_
              · intro wz hSw
                go_simp
              try simp only [Act.put, List.setIfInBounds_toArray, List.set_cons_zero, List.set_cons_succ]
              refine wpAnyH_take (i := 44) (v := .bool true) rfl (by kernel_rfl) (by kernel_rfl) (by kernel_rfl) (fun _ _ _ h => h) (Or.inl ⟨by kernel_rfl, ?_⟩) (by assumption) ?_
              · intro wz hSw
                go_simp
              try simp only [Act.put, List.setIfInBounds_toArray, List.set_cons_zero, List.set_cons_succ]
              refine wpAnyH_take (i := 45) (v := .agg #[.slice A11 m11 c11, .slice A12 m12 c12]) rfl (by kernel_rfl) (by kernel_rfl) (by kernel_rfl) (fun _ _ _ h => h) (Or.inl ⟨by kernel_rfl, ?_⟩) (by assumption) ?_
              · intro wz hSw
                obtain ⟨hh, hg⟩ := GD.out wz hSw
                go_simp
              try simp only [Act.put, List.setIfInBounds_toArray, List.set_cons_zero, List.set_cons_succ]
              have CC := Lib.hid (rfit2_any x42 _ (packL l) (HDd.out.below B_x42.out).rows (by have := HPF.out.2; have := HFL.out; omega) (by have := HPF.out.1.2.2; omega))
              unfold LsmV at CC
              rw [fitB_of HPF.out.1 (by have := HPF.out.2; have := HFL.out; omega)] at CC
              refine wpAnyH_ready (rs := [46]) (by kernel_rfl) (by simp) ?_
              refine AllReadyH.cons rfl (fun K hK => ?_) AllReadyH.nil
              go_simp
              go_at_call 14
              refine CC.out.mono ?_
              rintro er x46 ⟨rfl, b1⟩
              have B_x46 : Hid (Below wd.heap.size wd x46) := Lib.hid (B_x42.out.trans (b1.mono B_x42.out.size))
              have b_x46 := Lib.hid b1
              clear b1
              clear CC
              go_wp2_with fail
              refine hK.out _ _ B_x46.out (fun hHeld => ?_)
              clear hK K
              try simp only [Act.put, List.setIfInBounds_toArray, List.set_cons_zero, List.set_cons_succ]
              refine wpAnyH_take (i := 47) (v := .bool true) rfl (by kernel_rfl) (by kernel_rfl) (by kernel_rfl) (fun _ _ _ h => h) (Or.inl ⟨by kernel_rfl, ?_⟩) (by assumption) ?_
              · intro wz hSw
                go_simp
              try simp only [Act.put, List.setIfInBounds_toArray, List.set_cons_zero, List.set_cons_succ]
              refine wpAnyH_take (i := 48) (v := .bool true) rfl (by kernel_rfl) (by kernel_rfl) (by kernel_rfl) (fun _ _ _ h => h) (Or.inl ⟨by kernel_rfl, ?_⟩) (by assumption) ?_
              · intro wz hSw
                go_simp
              try simp only [Act.put, List.setIfInBounds_toArray, List.set_cons_zero, List.set_cons_succ]
              have CA := Lib.hid (awake_any x46)
              refine wpAnyH_ready (rs := [49]) (by kernel_rfl) (by simp) ?_
              refine AllReadyH.cons rfl (fun K hK => ?_) AllReadyH.nil
              go_simp
              go_at_call 7
              refine CA.out.mono ?_
              rintro er x49 ⟨rfl, b1⟩
              have B_x49 : Hid (Below wd.heap.size wd x49) := Lib.hid (B_x46.out.trans (b1.mono B_x46.out.size))
              have b_x49 := Lib.hid b1
              clear b1
              go_wp2_with fail
              refine hK.out _ _ B_x49.out (fun hHeld => ?_)
              clear hK K
              try simp only [Act.put, List.setIfInBounds_toArray, List.set_cons_zero, List.set_cons_succ]
              refine wpAnyH_take (i := 50) (v := .bool true) rfl (by kernel_rfl) (by kernel_rfl) (by kernel_rfl) (fun _ _ _ h => h) (Or.inl ⟨by kernel_rfl, ?_⟩) (by assumption) ?_
              · intro wz hSw
                go_simp
              refine wpAnyH_take (i := 51) (v := .bool true) rfl (by kernel_rfl) (by kernel_rfl) (by kernel_rfl) (fun _ _ _ h => h) (Or.inl ⟨by kernel_rfl, ?_⟩) (by assumption) ?_
              · intro wz hSw
                go_simp
              refine wpAnyH_done (by kernel_rfl) ?_ _
              refine NoPanic.normal ?_
              go_wp2_with fail
              go_ret
              exact ⟨rfl, LOWd.out.trans (B_x49.out.mono LOWd.out.size)⟩
      · have d1 : decide ((100 : Int) < (key.size : Int)) = true := by rw [decide_eq_true_iff]; omega
        have d2 : decide (100 < key.size) = true := by rw [decide_eq_true_iff]; omega
        clear hk
        go_wp2_with fail
        refine (awake_any _).mono ?_
        rintro e wz ⟨rfl, bz⟩
        have HZ := Lib.hid (LOW.out.trans (bz.mono LOW.out.size))
        clear bz
        go_wp2_with fail
        go_ret
        exact ⟨rfl, HZ.out⟩
end Go.Proofs.Yteidlngffikboaa
