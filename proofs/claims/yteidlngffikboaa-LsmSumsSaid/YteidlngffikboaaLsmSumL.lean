/- LsmSums: the law's walk (printed by gen-lsm-sums.py). -/
import Derived.Test.YteidlngffikboaaLsmSumK
import Derived.Test.YteidlngffikboaaLsmAwake
import Derived.StillTailTactics
namespace Go.Proofs.Yteidlngffikboaa
open Go.RowKit
set_option linter.unusedVariables false
set_option linter.unusedSimpArgs false
theorem tab_info : (Try.prog.info? 44).map (fun i => (i.zero, i.size)) = some (some (.agg (tabV (List.replicate 256 0))), 256) := by kernel_rfl
set_option maxRecDepth 20000 in
set_option maxHeartbeats 16000000 in
theorem sums_core (w : World) (v : Value) (l : List Chg) (hv : ChgB w v l) (hb16 : ∀ x ∈ l, -32768 ≤ x.2.1 ∧ x.2.1 ≤ 32767) :
    Calls Try.prog 5 #[v] w fun e w' => e = .returned (.bool true) ∧ Below w.heap.size w w' := by
  obtain ⟨A, c, rfl, h1, h2, h3⟩ := hv
  have hc9 : c ≤ 9223372036854775807 := by unfold maxLen at h2; omega
  have HB16 := Lib.hid hb16
  have HC := Lib.hid h3
  obtain ⟨n, hn⟩ : ∃ n, n = l.length := ⟨_, rfl⟩
  have HN := Lib.hid hn
  rw [← hn] at h1
  rw [← hn]
  clear h2 h3 hn hb16
  by_cases h150 : 150 < n
  · have d1 : decide ((150 : Int) < (n : Int)) = true := by rw [decide_eq_true_iff]; omega
    go_enter Try.func5, Try.ntmps5
    go_wp2_with fail
    refine (awake_any _).mono ?_
    rintro e wz ⟨rfl, bz⟩
    have HZ := Lib.hid bz
    clear bz
    go_wp2_with fail
    go_ret
    exact ⟨rfl, HZ.out⟩
  · have d1 : decide ((150 : Int) < (n : Int)) = false := by rw [decide_eq_false_iff_not]; omega
    obtain ⟨hzv, hzs⟩ := zero_of_info tab_info
    obtain ⟨wE, hwE⟩ : ∃ wE, wE = (w.alloc (.cells #[.slice none 0 0, .slice none 0 0] 25)).alloc (.cells (tabV (List.replicate 256 0)) 44) := ⟨_, rfl⟩
    have HL0 : Hid (LT w (.slice none 0 0) (.slice none 0 0) ([], []) (List.replicate 256 0) wE) := by rw [hwE]; exact LT.new w
    have HWE := Lib.hid hwE.symm
    clear hwE
    generalize tabV (List.replicate 256 0) = V0 at *
    go_enter Try.func5, Try.ntmps5
    go_wp2_with fail
    rw [HWE.out]
    clear hzv hzs HWE
    go_loopw [26] (fun a wr => ∃ (i : Nat) (A1 : Option Addr) (n1 c1 : Nat) (A2 : Option Addr) (n2 c2 : Nat) (s : CntS) (T : List Int), i ≤ n ∧ a = .int .i64 i ∧ Hid (LT w (.slice A1 n1 c1) (.slice A2 n2 c2) s T wr) ∧ Hid (SumS s T i)) (fun a _ => n - (intOf a).toNat)
    case atStart => exact ⟨0, _, _, _, _, _, _, _, _, Nat.zero_le _, rfl, HL0, Lib.hid SumS.new⟩
    case round =>
      obtain ⟨i, A1, n1, c1, A2, n2, c2, s, T, hi, rfl, HL, HS⟩ := hrel
      clear HL0
      by_cases hlt : i < n
      · have hlt' : (i : Int) < n := by omega
        obtain ⟨x, hx⟩ : ∃ x, x = l[i]'(by have := HN.out; omega) := ⟨_, rfl⟩
        have hbx := HB16.out x (by rw [hx]; exact List.getElem_mem _)
        obtain ⟨b, off, rfl, hbw, hcl⟩ := HC.out (by have := HN.out; omega)
        have hci := hcl i (by have := HN.out; omega)
        rw [← hx] at hci
        have HW0 := HL.out.low.block b hbw
        have e0 := (World.cell?_of_block HW0).trans hci.1
        have e1 := (World.cell?_of_block HW0).trans hci.2.1
        have e2 := (World.cell?_of_block HW0).trans hci.2.2
        clear HW0 hci hcl
        have HCX := Lib.hid (ChgX.new wr x)
        obtain ⟨k, y, t⟩ := x
        dsimp only at e0 e1 e2 hbx HCX
        have HX := Lib.hid hx
        clear hx
        obtain ⟨hy1, hy2⟩ := hbx
        have HNM := Lib.hid (name_any (wr.alloc (.cells #[.int .u8 k.toNat, .int .i16 y, .int .u8 t.toNat] 47)) k)
        have hb1 : Below wr.heap.size wr (wr.alloc (.cells #[.int .u8 k.toNat, .int .i16 y, .int .u8 t.toNat] 47)) := (Below.refl _ _).alloc (Nat.le_refl _) _
        have HL1 := Lib.hid (HL.out.below hb1)
        have HSZ : Hid (w.heap.size + 2 ≤ wr.heap.size) := by have := HL.out.tab.hlt; unfold Hid; omega
        clear hb1 HL
        go_wp2_with fail
        refine HNM.out.mono ?_
        rintro e w1 ⟨rfl, b1⟩
        have HL2 := Lib.hid (HL1.out.below b1)
        have HC2 := Lib.hid (HCX.out.below b1)
        clear b1 HNM HL1 HCX e0 e1 e2
        have l0 := HL2.out.c0
        have l1 := HL2.out.c1
        have g1 := HC2.out.c1
        have HPC := Lib.hid (HL2.out.put_call HS.out (by omega) k y ⟨hy1, hy2⟩)
        dsimp only at g1
        go_wp2_with fail
        refine HPC.out.mono ?_
        rintro e w2 ⟨A3, n3, c3, A4, n4, c4, rfl, hN, b2, hF⟩
        obtain ⟨w3, hw3⟩ : ∃ w3, w3 = w2.alloc (.cells #[.slice A3 n3 c3, .slice A4 n4 c4] 25) := ⟨_, rfl⟩
        have hb3 : Below w2.heap.size w2 w3 := by rw [hw3]; exact (Below.refl _ _).alloc (Nat.le_refl _) _
        have b23 : Below w1.heap.size w1 w3 := b2.trans (hb3.mono b2.size)
        have hst := HL2.out.store b23 (hN.below hb3 (Nat.le_refl _)) hF rfl
        have HC3 : Hid (ChgX wr.heap.size (k, y, t) ((w3.setCell ⟨w.heap.size, 0, none⟩ (.slice A3 n3 c3)).setCell ⟨w.heap.size, 1, none⟩ (.slice A4 n4 c4))) := (HC2.out.below b23).kept (set2_keep _ _ _ _ _ (by have := HSZ.out; omega))
        have f0 := (HL2.out.below b23).f0
        have f1 := (HL2.out.below b23).f1
        have q0 := (HL2.out.below b23).c0
        have q1 := (HL2.out.below b23).c1
        have HW3 := Lib.hid hw3.symm
        rw [hw3] at f0 f1 q0 q1
        have HZ3 : Hid (w.heap.size < w2.heap.size) := by have := HL2.out.box.lt; have := b2.size; unfold Hid; omega
        obtain ⟨w4, hw4⟩ : ∃ w4, w4 = (w3.setCell ⟨w.heap.size, 0, none⟩ (.slice A3 n3 c3)).setCell ⟨w.heap.size, 1, none⟩ (.slice A4 n4 c4) := ⟨_, rfl⟩
        rw [← hw4] at hst HC3
        have HW4 := Lib.hid hw4.symm
        have HL3 := Lib.hid hst
        obtain ⟨hp0, hp1⟩ := HS.out.put (by omega) k y ⟨hy1, hy2⟩
        have HSP := Lib.hid hp1
        clear hw3 hb3 b23 hst hN b2 hF HPC HL2 HC2 l0 l1 g1 hw4 hp0 hp1
        have hkl := k.toNat_lt
        have hlen := HS.out.len
        obtain ⟨tv, htv⟩ : ∃ tv, T[k.toNat]? = some tv := ⟨_, List.getElem?_eq_getElem (by omega)⟩
        have htb := HS.out.bd tv (List.mem_of_getElem? htv)
        have ht1 : -1000000000 ≤ tv := by omega
        have ht2 : tv ≤ 1000000000 := by omega
        have HS1 := Lib.hid (HSP.out tv htv)
        have HL4 : Hid (LT w (.slice A3 n3 c3) (.slice A4 n4 c4) (putL s (nameB k) y).1 (T.set k.toNat (tv + y)) (w4.drew.setCell ⟨w.heap.size + 1, k.toNat, none⟩ (.int .i64 (tv + y)))) := (HL3.out.below (below_drewN w4 1)).put k.toNat (tv + y)
        have HC4 : Hid (ChgX wr.heap.size (k, y, t) (w4.drew.setCell ⟨w.heap.size + 1, k.toNat, none⟩ (.int .i64 (tv + y)))) := (HC3.out.below (below_drewN w4 1)).kept (Below.heap_setCell _ _ _ _ (by dsimp only; have := HSZ.out; omega))
        have z0 : w4.drew.cell? ⟨wr.heap.size, 0, none⟩ = some (.int .u8 k.toNat) := (HC3.out.below (below_drewN w4 1)).c0
        have z1 : w4.drew.cell? ⟨wr.heap.size, 1, none⟩ = some (.int .i16 y) := (HC3.out.below (below_drewN w4 1)).c1
        have z2 : w4.drew.cell? ⟨w.heap.size + 1, k.toNat, none⟩ = some (.int .i64 tv) := by
          have h := (HL3.out.below (below_drewN w4 1)).tab.cell k.toNat (by omega)
          rwa [Option.some.inj ((List.getElem?_eq_getElem (by omega)).symm.trans htv)] at h
        have z3 : w4.drew.frozen? ⟨w.heap.size + 1, k.toNat, none⟩ = false := (HL3.out.below (below_drewN w4 1)).tab.f _
        have hk9 : (k.toNat : Int) < 256 := by omega
        obtain ⟨w5, hw5⟩ : ∃ w5, w5 = w4.drew.setCell ⟨w.heap.size + 1, k.toNat, none⟩ (.int .i64 (tv + y)) := ⟨_, rfl⟩
        rw [← hw5] at HL4 HC4
        have HW5 := Lib.hid hw5.symm
        clear hw5 htb HSP htv hlen HL3 HC3
        generalize putL s (nameB k) y = sp at *
        go_wp2_with fail
        rw [HW3.out]
        rw [HW4.out]
        clear HW3 f0 f1 q0 q1
        refine wp_region_still_tail 9 (by kernel_rfl) (by kernel_rfl) ?_
        simp only [List.take_succ_cons, List.take_zero, List.drop_succ_cons, List.drop_zero]
        change wpStill _ _ w4.drew _ _ _
        obtain ⟨wz, hwz⟩ : ∃ wz, wz = w4.drew := ⟨_, rfl⟩
        rw [← hwz] at z0 z1 z2 z3 HW5 ⊢
        have HZ := Lib.hid hwz
        clear hwz
        still_step
        still_step
        still_step
        still_step
        still_step
        still_step
        still_step
        still_step
        still_step

        refine wpStill_nil ?_
        change wpList _ _ _ _ _ w4.drew
        rw [← HZ.out]
        have y2 := HC4.out.c2
        dsimp only at y2
        rw [← HW5.out] at y2
        obtain ⟨q, hq⟩ : ∃ q : Nat, q = t.toNat % 16 := ⟨_, rfl⟩
        have hqt : (t.toNat : Int) % 16 = (q : Int) := by omega
        clear hq
        by_cases hq0 : q = 0
        · subst hq0
          have y0 : w5.cell? ⟨w.heap.size, 0, none⟩ = some (.slice A3 n3 c3) := HL4.out.c0
          have y1 : w5.cell? ⟨w.heap.size, 1, none⟩ = some (.slice A4 n4 c4) := HL4.out.c1
          rw [← HW5.out] at y0 y1
          have HQ := Lib.hid (HL4.out.flush_call HS1.out (by omega))
          go_wp2_with fail
          rw [HW5.out]
          go_wp2_with fail
          refine HQ.out.mono ?_
          rintro e w6 ⟨A5, n5, c5, A6, n6, c6, rfl, hN, b2, hF⟩
          have hst := HL4.out.store b2 hN hF rfl
          have f0 := (HL4.out.below b2).f0
          have f1 := (HL4.out.below b2).f1
          have q0 := (HL4.out.below b2).c0
          have q1 := (HL4.out.below b2).c1
          obtain ⟨w7, hw7⟩ : ∃ w7, w7 = (w6.setCell ⟨w.heap.size, 0, none⟩ (.slice A5 n5 c5)).setCell ⟨w.heap.size, 1, none⟩ (.slice A6 n6 c6) := ⟨_, rfl⟩
          rw [← hw7] at hst
          have HL7 := Lib.hid hst
          have HW7 := Lib.hid hw7.symm
          have HS7 := Lib.hid (HS1.out.flush (by omega))
          clear hst hw7 hN b2 hF HQ y0 y1 HL4 HS1 y2
          go_wp2_with fail
          rw [HW7.out]
          clear f0 f1 q0 q1
          have HLd : Hid (LT w (.slice A5 n5 c5) (.slice A6 n6 c6) _ _ w7.drew) := HL7.out.below (below_drewN w7 1)
          refine wp_region_noPanic ?_
          refine wp_region_held_drew (S := fun w' => Below w7.drew.heap.size w7.drew w') (by kernel_rfl) (Below.refl _ _) (fun hHeld => ?_)
          generalize w7.drew = wd at *
          have B_wd : Hid (Below wd.heap.size wd wd) := Below.refl _ _
          have GL : Hid (∀ w', Below wd.heap.size wd w' → w'.cell? ⟨w.heap.size, 0, none⟩ = some ((.slice A5 n5 c5)) ∧ w'.cell? ⟨w.heap.size, 1, none⟩ = some ((.slice A6 n6 c6))) := fun w' hb => ⟨(HLd.out.below hb).c0, (HLd.out.below hb).c1⟩
          have GT := Lib.hid (fun w' (hb : Below wd.heap.size wd w') => (HLd.out.below hb).tab.load HS7.out.len)
          have HGC := Lib.hid (HLd.out.get HS7.out (by omega) (nameB k))
          have HTC := Lib.hid (fun W => tot_call W HS7.out (by omega) (nameB k))
          have HFC := Lib.hid (fun W (hb : Below wd.heap.size wd W) => (HLd.out.below hb).fit HS7.out (by omega))
          have HLE := Lib.hid (fun W (hb : Below wd.heap.size wd W) => HLd.out.below hb)
          clear HLd HL7
          generalize nameB k = nk at *
          generalize tabV (T.set k.toNat (tv + y)) = VT at *
          generalize totT (T.set k.toNat (tv + y)) nk 256 = tt at *
          refine wpAnyH_take (i := 0) (v := .agg #[(.slice A5 n5 c5), (.slice A6 n6 c6)]) rfl (by kernel_rfl) (by kernel_rfl) (by kernel_rfl) (fun _ _ _ h => h) (Or.inl ⟨by kernel_rfl, ?_⟩) (by assumption) ?_
          · intro wz hSw
            obtain ⟨hh, hg⟩ := GL.out wz hSw
            go_simp
          try simp only [Act.put, List.getElem_toArray, List.getElem_cons_succ, List.getElem_cons_zero, List.setIfInBounds_toArray, List.set_cons_zero, List.set_cons_succ]
          refine wpAnyH_take (i := 1) (v := .string nk) rfl (by kernel_rfl) (by kernel_rfl) (by kernel_rfl) (fun _ _ _ h => h) (Or.inl ⟨by kernel_rfl, ?_⟩) (by assumption) ?_
          · intro wz hSw
            go_simp
          try simp only [Act.put, List.getElem_toArray, List.getElem_cons_succ, List.getElem_cons_zero, List.setIfInBounds_toArray, List.set_cons_zero, List.set_cons_succ]
          refine wpAnyH_take (i := 3) (v := .agg VT) rfl (by kernel_rfl) (by kernel_rfl) (by kernel_rfl) (fun _ _ _ h => h) (yieldsIf_loadAt (by kernel_rfl) 44 (.tmp 4) rfl (.pointer (some ⟨w.heap.size + 1, 0, none⟩)) (.agg VT) rfl GT.out) (by assumption) ?_
          try simp only [Act.put, List.getElem_toArray, List.getElem_cons_succ, List.getElem_cons_zero, List.setIfInBounds_toArray, List.set_cons_zero, List.set_cons_succ]
          refine wpAnyH_take (i := 4) (v := .string nk) rfl (by kernel_rfl) (by kernel_rfl) (by kernel_rfl) (fun _ _ _ h => h) (Or.inl ⟨by kernel_rfl, ?_⟩) (by assumption) ?_
          · intro wz hSw
            go_simp
          try simp only [Act.put, List.getElem_toArray, List.getElem_cons_succ, List.getElem_cons_zero, List.setIfInBounds_toArray, List.set_cons_zero, List.set_cons_succ]
          refine wpAnyH_ready (rs := [2]) (by kernel_rfl) (by simp) ?_
          refine AllReadyH.cons rfl (fun K hK => ?_) AllReadyH.nil
          go_simp
          go_at_call 22
          refine HGC.out.mono ?_
          rintro er x2 ⟨rfl, b1⟩
          have B_x2 : Hid (Below wd.heap.size wd x2) := Lib.hid (B_wd.out.trans (b1.mono B_wd.out.size))
          clear b1
          go_wp2_with fail
          refine hK.out _ _ B_x2.out (fun hHeld => ?_)
          clear hK K
          try simp only [Act.put, List.getElem_toArray, List.getElem_cons_succ, List.getElem_cons_zero, List.setIfInBounds_toArray, List.set_cons_zero, List.set_cons_succ]
          refine wpAnyH_ready (rs := [5]) (by kernel_rfl) (by simp) ?_
          refine AllReadyH.cons rfl (fun K hK => ?_) AllReadyH.nil
          go_simp
          go_at_call 28
          refine (HTC.out x2).mono ?_
          rintro er x5 ⟨rfl, b1⟩
          have B_x5 : Hid (Below wd.heap.size wd x5) := Lib.hid (B_x2.out.trans (b1.mono B_x2.out.size))
          clear b1
          go_wp2_with fail
          refine hK.out _ _ B_x5.out (fun hHeld => ?_)
          clear hK K
          try simp only [Act.put, List.getElem_toArray, List.getElem_cons_succ, List.getElem_cons_zero, List.setIfInBounds_toArray, List.set_cons_zero, List.set_cons_succ]
          refine wpAnyH_take (i := 6) (v := .bool false) rfl (by kernel_rfl) (by kernel_rfl) (by kernel_rfl) (fun _ _ _ h => h) (Or.inl ⟨by kernel_rfl, ?_⟩) (by assumption) ?_
          · intro wz hSw
            go_simp
          try simp only [Act.put, List.getElem_toArray, List.getElem_cons_succ, List.getElem_cons_zero, List.setIfInBounds_toArray, List.set_cons_zero, List.set_cons_succ]
          refine wpAnyH_take (i := 7) (v := .bool false) rfl (by kernel_rfl) (by kernel_rfl) (by kernel_rfl) (fun _ _ _ h => h) (Or.inl ⟨by kernel_rfl, ?_⟩) (by assumption) ?_
          · intro wz hSw
            go_simp
          try simp only [Act.put, List.getElem_toArray, List.getElem_cons_succ, List.getElem_cons_zero, List.setIfInBounds_toArray, List.set_cons_zero, List.set_cons_succ]
          refine wpAnyH_take (i := 8) (v := .agg #[(.slice A5 n5 c5), (.slice A6 n6 c6)]) rfl (by kernel_rfl) (by kernel_rfl) (by kernel_rfl) (fun _ _ _ h => h) (Or.inl ⟨by kernel_rfl, ?_⟩) (by assumption) ?_
          · intro wz hSw
            obtain ⟨hh, hg⟩ := GL.out wz hSw
            go_simp
          try simp only [Act.put, List.getElem_toArray, List.getElem_cons_succ, List.getElem_cons_zero, List.setIfInBounds_toArray, List.set_cons_zero, List.set_cons_succ]
          refine wpAnyH_ready (rs := [9]) (by kernel_rfl) (by simp) ?_
          refine AllReadyH.cons rfl (fun K hK => ?_) AllReadyH.nil
          go_simp
          go_at_call 14
          refine (HFC.out x5 B_x5.out).mono ?_
          rintro er x9 ⟨rfl, b1⟩
          have B_x9 : Hid (Below wd.heap.size wd x9) := Lib.hid (B_x5.out.trans (b1.mono B_x5.out.size))
          clear b1
          go_wp2_with fail
          refine hK.out _ _ B_x9.out (fun hHeld => ?_)
          clear hK K
          try simp only [Act.put, List.getElem_toArray, List.getElem_cons_succ, List.getElem_cons_zero, List.setIfInBounds_toArray, List.set_cons_zero, List.set_cons_succ]
          refine wpAnyH_take (i := 10) (v := .bool false) rfl (by kernel_rfl) (by kernel_rfl) (by kernel_rfl) (fun _ _ _ h => h) (Or.inl ⟨by kernel_rfl, ?_⟩) (by assumption) ?_
          · intro wz hSw
            go_simp
          refine wpAnyH_take (i := 11) (v := .bool false) rfl (by kernel_rfl) (by kernel_rfl) (by kernel_rfl) (fun _ _ _ h => h) (Or.inl ⟨by kernel_rfl, ?_⟩) (by assumption) ?_
          · intro wz hSw
            go_simp
          refine wpAnyH_done (by kernel_rfl) ?_ _
          refine NoPanic.normal ?_
          go_wp2_with fail
          go_roundw
          case rel => exact ⟨i + 1, _, _, _, _, _, _, _, _, by omega, by go_num, HLE.out _ B_x9.out, HS7⟩
          case measure => simp [intOf]; omega
        by_cases hq1 : q = 1
        · subst hq1
          have y0 : w5.cell? ⟨w.heap.size, 0, none⟩ = some (.slice A3 n3 c3) := HL4.out.c0
          have y1 : w5.cell? ⟨w.heap.size, 1, none⟩ = some (.slice A4 n4 c4) := HL4.out.c1
          rw [← HW5.out] at y0 y1
          have HQ := Lib.hid (HL4.out.pack_call HS1.out (by omega))
          go_wp2_with fail
          rw [HW5.out]
          go_wp2_with fail
          refine HQ.out.mono ?_
          rintro e w6 ⟨A5, n5, c5, A6, n6, c6, rfl, hN, b2, hF⟩
          have hst := HL4.out.store b2 hN hF rfl
          have f0 := (HL4.out.below b2).f0
          have f1 := (HL4.out.below b2).f1
          have q0 := (HL4.out.below b2).c0
          have q1 := (HL4.out.below b2).c1
          obtain ⟨w7, hw7⟩ : ∃ w7, w7 = (w6.setCell ⟨w.heap.size, 0, none⟩ (.slice A5 n5 c5)).setCell ⟨w.heap.size, 1, none⟩ (.slice A6 n6 c6) := ⟨_, rfl⟩
          rw [← hw7] at hst
          have HL7 := Lib.hid hst
          have HW7 := Lib.hid hw7.symm
          have HS7 := Lib.hid (HS1.out.pack)
          clear hst hw7 hN b2 hF HQ y0 y1 HL4 HS1 y2
          go_wp2_with fail
          rw [HW7.out]
          clear f0 f1 q0 q1
          have HLd : Hid (LT w (.slice A5 n5 c5) (.slice A6 n6 c6) _ _ w7.drew) := HL7.out.below (below_drewN w7 1)
          refine wp_region_noPanic ?_
          refine wp_region_held_drew (S := fun w' => Below w7.drew.heap.size w7.drew w') (by kernel_rfl) (Below.refl _ _) (fun hHeld => ?_)
          generalize w7.drew = wd at *
          have B_wd : Hid (Below wd.heap.size wd wd) := Below.refl _ _
          have GL : Hid (∀ w', Below wd.heap.size wd w' → w'.cell? ⟨w.heap.size, 0, none⟩ = some ((.slice A5 n5 c5)) ∧ w'.cell? ⟨w.heap.size, 1, none⟩ = some ((.slice A6 n6 c6))) := fun w' hb => ⟨(HLd.out.below hb).c0, (HLd.out.below hb).c1⟩
          have GT := Lib.hid (fun w' (hb : Below wd.heap.size wd w') => (HLd.out.below hb).tab.load HS7.out.len)
          have HGC := Lib.hid (HLd.out.get HS7.out (by omega) (nameB k))
          have HTC := Lib.hid (fun W => tot_call W HS7.out (by omega) (nameB k))
          have HFC := Lib.hid (fun W (hb : Below wd.heap.size wd W) => (HLd.out.below hb).fit HS7.out (by omega))
          have HLE := Lib.hid (fun W (hb : Below wd.heap.size wd W) => HLd.out.below hb)
          clear HLd HL7
          generalize nameB k = nk at *
          generalize tabV (T.set k.toNat (tv + y)) = VT at *
          generalize totT (T.set k.toNat (tv + y)) nk 256 = tt at *
          refine wpAnyH_take (i := 0) (v := .agg #[(.slice A5 n5 c5), (.slice A6 n6 c6)]) rfl (by kernel_rfl) (by kernel_rfl) (by kernel_rfl) (fun _ _ _ h => h) (Or.inl ⟨by kernel_rfl, ?_⟩) (by assumption) ?_
          · intro wz hSw
            obtain ⟨hh, hg⟩ := GL.out wz hSw
            go_simp
          try simp only [Act.put, List.getElem_toArray, List.getElem_cons_succ, List.getElem_cons_zero, List.setIfInBounds_toArray, List.set_cons_zero, List.set_cons_succ]
          refine wpAnyH_take (i := 1) (v := .string nk) rfl (by kernel_rfl) (by kernel_rfl) (by kernel_rfl) (fun _ _ _ h => h) (Or.inl ⟨by kernel_rfl, ?_⟩) (by assumption) ?_
          · intro wz hSw
            go_simp
          try simp only [Act.put, List.getElem_toArray, List.getElem_cons_succ, List.getElem_cons_zero, List.setIfInBounds_toArray, List.set_cons_zero, List.set_cons_succ]
          refine wpAnyH_take (i := 3) (v := .agg VT) rfl (by kernel_rfl) (by kernel_rfl) (by kernel_rfl) (fun _ _ _ h => h) (yieldsIf_loadAt (by kernel_rfl) 44 (.tmp 4) rfl (.pointer (some ⟨w.heap.size + 1, 0, none⟩)) (.agg VT) rfl GT.out) (by assumption) ?_
          try simp only [Act.put, List.getElem_toArray, List.getElem_cons_succ, List.getElem_cons_zero, List.setIfInBounds_toArray, List.set_cons_zero, List.set_cons_succ]
          refine wpAnyH_take (i := 4) (v := .string nk) rfl (by kernel_rfl) (by kernel_rfl) (by kernel_rfl) (fun _ _ _ h => h) (Or.inl ⟨by kernel_rfl, ?_⟩) (by assumption) ?_
          · intro wz hSw
            go_simp
          try simp only [Act.put, List.getElem_toArray, List.getElem_cons_succ, List.getElem_cons_zero, List.setIfInBounds_toArray, List.set_cons_zero, List.set_cons_succ]
          refine wpAnyH_ready (rs := [2]) (by kernel_rfl) (by simp) ?_
          refine AllReadyH.cons rfl (fun K hK => ?_) AllReadyH.nil
          go_simp
          go_at_call 22
          refine HGC.out.mono ?_
          rintro er x2 ⟨rfl, b1⟩
          have B_x2 : Hid (Below wd.heap.size wd x2) := Lib.hid (B_wd.out.trans (b1.mono B_wd.out.size))
          clear b1
          go_wp2_with fail
          refine hK.out _ _ B_x2.out (fun hHeld => ?_)
          clear hK K
          try simp only [Act.put, List.getElem_toArray, List.getElem_cons_succ, List.getElem_cons_zero, List.setIfInBounds_toArray, List.set_cons_zero, List.set_cons_succ]
          refine wpAnyH_ready (rs := [5]) (by kernel_rfl) (by simp) ?_
          refine AllReadyH.cons rfl (fun K hK => ?_) AllReadyH.nil
          go_simp
          go_at_call 28
          refine (HTC.out x2).mono ?_
          rintro er x5 ⟨rfl, b1⟩
          have B_x5 : Hid (Below wd.heap.size wd x5) := Lib.hid (B_x2.out.trans (b1.mono B_x2.out.size))
          clear b1
          go_wp2_with fail
          refine hK.out _ _ B_x5.out (fun hHeld => ?_)
          clear hK K
          try simp only [Act.put, List.getElem_toArray, List.getElem_cons_succ, List.getElem_cons_zero, List.setIfInBounds_toArray, List.set_cons_zero, List.set_cons_succ]
          refine wpAnyH_take (i := 6) (v := .bool false) rfl (by kernel_rfl) (by kernel_rfl) (by kernel_rfl) (fun _ _ _ h => h) (Or.inl ⟨by kernel_rfl, ?_⟩) (by assumption) ?_
          · intro wz hSw
            go_simp
          try simp only [Act.put, List.getElem_toArray, List.getElem_cons_succ, List.getElem_cons_zero, List.setIfInBounds_toArray, List.set_cons_zero, List.set_cons_succ]
          refine wpAnyH_take (i := 7) (v := .bool false) rfl (by kernel_rfl) (by kernel_rfl) (by kernel_rfl) (fun _ _ _ h => h) (Or.inl ⟨by kernel_rfl, ?_⟩) (by assumption) ?_
          · intro wz hSw
            go_simp
          try simp only [Act.put, List.getElem_toArray, List.getElem_cons_succ, List.getElem_cons_zero, List.setIfInBounds_toArray, List.set_cons_zero, List.set_cons_succ]
          refine wpAnyH_take (i := 8) (v := .agg #[(.slice A5 n5 c5), (.slice A6 n6 c6)]) rfl (by kernel_rfl) (by kernel_rfl) (by kernel_rfl) (fun _ _ _ h => h) (Or.inl ⟨by kernel_rfl, ?_⟩) (by assumption) ?_
          · intro wz hSw
            obtain ⟨hh, hg⟩ := GL.out wz hSw
            go_simp
          try simp only [Act.put, List.getElem_toArray, List.getElem_cons_succ, List.getElem_cons_zero, List.setIfInBounds_toArray, List.set_cons_zero, List.set_cons_succ]
          refine wpAnyH_ready (rs := [9]) (by kernel_rfl) (by simp) ?_
          refine AllReadyH.cons rfl (fun K hK => ?_) AllReadyH.nil
          go_simp
          go_at_call 14
          refine (HFC.out x5 B_x5.out).mono ?_
          rintro er x9 ⟨rfl, b1⟩
          have B_x9 : Hid (Below wd.heap.size wd x9) := Lib.hid (B_x5.out.trans (b1.mono B_x5.out.size))
          clear b1
          go_wp2_with fail
          refine hK.out _ _ B_x9.out (fun hHeld => ?_)
          clear hK K
          try simp only [Act.put, List.getElem_toArray, List.getElem_cons_succ, List.getElem_cons_zero, List.setIfInBounds_toArray, List.set_cons_zero, List.set_cons_succ]
          refine wpAnyH_take (i := 10) (v := .bool false) rfl (by kernel_rfl) (by kernel_rfl) (by kernel_rfl) (fun _ _ _ h => h) (Or.inl ⟨by kernel_rfl, ?_⟩) (by assumption) ?_
          · intro wz hSw
            go_simp
          refine wpAnyH_take (i := 11) (v := .bool false) rfl (by kernel_rfl) (by kernel_rfl) (by kernel_rfl) (fun _ _ _ h => h) (Or.inl ⟨by kernel_rfl, ?_⟩) (by assumption) ?_
          · intro wz hSw
            go_simp
          refine wpAnyH_done (by kernel_rfl) ?_ _
          refine NoPanic.normal ?_
          go_wp2_with fail
          go_roundw
          case rel => exact ⟨i + 1, _, _, _, _, _, _, _, _, by omega, by go_num, HLE.out _ B_x9.out, HS7⟩
          case measure => simp [intOf]; omega
        by_cases hq2 : q = 2
        · subst hq2
          have y0 : w5.cell? ⟨w.heap.size, 0, none⟩ = some (.slice A3 n3 c3) := HL4.out.c0
          have y1 : w5.cell? ⟨w.heap.size, 1, none⟩ = some (.slice A4 n4 c4) := HL4.out.c1
          rw [← HW5.out] at y0 y1
          have HQ := Lib.hid (HL4.out.write_call HS1.out (by omega))
          go_wp2_with fail
          rw [HW5.out]
          go_wp2_with fail
          refine HQ.out.mono ?_
          rintro e wt ⟨rfl, bt⟩
          have HR := Lib.hid (LT.read_call w5 HL4.out bt.size HS1.out (by omega))
          have HBT := Lib.hid bt
          clear bt
          generalize Bs (writeL sp.1) = txt at *
          go_wp2_with fail
          refine HR.out.mono ?_
          rintro e wu ⟨A5, n5, c5, A6, n6, c6, rfl, hN, b2, hF⟩
          obtain ⟨w6, hw6⟩ : ∃ w6, w6 = wu.alloc (.cells #[.slice A5 n5 c5, .slice A6 n6 c6] 25) := ⟨_, rfl⟩
          have hb6 : Below wu.heap.size wu w6 := by rw [hw6]; exact (Below.refl _ _).alloc (Nat.le_refl _) _
          have b56 : Below w5.heap.size w5 w6 := HBT.out.trans ((b2.trans (hb6.mono b2.size)).mono HBT.out.size)
          have hst := HL4.out.store b56 (hN.below hb6 (Nat.le_refl _)) hF rfl
          have HZ6 : Hid (w.heap.size < wu.heap.size) := by have := HL4.out.box.lt; have := HBT.out.size; have := b2.size; unfold Hid; omega
          have HW6 := Lib.hid hw6.symm
          have b2 := b56
          clear hw6 hb6 b56 HBT HR
          have f0 := (HL4.out.below b2).f0
          have f1 := (HL4.out.below b2).f1
          have q0 := (HL4.out.below b2).c0
          have q1 := (HL4.out.below b2).c1
          obtain ⟨w7, hw7⟩ : ∃ w7, w7 = (w6.setCell ⟨w.heap.size, 0, none⟩ (.slice A5 n5 c5)).setCell ⟨w.heap.size, 1, none⟩ (.slice A6 n6 c6) := ⟨_, rfl⟩
          rw [← hw7] at hst
          rw [← HW6.out] at f0 f1 q0 q1
          have HL7 := Lib.hid hst
          have HW7 := Lib.hid hw7.symm
          have HS7 := Lib.hid (HS1.out)
          clear hst hw7 hN b2 hF HQ y0 y1 HL4 HS1 y2
          go_wp2_with fail
          rw [HW6.out]
          rw [HW7.out]
          clear f0 f1 q0 q1
          have HLd : Hid (LT w (.slice A5 n5 c5) (.slice A6 n6 c6) _ _ w7.drew) := HL7.out.below (below_drewN w7 1)
          refine wp_region_noPanic ?_
          refine wp_region_held_drew (S := fun w' => Below w7.drew.heap.size w7.drew w') (by kernel_rfl) (Below.refl _ _) (fun hHeld => ?_)
          generalize w7.drew = wd at *
          have B_wd : Hid (Below wd.heap.size wd wd) := Below.refl _ _
          have GL : Hid (∀ w', Below wd.heap.size wd w' → w'.cell? ⟨w.heap.size, 0, none⟩ = some ((.slice A5 n5 c5)) ∧ w'.cell? ⟨w.heap.size, 1, none⟩ = some ((.slice A6 n6 c6))) := fun w' hb => ⟨(HLd.out.below hb).c0, (HLd.out.below hb).c1⟩
          have GT := Lib.hid (fun w' (hb : Below wd.heap.size wd w') => (HLd.out.below hb).tab.load HS7.out.len)
          have HGC := Lib.hid (HLd.out.get HS7.out (by omega) (nameB k))
          have HTC := Lib.hid (fun W => tot_call W HS7.out (by omega) (nameB k))
          have HFC := Lib.hid (fun W (hb : Below wd.heap.size wd W) => (HLd.out.below hb).fit HS7.out (by omega))
          have HLE := Lib.hid (fun W (hb : Below wd.heap.size wd W) => HLd.out.below hb)
          clear HLd HL7
          generalize nameB k = nk at *
          generalize tabV (T.set k.toNat (tv + y)) = VT at *
          generalize totT (T.set k.toNat (tv + y)) nk 256 = tt at *
          refine wpAnyH_take (i := 0) (v := .agg #[(.slice A5 n5 c5), (.slice A6 n6 c6)]) rfl (by kernel_rfl) (by kernel_rfl) (by kernel_rfl) (fun _ _ _ h => h) (Or.inl ⟨by kernel_rfl, ?_⟩) (by assumption) ?_
          · intro wz hSw
            obtain ⟨hh, hg⟩ := GL.out wz hSw
            go_simp
          try simp only [Act.put, List.getElem_toArray, List.getElem_cons_succ, List.getElem_cons_zero, List.setIfInBounds_toArray, List.set_cons_zero, List.set_cons_succ]
          refine wpAnyH_take (i := 1) (v := .string nk) rfl (by kernel_rfl) (by kernel_rfl) (by kernel_rfl) (fun _ _ _ h => h) (Or.inl ⟨by kernel_rfl, ?_⟩) (by assumption) ?_
          · intro wz hSw
            go_simp
          try simp only [Act.put, List.getElem_toArray, List.getElem_cons_succ, List.getElem_cons_zero, List.setIfInBounds_toArray, List.set_cons_zero, List.set_cons_succ]
          refine wpAnyH_take (i := 3) (v := .agg VT) rfl (by kernel_rfl) (by kernel_rfl) (by kernel_rfl) (fun _ _ _ h => h) (yieldsIf_loadAt (by kernel_rfl) 44 (.tmp 4) rfl (.pointer (some ⟨w.heap.size + 1, 0, none⟩)) (.agg VT) rfl GT.out) (by assumption) ?_
          try simp only [Act.put, List.getElem_toArray, List.getElem_cons_succ, List.getElem_cons_zero, List.setIfInBounds_toArray, List.set_cons_zero, List.set_cons_succ]
          refine wpAnyH_take (i := 4) (v := .string nk) rfl (by kernel_rfl) (by kernel_rfl) (by kernel_rfl) (fun _ _ _ h => h) (Or.inl ⟨by kernel_rfl, ?_⟩) (by assumption) ?_
          · intro wz hSw
            go_simp
          try simp only [Act.put, List.getElem_toArray, List.getElem_cons_succ, List.getElem_cons_zero, List.setIfInBounds_toArray, List.set_cons_zero, List.set_cons_succ]
          refine wpAnyH_ready (rs := [2]) (by kernel_rfl) (by simp) ?_
          refine AllReadyH.cons rfl (fun K hK => ?_) AllReadyH.nil
          go_simp
          go_at_call 22
          refine HGC.out.mono ?_
          rintro er x2 ⟨rfl, b1⟩
          have B_x2 : Hid (Below wd.heap.size wd x2) := Lib.hid (B_wd.out.trans (b1.mono B_wd.out.size))
          clear b1
          go_wp2_with fail
          refine hK.out _ _ B_x2.out (fun hHeld => ?_)
          clear hK K
          try simp only [Act.put, List.getElem_toArray, List.getElem_cons_succ, List.getElem_cons_zero, List.setIfInBounds_toArray, List.set_cons_zero, List.set_cons_succ]
          refine wpAnyH_ready (rs := [5]) (by kernel_rfl) (by simp) ?_
          refine AllReadyH.cons rfl (fun K hK => ?_) AllReadyH.nil
          go_simp
          go_at_call 28
          refine (HTC.out x2).mono ?_
          rintro er x5 ⟨rfl, b1⟩
          have B_x5 : Hid (Below wd.heap.size wd x5) := Lib.hid (B_x2.out.trans (b1.mono B_x2.out.size))
          clear b1
          go_wp2_with fail
          refine hK.out _ _ B_x5.out (fun hHeld => ?_)
          clear hK K
          try simp only [Act.put, List.getElem_toArray, List.getElem_cons_succ, List.getElem_cons_zero, List.setIfInBounds_toArray, List.set_cons_zero, List.set_cons_succ]
          refine wpAnyH_take (i := 6) (v := .bool false) rfl (by kernel_rfl) (by kernel_rfl) (by kernel_rfl) (fun _ _ _ h => h) (Or.inl ⟨by kernel_rfl, ?_⟩) (by assumption) ?_
          · intro wz hSw
            go_simp
          try simp only [Act.put, List.getElem_toArray, List.getElem_cons_succ, List.getElem_cons_zero, List.setIfInBounds_toArray, List.set_cons_zero, List.set_cons_succ]
          refine wpAnyH_take (i := 7) (v := .bool false) rfl (by kernel_rfl) (by kernel_rfl) (by kernel_rfl) (fun _ _ _ h => h) (Or.inl ⟨by kernel_rfl, ?_⟩) (by assumption) ?_
          · intro wz hSw
            go_simp
          try simp only [Act.put, List.getElem_toArray, List.getElem_cons_succ, List.getElem_cons_zero, List.setIfInBounds_toArray, List.set_cons_zero, List.set_cons_succ]
          refine wpAnyH_take (i := 8) (v := .agg #[(.slice A5 n5 c5), (.slice A6 n6 c6)]) rfl (by kernel_rfl) (by kernel_rfl) (by kernel_rfl) (fun _ _ _ h => h) (Or.inl ⟨by kernel_rfl, ?_⟩) (by assumption) ?_
          · intro wz hSw
            obtain ⟨hh, hg⟩ := GL.out wz hSw
            go_simp
          try simp only [Act.put, List.getElem_toArray, List.getElem_cons_succ, List.getElem_cons_zero, List.setIfInBounds_toArray, List.set_cons_zero, List.set_cons_succ]
          refine wpAnyH_ready (rs := [9]) (by kernel_rfl) (by simp) ?_
          refine AllReadyH.cons rfl (fun K hK => ?_) AllReadyH.nil
          go_simp
          go_at_call 14
          refine (HFC.out x5 B_x5.out).mono ?_
          rintro er x9 ⟨rfl, b1⟩
          have B_x9 : Hid (Below wd.heap.size wd x9) := Lib.hid (B_x5.out.trans (b1.mono B_x5.out.size))
          clear b1
          go_wp2_with fail
          refine hK.out _ _ B_x9.out (fun hHeld => ?_)
          clear hK K
          try simp only [Act.put, List.getElem_toArray, List.getElem_cons_succ, List.getElem_cons_zero, List.setIfInBounds_toArray, List.set_cons_zero, List.set_cons_succ]
          refine wpAnyH_take (i := 10) (v := .bool false) rfl (by kernel_rfl) (by kernel_rfl) (by kernel_rfl) (fun _ _ _ h => h) (Or.inl ⟨by kernel_rfl, ?_⟩) (by assumption) ?_
          · intro wz hSw
            go_simp
          refine wpAnyH_take (i := 11) (v := .bool false) rfl (by kernel_rfl) (by kernel_rfl) (by kernel_rfl) (fun _ _ _ h => h) (Or.inl ⟨by kernel_rfl, ?_⟩) (by assumption) ?_
          · intro wz hSw
            go_simp
          refine wpAnyH_done (by kernel_rfl) ?_ _
          refine NoPanic.normal ?_
          go_wp2_with fail
          go_roundw
          case rel => exact ⟨i + 1, _, _, _, _, _, _, _, _, by omega, by go_num, HLE.out _ B_x9.out, HS7⟩
          case measure => simp [intOf]; omega
        · skip
          have d0 : ((q : Int) == 0) = false := by simp; omega
          have d1' : ((q : Int) == 1) = false := by simp; omega
          have d2 : ((q : Int) == 2) = false := by simp; omega
          go_wp2_with fail
          rw [HW5.out]
          clear y2
          have HLd : Hid (LT w (.slice A3 n3 c3) (.slice A4 n4 c4) _ _ w5.drew) := HL4.out.below (below_drewN w5 1)
          refine wp_region_noPanic ?_
          refine wp_region_held_drew (S := fun w' => Below w5.drew.heap.size w5.drew w') (by kernel_rfl) (Below.refl _ _) (fun hHeld => ?_)
          generalize w5.drew = wd at *
          have B_wd : Hid (Below wd.heap.size wd wd) := Below.refl _ _
          have GL : Hid (∀ w', Below wd.heap.size wd w' → w'.cell? ⟨w.heap.size, 0, none⟩ = some ((.slice A3 n3 c3)) ∧ w'.cell? ⟨w.heap.size, 1, none⟩ = some ((.slice A4 n4 c4))) := fun w' hb => ⟨(HLd.out.below hb).c0, (HLd.out.below hb).c1⟩
          have GT := Lib.hid (fun w' (hb : Below wd.heap.size wd w') => (HLd.out.below hb).tab.load HS1.out.len)
          have HGC := Lib.hid (HLd.out.get HS1.out (by omega) (nameB k))
          have HTC := Lib.hid (fun W => tot_call W HS1.out (by omega) (nameB k))
          have HFC := Lib.hid (fun W (hb : Below wd.heap.size wd W) => (HLd.out.below hb).fit HS1.out (by omega))
          have HLE := Lib.hid (fun W (hb : Below wd.heap.size wd W) => HLd.out.below hb)
          clear HLd HL4
          generalize nameB k = nk at *
          generalize tabV (T.set k.toNat (tv + y)) = VT at *
          generalize totT (T.set k.toNat (tv + y)) nk 256 = tt at *
          refine wpAnyH_take (i := 0) (v := .agg #[(.slice A3 n3 c3), (.slice A4 n4 c4)]) rfl (by kernel_rfl) (by kernel_rfl) (by kernel_rfl) (fun _ _ _ h => h) (Or.inl ⟨by kernel_rfl, ?_⟩) (by assumption) ?_
          · intro wz hSw
            obtain ⟨hh, hg⟩ := GL.out wz hSw
            go_simp
          try simp only [Act.put, List.getElem_toArray, List.getElem_cons_succ, List.getElem_cons_zero, List.setIfInBounds_toArray, List.set_cons_zero, List.set_cons_succ]
          refine wpAnyH_take (i := 1) (v := .string nk) rfl (by kernel_rfl) (by kernel_rfl) (by kernel_rfl) (fun _ _ _ h => h) (Or.inl ⟨by kernel_rfl, ?_⟩) (by assumption) ?_
          · intro wz hSw
            go_simp
          try simp only [Act.put, List.getElem_toArray, List.getElem_cons_succ, List.getElem_cons_zero, List.setIfInBounds_toArray, List.set_cons_zero, List.set_cons_succ]
          refine wpAnyH_take (i := 3) (v := .agg VT) rfl (by kernel_rfl) (by kernel_rfl) (by kernel_rfl) (fun _ _ _ h => h) (yieldsIf_loadAt (by kernel_rfl) 44 (.tmp 4) rfl (.pointer (some ⟨w.heap.size + 1, 0, none⟩)) (.agg VT) rfl GT.out) (by assumption) ?_
          try simp only [Act.put, List.getElem_toArray, List.getElem_cons_succ, List.getElem_cons_zero, List.setIfInBounds_toArray, List.set_cons_zero, List.set_cons_succ]
          refine wpAnyH_take (i := 4) (v := .string nk) rfl (by kernel_rfl) (by kernel_rfl) (by kernel_rfl) (fun _ _ _ h => h) (Or.inl ⟨by kernel_rfl, ?_⟩) (by assumption) ?_
          · intro wz hSw
            go_simp
          try simp only [Act.put, List.getElem_toArray, List.getElem_cons_succ, List.getElem_cons_zero, List.setIfInBounds_toArray, List.set_cons_zero, List.set_cons_succ]
          refine wpAnyH_ready (rs := [2]) (by kernel_rfl) (by simp) ?_
          refine AllReadyH.cons rfl (fun K hK => ?_) AllReadyH.nil
          go_simp
          go_at_call 22
          refine HGC.out.mono ?_
          rintro er x2 ⟨rfl, b1⟩
          have B_x2 : Hid (Below wd.heap.size wd x2) := Lib.hid (B_wd.out.trans (b1.mono B_wd.out.size))
          clear b1
          go_wp2_with fail
          refine hK.out _ _ B_x2.out (fun hHeld => ?_)
          clear hK K
          try simp only [Act.put, List.getElem_toArray, List.getElem_cons_succ, List.getElem_cons_zero, List.setIfInBounds_toArray, List.set_cons_zero, List.set_cons_succ]
          refine wpAnyH_ready (rs := [5]) (by kernel_rfl) (by simp) ?_
          refine AllReadyH.cons rfl (fun K hK => ?_) AllReadyH.nil
          go_simp
          go_at_call 28
          refine (HTC.out x2).mono ?_
          rintro er x5 ⟨rfl, b1⟩
          have B_x5 : Hid (Below wd.heap.size wd x5) := Lib.hid (B_x2.out.trans (b1.mono B_x2.out.size))
          clear b1
          go_wp2_with fail
          refine hK.out _ _ B_x5.out (fun hHeld => ?_)
          clear hK K
          try simp only [Act.put, List.getElem_toArray, List.getElem_cons_succ, List.getElem_cons_zero, List.setIfInBounds_toArray, List.set_cons_zero, List.set_cons_succ]
          refine wpAnyH_take (i := 6) (v := .bool false) rfl (by kernel_rfl) (by kernel_rfl) (by kernel_rfl) (fun _ _ _ h => h) (Or.inl ⟨by kernel_rfl, ?_⟩) (by assumption) ?_
          · intro wz hSw
            go_simp
          try simp only [Act.put, List.getElem_toArray, List.getElem_cons_succ, List.getElem_cons_zero, List.setIfInBounds_toArray, List.set_cons_zero, List.set_cons_succ]
          refine wpAnyH_take (i := 7) (v := .bool false) rfl (by kernel_rfl) (by kernel_rfl) (by kernel_rfl) (fun _ _ _ h => h) (Or.inl ⟨by kernel_rfl, ?_⟩) (by assumption) ?_
          · intro wz hSw
            go_simp
          try simp only [Act.put, List.getElem_toArray, List.getElem_cons_succ, List.getElem_cons_zero, List.setIfInBounds_toArray, List.set_cons_zero, List.set_cons_succ]
          refine wpAnyH_take (i := 8) (v := .agg #[(.slice A3 n3 c3), (.slice A4 n4 c4)]) rfl (by kernel_rfl) (by kernel_rfl) (by kernel_rfl) (fun _ _ _ h => h) (Or.inl ⟨by kernel_rfl, ?_⟩) (by assumption) ?_
          · intro wz hSw
            obtain ⟨hh, hg⟩ := GL.out wz hSw
            go_simp
          try simp only [Act.put, List.getElem_toArray, List.getElem_cons_succ, List.getElem_cons_zero, List.setIfInBounds_toArray, List.set_cons_zero, List.set_cons_succ]
          refine wpAnyH_ready (rs := [9]) (by kernel_rfl) (by simp) ?_
          refine AllReadyH.cons rfl (fun K hK => ?_) AllReadyH.nil
          go_simp
          go_at_call 14
          refine (HFC.out x5 B_x5.out).mono ?_
          rintro er x9 ⟨rfl, b1⟩
          have B_x9 : Hid (Below wd.heap.size wd x9) := Lib.hid (B_x5.out.trans (b1.mono B_x5.out.size))
          clear b1
          go_wp2_with fail
          refine hK.out _ _ B_x9.out (fun hHeld => ?_)
          clear hK K
          try simp only [Act.put, List.getElem_toArray, List.getElem_cons_succ, List.getElem_cons_zero, List.setIfInBounds_toArray, List.set_cons_zero, List.set_cons_succ]
          refine wpAnyH_take (i := 10) (v := .bool false) rfl (by kernel_rfl) (by kernel_rfl) (by kernel_rfl) (fun _ _ _ h => h) (Or.inl ⟨by kernel_rfl, ?_⟩) (by assumption) ?_
          · intro wz hSw
            go_simp
          refine wpAnyH_take (i := 11) (v := .bool false) rfl (by kernel_rfl) (by kernel_rfl) (by kernel_rfl) (fun _ _ _ h => h) (Or.inl ⟨by kernel_rfl, ?_⟩) (by assumption) ?_
          · intro wz hSw
            go_simp
          refine wpAnyH_done (by kernel_rfl) ?_ _
          refine NoPanic.normal ?_
          go_wp2_with fail
          go_roundw
          case rel => exact ⟨i + 1, _, _, _, _, _, _, _, _, by omega, by go_num, HLE.out _ B_x9.out, HS1⟩
          case measure => simp [intOf]; omega
      · obtain rfl : i = n := by omega
        obtain ⟨wo, rfl⟩ : ∃ wo : World, wo = wr := ⟨_, rfl⟩
        have hj : i ≤ 151 := by omega
        have HAL := Lib.hid (HS.out.alls hj)
        obtain ⟨g, hg⟩ : ∃ g : ByteArray → Int, g = fun k => totT T k 256 := ⟨_, rfl⟩
        have HGC : Hid (∀ W, Below wo.heap.size wo W → ∀ k, Calls Try.prog 22 #[.agg #[.slice A1 n1 c1, .slice A2 n2 c2], .string k] W fun e w' => e = .returned (.int .i64 (g k)) ∧ Below W.heap.size W w') := fun W hb k => by rw [hg]; exact (HL.out.below hb).get HS.out hj k
        have HTC : Hid (∀ W k, Calls Try.prog 28 #[.agg (tabV T), .string k] W fun e w' => e = .returned (.int .i64 (g k)) ∧ Below W.heap.size W w') := fun W k => by rw [hg]; exact tot_call W HS.out hj k
        have GTo := Lib.hid (fun w' (hb : Below wo.heap.size wo w') => (HL.out.below hb).tab.load HS.out.len)
        have GLo : Hid (∀ w', Below wo.heap.size wo w' → w'.cell? ⟨w.heap.size, 0, none⟩ = some (.slice A1 n1 c1) ∧ w'.cell? ⟨w.heap.size, 1, none⟩ = some (.slice A2 n2 c2)) := fun w' hb => ⟨(HL.out.below hb).c0, (HL.out.below hb).c1⟩
        have HLO : Hid (Below w.heap.size w wo) := HL.out.low
        have HGA : Hid (∀ k, inL (allL s) k = g k) := by rw [hg]; exact HAL.out.2.2.1
        have HNA : Hid ((allL s).length = cntN g 256) := by rw [hg]; exact HAL.out.2.2.2
        have HB0 : Hid (Below wo.heap.size wo wo) := Below.refl _ _
        have HGB : Hid (∀ k, -1000000000000 ≤ g k ∧ g k ≤ 1000000000000) := fun k => by rw [hg]; have := tot_bound (tabS_bd HS.out hj) k 256; dsimp only; omega
        generalize tabV T = VT at *
        have HJ := Lib.hid hj
        clear hg hlt hi h150 hj HC HB16 HN d1
        go_wp2_with fail
        go_loopw [12, 89] (fun cn a wr => ∃ i : Nat, i ≤ 256 ∧ a = .int .i64 i ∧ cn = .int .i64 ((cntN g i : Nat) : Int) ∧ Hid (Below wo.heap.size wo wr)) (fun _ a _ => 256 - (intOf a).toNat)
        case atStart => exact ⟨0, Nat.zero_le _, rfl, rfl, HB0⟩
        case round =>
          obtain ⟨m, hm, rfl, rfl, HB1⟩ := hrel
          by_cases hlt : m < 256
          · have hlt' : (m : Int) < 256 := by omega
            have hcl := cntN_le g m
            have hnn : (UInt8.ofNat m).toNat = m := by simp; omega
            have HNM := Lib.hid (name_any wr (UInt8.ofNat m))
            rw [hnn] at HNM
            have HFI : Hid (firstJ m m = firstB m) := rfl
            have HFS : Hid (∀ j, firstJ m (j + 1) = (firstJ m j && decide (nameB (UInt8.ofNat j) ≠ nameB (UInt8.ofNat m)))) := fun j => firstJ_succ m j
            have HF0 : Hid (true = firstJ m 0) := (decide_eq_true (fun j' h => absurd h (Nat.not_lt_zero _))).symm
            have HCS : Hid (cntN g (m + 1) = cntN g m + (if firstB m = true ∧ g (nameB (UInt8.ofNat m)) ≠ 0 then 1 else 0)) := rfl
            generalize nameB (UInt8.ofNat m) = nb at *
            clear hnn
            go_wp2_with fail
            refine HNM.out.mono ?_
            rintro e w1 ⟨rfl, b1⟩
            have HB2 := Lib.hid (HB1.out.trans (b1.mono HB1.out.size))
            clear b1 HNM HB1
            obtain ⟨wi, rfl⟩ : ∃ wi : World, wi = wr := ⟨_, rfl⟩
            go_wp2_with fail
            go_loopw [15, 96] (fun f b wr => ∃ j : Nat, j ≤ m ∧ b = .int .i64 j ∧ f = .bool (firstJ m j) ∧ Hid (Below wo.heap.size wo wr)) (fun _ b _ => m - (intOf b).toNat)
            case atStart => exact ⟨0, Nat.zero_le _, rfl, by rw [← HF0.out], HB2⟩
            case round =>
              obtain ⟨j, hj, rfl, rfl, HB3⟩ := hrel
              by_cases hjm : j < m
              · have hjm' : (j : Int) < (m : Int) := by omega
                have hj256 : (j : Int) < 256 := by omega
                have hnn : (UInt8.ofNat j).toNat = j := by simp; omega
                have HNM := Lib.hid (name_any wr (UInt8.ofNat j))
                rw [hnn] at HNM
                have HFJ := Lib.hid (HFS.out j)
                clear hnn
                generalize nameB (UInt8.ofNat j) = nj at *
                cases hf : firstJ m j with
                | false =>
                  have HF1 : Hid (false = firstJ m (j + 1)) := by unfold Hid; rw [HFJ.out, hf]; rfl
                  clear hf
                  go_wp2_with fail
                  go_roundw
                  case rel => exact ⟨j + 1, by omega, by go_num, by rw [← HF1.out], HB3⟩
                  case measure => simp [intOf]; omega
                | true =>
                  by_cases hk : nj = nb
                  · have hkt := str_eq_t hk
                    have HF1 : Hid (false = firstJ m (j + 1)) := by unfold Hid; rw [HFJ.out, hf, decide_eq_false (fun h => h hk)]; rfl
                    clear hf hk
                    go_wp2_with fail
                    refine HNM.out.mono ?_
                    rintro e w2 ⟨rfl, b2⟩
                    have HB4 := Lib.hid (HB3.out.trans (b2.mono HB3.out.size))
                    clear b2 HNM
                    go_wp2_with fail
                    go_roundw
                    case rel => exact ⟨j + 1, by omega, by go_num, by rw [← HF1.out], HB4⟩
                    case measure => simp [intOf]; omega
                  · have hkf := str_eq_f hk
                    have HF1 : Hid (true = firstJ m (j + 1)) := by unfold Hid; rw [HFJ.out, hf, decide_eq_true hk]; rfl
                    clear hf hk
                    go_wp2_with fail
                    refine HNM.out.mono ?_
                    rintro e w2 ⟨rfl, b2⟩
                    have HB4 := Lib.hid (HB3.out.trans (b2.mono HB3.out.size))
                    clear b2 HNM
                    go_wp2_with fail
                    go_roundw
                    case rel => exact ⟨j + 1, by omega, by go_num, by rw [← HF1.out], HB4⟩
                    case measure => simp [intOf]; omega
              · obtain rfl : j = m := by omega
                rw [HFI.out]
                clear HFS HFI HF0 hjm HB2
                go_wp2_with fail
                have HBd : Hid (Below wo.heap.size wo wr.drew) := HB3.out.trans ((below_drewN wr 1).mono HB3.out.size)
                refine wp_region_noPanic ?_
                refine wp_region_held_drew (S := fun w' => Below wr.drew.heap.size wr.drew w') (by kernel_rfl) (Below.refl _ _) (fun hHeld => ?_)
                generalize wr.drew = wd at *
                have B_wd : Hid (Below wd.heap.size wd wd) := Below.refl _ _
                have GL : Hid (∀ w', Below wd.heap.size wd w' → w'.cell? ⟨w.heap.size, 0, none⟩ = some (.slice A1 n1 c1) ∧ w'.cell? ⟨w.heap.size, 1, none⟩ = some (.slice A2 n2 c2)) := fun w' hb => GLo.out w' (HBd.out.trans (hb.mono HBd.out.size))
                have GT := Lib.hid (fun w' (hb : Below wd.heap.size wd w') => GTo.out w' (HBd.out.trans (hb.mono HBd.out.size)))
                have CG := Lib.hid (HGC.out wd HBd.out nb)
                have hgb := HGB.out nb
                obtain ⟨gn, hgn⟩ : ∃ gn, gn = g nb := ⟨_, rfl⟩
                have HTB := Lib.hid (fun W => HTC.out W nb)
                rw [← hgn] at CG HTB HCS hgb
                have HGN := Lib.hid hgn
                clear hgn
                refine wpAnyH_take (i := 0) (v := .agg #[.slice A1 n1 c1, .slice A2 n2 c2]) rfl (by kernel_rfl) (by kernel_rfl) (by kernel_rfl) (fun _ _ _ h => h) (Or.inl ⟨by kernel_rfl, ?_⟩) (by assumption) ?_
                · intro wz hSw
                  obtain ⟨hh, hg⟩ := GL.out wz hSw
                  go_simp
                try simp only [Act.put, List.getElem_toArray, List.getElem_cons_succ, List.getElem_cons_zero, List.setIfInBounds_toArray, List.set_cons_zero, List.set_cons_succ]
                refine wpAnyH_take (i := 1) (v := .string nb) rfl (by kernel_rfl) (by kernel_rfl) (by kernel_rfl) (fun _ _ _ h => h) (Or.inl ⟨by kernel_rfl, ?_⟩) (by assumption) ?_
                · intro wz hSw
                  go_simp
                try simp only [Act.put, List.getElem_toArray, List.getElem_cons_succ, List.getElem_cons_zero, List.setIfInBounds_toArray, List.set_cons_zero, List.set_cons_succ]
                refine wpAnyH_take (i := 3) (v := .agg VT) rfl (by kernel_rfl) (by kernel_rfl) (by kernel_rfl) (fun _ _ _ h => h) (yieldsIf_loadAt (by kernel_rfl) 44 (.tmp 4) rfl (.pointer (some ⟨w.heap.size + 1, 0, none⟩)) (.agg VT) rfl GT.out) (by assumption) ?_
                try simp only [Act.put, List.getElem_toArray, List.getElem_cons_succ, List.getElem_cons_zero, List.setIfInBounds_toArray, List.set_cons_zero, List.set_cons_succ]
                refine wpAnyH_take (i := 4) (v := .string nb) rfl (by kernel_rfl) (by kernel_rfl) (by kernel_rfl) (fun _ _ _ h => h) (Or.inl ⟨by kernel_rfl, ?_⟩) (by assumption) ?_
                · intro wz hSw
                  go_simp
                try simp only [Act.put, List.getElem_toArray, List.getElem_cons_succ, List.getElem_cons_zero, List.setIfInBounds_toArray, List.set_cons_zero, List.set_cons_succ]
                refine wpAnyH_ready (rs := [2]) (by kernel_rfl) (by simp) ?_
                refine AllReadyH.cons rfl (fun K hK => ?_) AllReadyH.nil
                go_simp
                go_at_call 22
                refine CG.out.mono ?_
                rintro er x2 ⟨rfl, b1⟩
                have B_x2 : Hid (Below wd.heap.size wd x2) := Lib.hid (B_wd.out.trans (b1.mono B_wd.out.size))
                clear b1
                go_wp2_with fail
                refine hK.out _ _ B_x2.out (fun hHeld => ?_)
                clear hK K
                try simp only [Act.put, List.getElem_toArray, List.getElem_cons_succ, List.getElem_cons_zero, List.setIfInBounds_toArray, List.set_cons_zero, List.set_cons_succ]
                refine wpAnyH_ready (rs := [5]) (by kernel_rfl) (by simp) ?_
                refine AllReadyH.cons rfl (fun K hK => ?_) AllReadyH.nil
                go_simp
                go_at_call 28
                refine (HTB.out x2).mono ?_
                rintro er x5 ⟨rfl, b1⟩
                have B_x5 : Hid (Below wd.heap.size wd x5) := Lib.hid (B_x2.out.trans (b1.mono B_x2.out.size))
                clear b1
                go_wp2_with fail
                refine hK.out _ _ B_x5.out (fun hHeld => ?_)
                clear hK K
                try simp only [Act.put, List.getElem_toArray, List.getElem_cons_succ, List.getElem_cons_zero, List.setIfInBounds_toArray, List.set_cons_zero, List.set_cons_succ]
                refine wpAnyH_take (i := 6) (v := .bool false) rfl (by kernel_rfl) (by kernel_rfl) (by kernel_rfl) (fun _ _ _ h => h) (Or.inl ⟨by kernel_rfl, ?_⟩) (by assumption) ?_
                · intro wz hSw
                  go_simp
                refine wpAnyH_done (by kernel_rfl) ?_ _
                refine NoPanic.normal ?_
                have HB5 := Lib.hid (HBd.out.trans (B_x5.out.mono HBd.out.size))
                have hla := GT.out x5 B_x5.out
                clear GL GT CG B_x2 B_wd B_x5
                cases hf : firstB j with
                | false =>
                  have HC1 : Hid (cntN g j = cntN g (j + 1)) := by unfold Hid; rw [HCS.out, hf, if_neg (fun h => by cases h.1)]; rfl
                  clear hf HTB hla
                  go_wp2_with fail
                  go_roundw
                  case rel => exact ⟨j + 1, by omega, by go_num, by rw [← HC1.out], HB5⟩
                  case measure => simp [intOf]; omega
                | true =>
                  by_cases hg0 : gn = 0
                  · have HC1 : Hid (cntN g (j + 1) = cntN g j) := by unfold Hid; rw [HCS.out, hf, if_neg (fun h => h.2 hg0), Nat.add_zero]
                    subst hg0
                    clear hf
                    go_wp2_with fail
                    unfold Oper.wp
                    simp [execOp, Act.eval, hla, Result.andThen]
                    rw [Oper.upon_value]
                    clear hla
                    go_wp2_with fail
                    refine (HTB.out x5).mono ?_
                    rintro e w6 ⟨rfl, b6⟩
                    have HB6 := Lib.hid (HB5.out.trans (b6.mono HB5.out.size))
                    clear b6 HTB HB5
                    go_wp2_with fail
                    go_roundw
                    case rel => exact ⟨j + 1, by omega, by go_num, by rw [HC1.out], HB6⟩
                    case measure => simp [intOf]; omega

                  · have hg1 : (gn != 0) = true := by simpa using hg0
                    have HC1 : Hid (cntN g (j + 1) = cntN g j + 1) := by unfold Hid; rw [HCS.out, hf, if_pos ⟨rfl, hg0⟩]
                    clear hf hg0
                    go_wp2_with fail
                    unfold Oper.wp
                    simp [execOp, Act.eval, hla, Result.andThen]
                    rw [Oper.upon_value]
                    clear hla
                    go_wp2_with fail
                    refine (HTB.out x5).mono ?_
                    rintro e w6 ⟨rfl, b6⟩
                    have HB6 := Lib.hid (HB5.out.trans (b6.mono HB5.out.size))
                    clear b6 HTB HB5
                    go_wp2_with fail
                    go_roundw
                    case rel => exact ⟨j + 1, by omega, by go_num, by rw [HC1.out]; go_num, HB6⟩
                    case measure => simp [intOf]; omega
          · obtain rfl : m = 256 := by omega
            obtain ⟨wp, rfl⟩ : ∃ wp : World, wp = wr := ⟨_, rfl⟩
            have HCA := Lib.hid (all_callN (HL.out.below HB1.out).box.rows HS.out HJ.out)
            rw [← HNA.out]
            have hx := (GLo.out wp HB1.out).1
            have hy := (GLo.out wp HB1.out).2
            clear hlt hm
            go_wp2_with fail
            refine HCA.out.mono ?_
            rintro e wa ⟨Aa, ca, rfl, hA, bA⟩
            have HLa := Lib.hid ((HL.out.below HB1.out).below bA)
            have HA := Lib.hid hA
            have HRI := Lib.hid (all_ris s)
            have HNZ := Lib.hid (all_nz s)
            have HBA := Lib.hid (HB1.out.trans (bA.mono HB1.out.size))
            have HBR : Hid (Below wa.heap.size wa wa) := Below.refl _ _
            obtain ⟨L, hL⟩ : ∃ L, L = allL s := ⟨_, rfl⟩
            obtain ⟨N, hN⟩ : ∃ N, N = L.length := ⟨_, rfl⟩
            have HLL := Lib.hid hL
            rw [← hL] at HA HRI HNZ HGA
            rw [← hL, ← hN]
            have HN := Lib.hid hN
            have HAc := HA.out.1
            unfold CntB at HAc
            obtain ⟨A0, c0, hsl, hle, hcm, hce⟩ := HAc
            injection hsl with q1 q2 q3
            subst q1 q3
            rw [← hN] at hle
            have hc9' : ca ≤ 9223372036854775807 := by unfold maxLen at hcm; omega
            have HCE := Lib.hid hce
            try clear q2
            clear hA bA hx hy hL hN hce hcm HCA HNA HB0
            go_wp2_with fail
            go_loopw [129] (fun a wr => ∃ m : Nat, m ≤ N ∧ a = .int .i64 m ∧ Hid (Below wa.heap.size wa wr)) (fun a _ => N - (intOf a).toNat)
            case atStart => exact ⟨0, Nat.zero_le _, rfl, HBR⟩
            case round =>
              obtain ⟨m, hm, rfl, HB⟩ := hrel
              by_cases hlt : m < N
              · have hlt' : (m : Int) < N := by omega
                obtain ⟨b, off, rfl, hbw, hcl⟩ := HCE.out (by have := HN.out; omega)
                have hml : m < L.length := by have := HN.out; omega
                have hcm := hcl m hml
                have HW0 := HB.out.block b hbw
                have e0 := (World.cell?_of_block HW0).trans hcm.1
                have e1 := (World.cell?_of_block HW0).trans hcm.2
                have hnz := HNZ.out L[m] (List.getElem_mem hml)
                have hgx : g L[m].1 = L[m].2 := by rw [← HGA.out]; exact inL_mem HRI.out _ (List.getElem_mem hml)
                have HTC1 := Lib.hid (fun W => HTC.out W L[m].1)
                rw [hgx] at HTC1
                have HLP : Hid (∀ p, m = p + 1 → ∃ kp, wa.cell? ⟨b, off + p * 2, none⟩ = some (.string kp) ∧ bl kp L[m].1 = true) := by
                  rintro p rfl
                  exact ⟨_, (hcl p (by omega)).1, List.pairwise_iff_getElem.1 HRI.out p (p + 1) (by omega) hml (by omega)⟩
                have HBW := Lib.hid hbw
                clear HW0 hcm hcl hgx hbw
                generalize L[m].1 = kx at *
                generalize L[m].2 = nx at *
                clear hml
                have hnz' : (nx == 0) = false := by simpa using hnz
                clear hnz
                obtain ⟨w1, hw1⟩ : ∃ w1, w1 = wr.alloc (.cells #[.string kx, .int .i64 nx] 51) := ⟨_, rfl⟩
                have hb1 : Below wr.heap.size wr w1 := by rw [hw1]; exact (Below.refl _ _).alloc (Nat.le_refl _) _
                have hx0 : w1.cell? ⟨wr.heap.size, 0, none⟩ = some (.string kx) := by rw [hw1]; unfold World.cell?; rw [World.alloc_heap_new]; rfl
                have hx1 : w1.cell? ⟨wr.heap.size, 1, none⟩ = some (.int .i64 nx) := by rw [hw1]; unfold World.cell?; rw [World.alloc_heap_new]; rfl
                have hlt1 : wr.heap.size < w1.heap.size := by rw [hw1]; simp
                have HBd : Hid (Below wa.heap.size wa w1.drew) := HB.out.trans ((hb1.trans ((below_drewN w1 1).mono hb1.size)).mono HB.out.size)
                have HXd : Hid (wr.heap.size < w1.drew.heap.size ∧ w1.drew.cell? ⟨wr.heap.size, 0, none⟩ = some (.string kx) ∧ w1.drew.cell? ⟨wr.heap.size, 1, none⟩ = some (.int .i64 nx)) := ⟨hlt1, hx0, hx1⟩
                have HW1 := Lib.hid hw1.symm
                clear hw1 hb1 hx0 hx1 hlt1
                go_wp2_with fail
                rw [HW1.out]
                by_cases hm0 : m = 0
                · subst hm0
                  clear HLP
                  refine wp_region_noPanic ?_
                  refine wp_region_held_drew (S := fun w' => Below w1.drew.heap.size w1.drew w') (by kernel_rfl) (Below.refl _ _) (fun hHeld => ?_)
                  generalize w1.drew = wd at *
                  have B_wd : Hid (Below wd.heap.size wd wd) := Below.refl _ _
                  have GX : Hid (∀ w', Below wd.heap.size wd w' → w'.cell? ⟨wr.heap.size, 0, none⟩ = some (.string kx) ∧ w'.cell? ⟨wr.heap.size, 1, none⟩ = some (.int .i64 nx)) := fun w' hb => ⟨(World.cell?_of_block (hb.block _ HXd.out.1)).trans HXd.out.2.1, (World.cell?_of_block (hb.block _ HXd.out.1)).trans HXd.out.2.2⟩
                  have GT := Lib.hid (fun w' (hb : Below wd.heap.size wd w') => GTo.out w' (HBA.out.trans ((HBd.out.trans (hb.mono HBd.out.size)).mono HBA.out.size)))
                  refine wpAnyH_take (i := 0) (v := .pointer (some ⟨wr.heap.size, 1, none⟩)) rfl (by kernel_rfl) (by kernel_rfl) (by kernel_rfl) (fun _ _ _ h => h) (Or.inl ⟨by kernel_rfl, ?_⟩) (by assumption) ?_
                  · intro wz hSw
                    go_simp
                  try simp only [Act.put, List.getElem_toArray, List.getElem_cons_succ, List.getElem_cons_zero, List.setIfInBounds_toArray, List.set_cons_zero, List.set_cons_succ]
                  refine wpAnyH_take (i := 1) (v := .int .i64 nx) rfl (by kernel_rfl) (by kernel_rfl) (by kernel_rfl) (fun _ _ _ h => h) (Or.inl ⟨by kernel_rfl, ?_⟩) (by assumption) ?_
                  · intro wz hSw
                    obtain ⟨hh, hg⟩ := GX.out wz hSw
                    go_simp
                  try simp only [Act.put, List.getElem_toArray, List.getElem_cons_succ, List.getElem_cons_zero, List.setIfInBounds_toArray, List.set_cons_zero, List.set_cons_succ]
                  refine wpAnyH_take (i := 2) (v := .bool false) rfl (by kernel_rfl) (by kernel_rfl) (by kernel_rfl) (fun _ _ _ h => h) (Or.inl ⟨by kernel_rfl, ?_⟩) (by assumption) ?_
                  · intro wz hSw
                    go_simp
                  try simp only [Act.put, List.getElem_toArray, List.getElem_cons_succ, List.getElem_cons_zero, List.setIfInBounds_toArray, List.set_cons_zero, List.set_cons_succ]
                  refine wpAnyH_take (i := 3) (v := .bool false) rfl (by kernel_rfl) (by kernel_rfl) (by kernel_rfl) (fun _ _ _ h => h) (Or.inl ⟨by kernel_rfl, ?_⟩) (by assumption) ?_
                  · intro wz hSw
                    go_simp
                  try simp only [Act.put, List.getElem_toArray, List.getElem_cons_succ, List.getElem_cons_zero, List.setIfInBounds_toArray, List.set_cons_zero, List.set_cons_succ]
                  refine wpAnyH_take (i := 4) (v := .agg VT) rfl (by kernel_rfl) (by kernel_rfl) (by kernel_rfl) (fun _ _ _ h => h) (yieldsIf_loadAt (by kernel_rfl) 44 (.tmp 4) rfl (.pointer (some ⟨w.heap.size + 1, 0, none⟩)) (.agg VT) rfl GT.out) (by assumption) ?_
                  try simp only [Act.put, List.getElem_toArray, List.getElem_cons_succ, List.getElem_cons_zero, List.setIfInBounds_toArray, List.set_cons_zero, List.set_cons_succ]
                  refine wpAnyH_take (i := 5) (v := .pointer (some ⟨wr.heap.size, 0, none⟩)) rfl (by kernel_rfl) (by kernel_rfl) (by kernel_rfl) (fun _ _ _ h => h) (Or.inl ⟨by kernel_rfl, ?_⟩) (by assumption) ?_
                  · intro wz hSw
                    go_simp
                  try simp only [Act.put, List.getElem_toArray, List.getElem_cons_succ, List.getElem_cons_zero, List.setIfInBounds_toArray, List.set_cons_zero, List.set_cons_succ]
                  refine wpAnyH_take (i := 6) (v := .string kx) rfl (by kernel_rfl) (by kernel_rfl) (by kernel_rfl) (fun _ _ _ h => h) (Or.inl ⟨by kernel_rfl, ?_⟩) (by assumption) ?_
                  · intro wz hSw
                    obtain ⟨hh, hg⟩ := GX.out wz hSw
                    go_simp
                  try simp only [Act.put, List.getElem_toArray, List.getElem_cons_succ, List.getElem_cons_zero, List.setIfInBounds_toArray, List.set_cons_zero, List.set_cons_succ]
                  refine wpAnyH_take (i := 8) (v := .pointer (some ⟨wr.heap.size, 1, none⟩)) rfl (by kernel_rfl) (by kernel_rfl) (by kernel_rfl) (fun _ _ _ h => h) (Or.inl ⟨by kernel_rfl, ?_⟩) (by assumption) ?_
                  · intro wz hSw
                    go_simp
                  try simp only [Act.put, List.getElem_toArray, List.getElem_cons_succ, List.getElem_cons_zero, List.setIfInBounds_toArray, List.set_cons_zero, List.set_cons_succ]
                  refine wpAnyH_take (i := 9) (v := .int .i64 nx) rfl (by kernel_rfl) (by kernel_rfl) (by kernel_rfl) (fun _ _ _ h => h) (Or.inl ⟨by kernel_rfl, ?_⟩) (by assumption) ?_
                  · intro wz hSw
                    obtain ⟨hh, hg⟩ := GX.out wz hSw
                    go_simp
                  try simp only [Act.put, List.getElem_toArray, List.getElem_cons_succ, List.getElem_cons_zero, List.setIfInBounds_toArray, List.set_cons_zero, List.set_cons_succ]
                  refine wpAnyH_ready (rs := [7]) (by kernel_rfl) (by simp) ?_
                  refine AllReadyH.cons rfl (fun K hK => ?_) AllReadyH.nil
                  go_simp
                  go_at_call 28
                  refine (HTC1.out wd).mono ?_
                  rintro er x7 ⟨rfl, b1⟩
                  have B_x7 : Hid (Below wd.heap.size wd x7) := Lib.hid (B_wd.out.trans (b1.mono B_wd.out.size))
                  clear b1
                  go_wp2_with fail
                  refine hK.out _ _ B_x7.out (fun hHeld => ?_)
                  clear hK K
                  try simp only [Act.put, List.getElem_toArray, List.getElem_cons_succ, List.getElem_cons_zero, List.setIfInBounds_toArray, List.set_cons_zero, List.set_cons_succ]
                  refine wpAnyH_take (i := 10) (v := .bool false) rfl (by kernel_rfl) (by kernel_rfl) (by kernel_rfl) (fun _ _ _ h => h) (Or.inl ⟨by kernel_rfl, ?_⟩) (by assumption) ?_
                  · intro wz hSw
                    go_simp
                  try simp only [Act.put, List.getElem_toArray, List.getElem_cons_succ, List.getElem_cons_zero, List.setIfInBounds_toArray, List.set_cons_zero, List.set_cons_succ]
                  refine wpAnyH_take (i := 11) (v := .bool false) rfl (by kernel_rfl) (by kernel_rfl) (by kernel_rfl) (fun _ _ _ h => h) (Or.inl ⟨by kernel_rfl, ?_⟩) (by assumption) ?_
                  · intro wz hSw
                    go_simp
                  try simp only [Act.put, List.getElem_toArray, List.getElem_cons_succ, List.getElem_cons_zero, List.setIfInBounds_toArray, List.set_cons_zero, List.set_cons_succ]
                  refine wpAnyH_take (i := 12) (v := .bool false) rfl (by kernel_rfl) (by kernel_rfl) (by kernel_rfl) (fun _ _ _ h => h) (Or.inl ⟨by kernel_rfl, ?_⟩) (by assumption) ?_
                  · intro wz hSw
                    go_simp
                  try simp only [Act.put, List.getElem_toArray, List.getElem_cons_succ, List.getElem_cons_zero, List.setIfInBounds_toArray, List.set_cons_zero, List.set_cons_succ]
                  refine wpAnyH_take (i := 13) (v := .int .i64 0) rfl (by kernel_rfl) (by kernel_rfl) (by kernel_rfl) (fun _ _ _ h => h) (Or.inl ⟨by kernel_rfl, ?_⟩) (by assumption) ?_
                  · intro wz hSw
                    go_simp
                  try simp only [Act.put, List.getElem_toArray, List.getElem_cons_succ, List.getElem_cons_zero, List.setIfInBounds_toArray, List.set_cons_zero, List.set_cons_succ]
                  refine wpAnyH_take (i := 14) (v := .bool false) rfl (by kernel_rfl) (by kernel_rfl) (by kernel_rfl) (fun _ _ _ h => h) (Or.inl ⟨by kernel_rfl, ?_⟩) (by assumption) ?_
                  · intro wz hSw
                    go_simp
                  try simp only [Act.put, List.getElem_toArray, List.getElem_cons_succ, List.getElem_cons_zero, List.setIfInBounds_toArray, List.set_cons_zero, List.set_cons_succ]
                  refine wpAnyH_take (i := 15) (v := .bool false) rfl (by kernel_rfl) (by kernel_rfl) (by kernel_rfl) (fun _ _ _ h => h) (Or.inl ⟨by kernel_rfl, ?_⟩) (by assumption) ?_
                  · intro wz hSw
                    go_simp
                  try simp only [Act.put, List.getElem_toArray, List.getElem_cons_succ, List.getElem_cons_zero, List.setIfInBounds_toArray, List.set_cons_zero, List.set_cons_succ]
                  refine wpAnyH_take (i := 16) (v := undef) rfl (by kernel_rfl) (by kernel_rfl) (by kernel_rfl) (fun _ _ _ h => h) (Or.inr ⟨by kernel_rfl, rfl⟩) (by assumption) ?_
                  try simp only [Act.put, List.getElem_toArray, List.getElem_cons_succ, List.getElem_cons_zero, List.setIfInBounds_toArray, List.set_cons_zero, List.set_cons_succ]
                  refine wpAnyH_take (i := 17) (v := undef) rfl (by kernel_rfl) (by kernel_rfl) (by kernel_rfl) (fun _ _ _ h => h) (Or.inr ⟨by kernel_rfl, rfl⟩) (by assumption) ?_
                  try simp only [Act.put, List.getElem_toArray, List.getElem_cons_succ, List.getElem_cons_zero, List.setIfInBounds_toArray, List.set_cons_zero, List.set_cons_succ]
                  refine wpAnyH_take (i := 18) (v := undef) rfl (by kernel_rfl) (by kernel_rfl) (by kernel_rfl) (fun _ _ _ h => h) (Or.inr ⟨by kernel_rfl, rfl⟩) (by assumption) ?_
                  try simp only [Act.put, List.getElem_toArray, List.getElem_cons_succ, List.getElem_cons_zero, List.setIfInBounds_toArray, List.set_cons_zero, List.set_cons_succ]
                  refine wpAnyH_take (i := 19) (v := undef) rfl (by kernel_rfl) (by kernel_rfl) (by kernel_rfl) (fun _ _ _ h => h) (Or.inr ⟨by kernel_rfl, rfl⟩) (by assumption) ?_
                  try simp only [Act.put, List.getElem_toArray, List.getElem_cons_succ, List.getElem_cons_zero, List.setIfInBounds_toArray, List.set_cons_zero, List.set_cons_succ]
                  refine wpAnyH_take (i := 20) (v := undef) rfl (by kernel_rfl) (by kernel_rfl) (by kernel_rfl) (fun _ _ _ h => h) (Or.inr ⟨by kernel_rfl, rfl⟩) (by assumption) ?_
                  try simp only [Act.put, List.getElem_toArray, List.getElem_cons_succ, List.getElem_cons_zero, List.setIfInBounds_toArray, List.set_cons_zero, List.set_cons_succ]
                  refine wpAnyH_take (i := 21) (v := undef) rfl (by kernel_rfl) (by kernel_rfl) (by kernel_rfl) (fun _ _ _ h => h) (Or.inr ⟨by kernel_rfl, rfl⟩) (by assumption) ?_
                  try simp only [Act.put, List.getElem_toArray, List.getElem_cons_succ, List.getElem_cons_zero, List.setIfInBounds_toArray, List.set_cons_zero, List.set_cons_succ]
                  refine wpAnyH_take (i := 22) (v := undef) rfl (by kernel_rfl) (by kernel_rfl) (by kernel_rfl) (fun _ _ _ h => h) (Or.inr ⟨by kernel_rfl, rfl⟩) (by assumption) ?_
                  try simp only [Act.put, List.getElem_toArray, List.getElem_cons_succ, List.getElem_cons_zero, List.setIfInBounds_toArray, List.set_cons_zero, List.set_cons_succ]
                  refine wpAnyH_take (i := 23) (v := undef) rfl (by kernel_rfl) (by kernel_rfl) (by kernel_rfl) (fun _ _ _ h => h) (Or.inr ⟨by kernel_rfl, rfl⟩) (by assumption) ?_
                  try simp only [Act.put, List.getElem_toArray, List.getElem_cons_succ, List.getElem_cons_zero, List.setIfInBounds_toArray, List.set_cons_zero, List.set_cons_succ]
                  refine wpAnyH_take (i := 24) (v := undef) rfl (by kernel_rfl) (by kernel_rfl) (by kernel_rfl) (fun _ _ _ h => h) (Or.inr ⟨by kernel_rfl, rfl⟩) (by assumption) ?_
                  try simp only [Act.put, List.getElem_toArray, List.getElem_cons_succ, List.getElem_cons_zero, List.setIfInBounds_toArray, List.set_cons_zero, List.set_cons_succ]
                  refine wpAnyH_take (i := 25) (v := .bool false) rfl (by kernel_rfl) (by kernel_rfl) (by kernel_rfl) (fun _ _ _ h => h) (Or.inl ⟨by kernel_rfl, ?_⟩) (by assumption) ?_
                  · intro wz hSw
                    go_simp
                  refine wpAnyH_take (i := 26) (v := .bool false) rfl (by kernel_rfl) (by kernel_rfl) (by kernel_rfl) (fun _ _ _ h => h) (Or.inl ⟨by kernel_rfl, ?_⟩) (by assumption) ?_
                  · intro wz hSw
                    go_simp
                  refine wpAnyH_done (by kernel_rfl) ?_ _
                  refine NoPanic.normal ?_
                  have HB7 := Lib.hid (HBd.out.trans (B_x7.out.mono HBd.out.size))
                  go_wp2_with fail
                  go_roundw
                  case rel => exact ⟨0 + 1, by omega, by go_num, HB7⟩
                  case measure => simp [intOf]; omega

                · obtain ⟨p, hp⟩ : ∃ p, m = p + 1 := ⟨m - 1, by omega⟩
                  obtain ⟨kp, hkp, hbl⟩ := HLP.out p hp
                  have hm1 : decide ((0 : Int) < (m : Int)) = true := by rw [decide_eq_true_iff]; omega
                  have hm2 : decide (0 < m) = true := by rw [decide_eq_true_iff]; omega
                  have hpN : p < N := by omega
                  have hpN' : (p : Int) < N := by omega
                  have HPM := Lib.hid hp
                  clear hp
                  obtain ⟨r1, r2, r3, r4⟩ := bl_le hbl
                  clear HLP hm0 hbl
                  refine wp_region_noPanic ?_
                  refine wp_region_held_drew (S := fun w' => Below w1.drew.heap.size w1.drew w') (by kernel_rfl) (Below.refl _ _) (fun hHeld => ?_)
                  generalize w1.drew = wd at *
                  have B_wd : Hid (Below wd.heap.size wd wd) := Below.refl _ _
                  have GX : Hid (∀ w', Below wd.heap.size wd w' → w'.cell? ⟨wr.heap.size, 0, none⟩ = some (.string kx) ∧ w'.cell? ⟨wr.heap.size, 1, none⟩ = some (.int .i64 nx)) := fun w' hb => ⟨(World.cell?_of_block (hb.block _ HXd.out.1)).trans HXd.out.2.1, (World.cell?_of_block (hb.block _ HXd.out.1)).trans HXd.out.2.2⟩
                  have GT := Lib.hid (fun w' (hb : Below wd.heap.size wd w') => GTo.out w' (HBA.out.trans ((HBd.out.trans (hb.mono HBd.out.size)).mono HBA.out.size)))
                  have GP : Hid (∀ w', Below wd.heap.size wd w' → w'.cell? ⟨b, off + p * 2, none⟩ = some (.string kp)) := fun w' hb => (World.cell?_of_block ((HBd.out.trans (hb.mono HBd.out.size)).block b HBW.out)).trans hkp
                  clear hkp
                  refine wpAnyH_take (i := 0) (v := .pointer (some ⟨wr.heap.size, 1, none⟩)) rfl (by kernel_rfl) (by kernel_rfl) (by kernel_rfl) (fun _ _ _ h => h) (Or.inl ⟨by kernel_rfl, ?_⟩) (by assumption) ?_
                  · intro wz hSw
                    go_simp
                  try simp only [Act.put, List.getElem_toArray, List.getElem_cons_succ, List.getElem_cons_zero, List.setIfInBounds_toArray, List.set_cons_zero, List.set_cons_succ]
                  refine wpAnyH_take (i := 1) (v := .int .i64 nx) rfl (by kernel_rfl) (by kernel_rfl) (by kernel_rfl) (fun _ _ _ h => h) (Or.inl ⟨by kernel_rfl, ?_⟩) (by assumption) ?_
                  · intro wz hSw
                    obtain ⟨hh, hg⟩ := GX.out wz hSw
                    go_simp
                  try simp only [Act.put, List.getElem_toArray, List.getElem_cons_succ, List.getElem_cons_zero, List.setIfInBounds_toArray, List.set_cons_zero, List.set_cons_succ]
                  refine wpAnyH_take (i := 2) (v := .bool false) rfl (by kernel_rfl) (by kernel_rfl) (by kernel_rfl) (fun _ _ _ h => h) (Or.inl ⟨by kernel_rfl, ?_⟩) (by assumption) ?_
                  · intro wz hSw
                    go_simp
                  try simp only [Act.put, List.getElem_toArray, List.getElem_cons_succ, List.getElem_cons_zero, List.setIfInBounds_toArray, List.set_cons_zero, List.set_cons_succ]
                  refine wpAnyH_take (i := 3) (v := .bool false) rfl (by kernel_rfl) (by kernel_rfl) (by kernel_rfl) (fun _ _ _ h => h) (Or.inl ⟨by kernel_rfl, ?_⟩) (by assumption) ?_
                  · intro wz hSw
                    go_simp
                  try simp only [Act.put, List.getElem_toArray, List.getElem_cons_succ, List.getElem_cons_zero, List.setIfInBounds_toArray, List.set_cons_zero, List.set_cons_succ]
                  refine wpAnyH_take (i := 4) (v := .agg VT) rfl (by kernel_rfl) (by kernel_rfl) (by kernel_rfl) (fun _ _ _ h => h) (yieldsIf_loadAt (by kernel_rfl) 44 (.tmp 4) rfl (.pointer (some ⟨w.heap.size + 1, 0, none⟩)) (.agg VT) rfl GT.out) (by assumption) ?_
                  try simp only [Act.put, List.getElem_toArray, List.getElem_cons_succ, List.getElem_cons_zero, List.setIfInBounds_toArray, List.set_cons_zero, List.set_cons_succ]
                  refine wpAnyH_take (i := 5) (v := .pointer (some ⟨wr.heap.size, 0, none⟩)) rfl (by kernel_rfl) (by kernel_rfl) (by kernel_rfl) (fun _ _ _ h => h) (Or.inl ⟨by kernel_rfl, ?_⟩) (by assumption) ?_
                  · intro wz hSw
                    go_simp
                  try simp only [Act.put, List.getElem_toArray, List.getElem_cons_succ, List.getElem_cons_zero, List.setIfInBounds_toArray, List.set_cons_zero, List.set_cons_succ]
                  refine wpAnyH_take (i := 6) (v := .string kx) rfl (by kernel_rfl) (by kernel_rfl) (by kernel_rfl) (fun _ _ _ h => h) (Or.inl ⟨by kernel_rfl, ?_⟩) (by assumption) ?_
                  · intro wz hSw
                    obtain ⟨hh, hg⟩ := GX.out wz hSw
                    go_simp
                  try simp only [Act.put, List.getElem_toArray, List.getElem_cons_succ, List.getElem_cons_zero, List.setIfInBounds_toArray, List.set_cons_zero, List.set_cons_succ]
                  refine wpAnyH_take (i := 8) (v := .pointer (some ⟨wr.heap.size, 1, none⟩)) rfl (by kernel_rfl) (by kernel_rfl) (by kernel_rfl) (fun _ _ _ h => h) (Or.inl ⟨by kernel_rfl, ?_⟩) (by assumption) ?_
                  · intro wz hSw
                    go_simp
                  try simp only [Act.put, List.getElem_toArray, List.getElem_cons_succ, List.getElem_cons_zero, List.setIfInBounds_toArray, List.set_cons_zero, List.set_cons_succ]
                  refine wpAnyH_take (i := 9) (v := .int .i64 nx) rfl (by kernel_rfl) (by kernel_rfl) (by kernel_rfl) (fun _ _ _ h => h) (Or.inl ⟨by kernel_rfl, ?_⟩) (by assumption) ?_
                  · intro wz hSw
                    obtain ⟨hh, hg⟩ := GX.out wz hSw
                    go_simp
                  try simp only [Act.put, List.getElem_toArray, List.getElem_cons_succ, List.getElem_cons_zero, List.setIfInBounds_toArray, List.set_cons_zero, List.set_cons_succ]
                  refine wpAnyH_ready (rs := [7]) (by kernel_rfl) (by simp) ?_
                  refine AllReadyH.cons rfl (fun K hK => ?_) AllReadyH.nil
                  go_simp
                  go_at_call 28
                  refine (HTC1.out wd).mono ?_
                  rintro er x7 ⟨rfl, b1⟩
                  have B_x7 : Hid (Below wd.heap.size wd x7) := Lib.hid (B_wd.out.trans (b1.mono B_wd.out.size))
                  clear b1
                  go_wp2_with fail
                  refine hK.out _ _ B_x7.out (fun hHeld => ?_)
                  clear hK K
                  try simp only [Act.put, List.getElem_toArray, List.getElem_cons_succ, List.getElem_cons_zero, List.setIfInBounds_toArray, List.set_cons_zero, List.set_cons_succ]
                  refine wpAnyH_take (i := 10) (v := .bool false) rfl (by kernel_rfl) (by kernel_rfl) (by kernel_rfl) (fun _ _ _ h => h) (Or.inl ⟨by kernel_rfl, ?_⟩) (by assumption) ?_
                  · intro wz hSw
                    go_simp
                  try simp only [Act.put, List.getElem_toArray, List.getElem_cons_succ, List.getElem_cons_zero, List.setIfInBounds_toArray, List.set_cons_zero, List.set_cons_succ]
                  refine wpAnyH_take (i := 11) (v := .bool false) rfl (by kernel_rfl) (by kernel_rfl) (by kernel_rfl) (fun _ _ _ h => h) (Or.inl ⟨by kernel_rfl, ?_⟩) (by assumption) ?_
                  · intro wz hSw
                    go_simp
                  try simp only [Act.put, List.getElem_toArray, List.getElem_cons_succ, List.getElem_cons_zero, List.setIfInBounds_toArray, List.set_cons_zero, List.set_cons_succ]
                  refine wpAnyH_take (i := 12) (v := .bool false) rfl (by kernel_rfl) (by kernel_rfl) (by kernel_rfl) (fun _ _ _ h => h) (Or.inl ⟨by kernel_rfl, ?_⟩) (by assumption) ?_
                  · intro wz hSw
                    go_simp
                  try simp only [Act.put, List.getElem_toArray, List.getElem_cons_succ, List.getElem_cons_zero, List.setIfInBounds_toArray, List.set_cons_zero, List.set_cons_succ]
                  refine wpAnyH_take (i := 13) (v := .int .i64 (m : Int)) rfl (by kernel_rfl) (by kernel_rfl) (by kernel_rfl) (fun _ _ _ h => h) (Or.inl ⟨by kernel_rfl, ?_⟩) (by assumption) ?_
                  · intro wz hSw
                    go_simp
                  try simp only [Act.put, List.getElem_toArray, List.getElem_cons_succ, List.getElem_cons_zero, List.setIfInBounds_toArray, List.set_cons_zero, List.set_cons_succ]
                  refine wpAnyH_take (i := 14) (v := .bool true) rfl (by kernel_rfl) (by kernel_rfl) (by kernel_rfl) (fun _ _ _ h => h) (Or.inl ⟨by kernel_rfl, ?_⟩) (by assumption) ?_
                  · intro wz hSw
                    go_simp
                  try simp only [Act.put, List.getElem_toArray, List.getElem_cons_succ, List.getElem_cons_zero, List.setIfInBounds_toArray, List.set_cons_zero, List.set_cons_succ]
                  refine wpAnyH_take (i := 15) (v := .bool true) rfl (by kernel_rfl) (by kernel_rfl) (by kernel_rfl) (fun _ _ _ h => h) (Or.inl ⟨by kernel_rfl, ?_⟩) (by assumption) ?_
                  · intro wz hSw
                    go_simp
                  try simp only [Act.put, List.getElem_toArray, List.getElem_cons_succ, List.getElem_cons_zero, List.setIfInBounds_toArray, List.set_cons_zero, List.set_cons_succ]
                  refine wpAnyH_take (i := 16) (v := .slice (some ⟨b, off, none⟩) N ca) rfl (by kernel_rfl) (by kernel_rfl) (by kernel_rfl) (fun _ _ _ h => h) (Or.inl ⟨by kernel_rfl, ?_⟩) (by assumption) ?_
                  · intro wz hSw
                    go_simp
                  try simp only [Act.put, List.getElem_toArray, List.getElem_cons_succ, List.getElem_cons_zero, List.setIfInBounds_toArray, List.set_cons_zero, List.set_cons_succ]
                  refine wpAnyH_take (i := 17) (v := .int .i64 (m : Int)) rfl (by kernel_rfl) (by kernel_rfl) (by kernel_rfl) (fun _ _ _ h => h) (Or.inl ⟨by kernel_rfl, ?_⟩) (by assumption) ?_
                  · intro wz hSw
                    go_simp
                  try simp only [Act.put, List.getElem_toArray, List.getElem_cons_succ, List.getElem_cons_zero, List.setIfInBounds_toArray, List.set_cons_zero, List.set_cons_succ]
                  refine wpAnyH_take (i := 18) (v := .int .i64 (p : Int)) rfl (by kernel_rfl) (by kernel_rfl) (by kernel_rfl) (fun _ _ _ h => h) (Or.inl ⟨by kernel_rfl, ?_⟩) (by assumption) ?_
                  · intro wz hSw
                    go_simp
                    first | done | (have hp := HPM.out; (try rw [IntKind.wrap_i64]); omega)
                  try simp only [Act.put, List.getElem_toArray, List.getElem_cons_succ, List.getElem_cons_zero, List.setIfInBounds_toArray, List.set_cons_zero, List.set_cons_succ]
                  refine wpAnyH_take (i := 19) (v := .pointer (some ⟨b, off + p * 2, none⟩)) rfl (by kernel_rfl) (by kernel_rfl) (by kernel_rfl) (fun _ _ _ h => h) (Or.inl ⟨by kernel_rfl, ?_⟩) (by assumption) ?_
                  · intro wz hSw
                    go_simp
                  try simp only [Act.put, List.getElem_toArray, List.getElem_cons_succ, List.getElem_cons_zero, List.setIfInBounds_toArray, List.set_cons_zero, List.set_cons_succ]
                  refine wpAnyH_take (i := 20) (v := .pointer (some ⟨b, off + p * 2, none⟩)) rfl (by kernel_rfl) (by kernel_rfl) (by kernel_rfl) (fun _ _ _ h => h) (Or.inl ⟨by kernel_rfl, ?_⟩) (by assumption) ?_
                  · intro wz hSw
                    go_simp
                  try simp only [Act.put, List.getElem_toArray, List.getElem_cons_succ, List.getElem_cons_zero, List.setIfInBounds_toArray, List.set_cons_zero, List.set_cons_succ]
                  refine wpAnyH_take (i := 21) (v := .string kp) rfl (by kernel_rfl) (by kernel_rfl) (by kernel_rfl) (fun _ _ _ h => h) (Or.inl ⟨by kernel_rfl, ?_⟩) (by assumption) ?_
                  · intro wz hSw
                    have hh := GP.out wz hSw
                    go_simp
                  try simp only [Act.put, List.getElem_toArray, List.getElem_cons_succ, List.getElem_cons_zero, List.setIfInBounds_toArray, List.set_cons_zero, List.set_cons_succ]
                  refine wpAnyH_take (i := 22) (v := .pointer (some ⟨wr.heap.size, 0, none⟩)) rfl (by kernel_rfl) (by kernel_rfl) (by kernel_rfl) (fun _ _ _ h => h) (Or.inl ⟨by kernel_rfl, ?_⟩) (by assumption) ?_
                  · intro wz hSw
                    go_simp
                  try simp only [Act.put, List.getElem_toArray, List.getElem_cons_succ, List.getElem_cons_zero, List.setIfInBounds_toArray, List.set_cons_zero, List.set_cons_succ]
                  refine wpAnyH_take (i := 23) (v := .string kx) rfl (by kernel_rfl) (by kernel_rfl) (by kernel_rfl) (fun _ _ _ h => h) (Or.inl ⟨by kernel_rfl, ?_⟩) (by assumption) ?_
                  · intro wz hSw
                    obtain ⟨hh, hg⟩ := GX.out wz hSw
                    go_simp
                  try simp only [Act.put, List.getElem_toArray, List.getElem_cons_succ, List.getElem_cons_zero, List.setIfInBounds_toArray, List.set_cons_zero, List.set_cons_succ]
                  refine wpAnyH_take (i := 24) (v := .bool false) rfl (by kernel_rfl) (by kernel_rfl) (by kernel_rfl) (fun _ _ _ h => h) (Or.inl ⟨by kernel_rfl, ?_⟩) (by assumption) ?_
                  · intro wz hSw
                    go_simp
                  try simp only [Act.put, List.getElem_toArray, List.getElem_cons_succ, List.getElem_cons_zero, List.setIfInBounds_toArray, List.set_cons_zero, List.set_cons_succ]
                  refine wpAnyH_take (i := 25) (v := .bool false) rfl (by kernel_rfl) (by kernel_rfl) (by kernel_rfl) (fun _ _ _ h => h) (Or.inl ⟨by kernel_rfl, ?_⟩) (by assumption) ?_
                  · intro wz hSw
                    go_simp
                  refine wpAnyH_take (i := 26) (v := .bool false) rfl (by kernel_rfl) (by kernel_rfl) (by kernel_rfl) (fun _ _ _ h => h) (Or.inl ⟨by kernel_rfl, ?_⟩) (by assumption) ?_
                  · intro wz hSw
                    go_simp
                  refine wpAnyH_done (by kernel_rfl) ?_ _
                  refine NoPanic.normal ?_
                  have HB7 := Lib.hid (HBd.out.trans (B_x7.out.mono HBd.out.size))
                  go_wp2_with fail
                  go_roundw
                  case rel => exact ⟨m + 1, by omega, by go_num, HB7⟩
                  case measure => simp [intOf]; omega
              · obtain rfl : m = N := by omega
                have HLz := Lib.hid (HLa.out.below HB.out)
                have HAz := Lib.hid (HA.out.below HB.out (Nat.le_refl _))
                have HLOz : Hid (Below w.heap.size w wr) := HLO.out.trans ((HBA.out.trans (HB.out.mono HBA.out.size)).mono HLO.out.size)
                rw [← HN.out] at HAz
                have z0 := HLz.out.c0
                have z1 := HLz.out.c1
                have HP := Lib.hid (HLz.out.pack_call HS.out HJ.out)
                clear hlt hm HLa HA HB HBA HLO HCE HTC HGC GTo GLo
                go_wp2_with fail
                refine HP.out.mono ?_
                rintro e w1 ⟨A5, n5, c5, A6, n6, c6, rfl, hN1, b1, hF⟩
                have HL1 := Lib.hid (HLz.out.below b1)
                have HA1 := Lib.hid (HAz.out.below b1 (Nat.le_refl _))
                have HO1 := Lib.hid (HLOz.out.trans (b1.mono HLOz.out.size))
                have HC := Lib.hid (all_callN hN1 HS.out.pack HJ.out)
                rw [HAL.out.1, ← HLL.out] at HC
                clear hN1 b1 hF HP z0 z1 HLz HAz HLOz
                go_wp2_with fail
                refine HC.out.mono ?_
                rintro e w2 ⟨A7, c7, rfl, hN2, b2⟩
                have HL2 := Lib.hid (HL1.out.below b2)
                have HA2 := Lib.hid (HA1.out.below b2 (Nat.le_refl _))
                have HO2 := Lib.hid (HO1.out.trans (b2.mono HO1.out.size))
                have HSM := Lib.hid (same_call hN2 HA2.out)
                clear hN2 b2 HC HL1 HA1 HO1
                go_wp2_with fail
                refine HSM.out.mono ?_
                rintro e w3 ⟨rfl, b3⟩
                have HL3 := Lib.hid (HL2.out.below b3)
                have HA3 := Lib.hid (HA2.out.below b3 (Nat.le_refl _))
                have HO3 := Lib.hid (HO2.out.trans (b3.mono HO2.out.size))
                clear b3 HSM HL2 HA2 HO2
                have z0 := HL3.out.c0
                have z1 := HL3.out.c1
                have HP := Lib.hid (HL3.out.flush_call HS.out HJ.out)
                go_wp2_with fail
                refine HP.out.mono ?_
                rintro e w4 ⟨A5, n5, c5, A6, n6, c6, rfl, hN1, b1, hF⟩
                have HA4 := Lib.hid (HA3.out.below b1 (Nat.le_refl _))
                have HO4 := Lib.hid (HO3.out.trans (b1.mono HO3.out.size))
                have HC := Lib.hid (all_callN hN1 (HS.out.flush HJ.out) HJ.out)
                rw [HAL.out.2.1, ← HLL.out] at HC
                clear hN1 b1 hF HP z0 z1 HL3 HA3 HO3
                go_wp2_with fail
                refine HC.out.mono ?_
                rintro e w5 ⟨A7, c7, rfl, hN2, b2⟩
                have HA5 := Lib.hid (HA4.out.below b2 (Nat.le_refl _))
                have HO5 := Lib.hid (HO4.out.trans (b2.mono HO4.out.size))
                have HSM := Lib.hid (same_call hN2 HA5.out)
                clear hN2 b2 HC HA4 HO4
                go_wp2_with fail
                refine HSM.out.mono ?_
                rintro e w6 ⟨rfl, b3⟩
                have HO6 := Lib.hid (HO5.out.trans (b3.mono HO5.out.size))
                clear b3 HSM HA5 HO5
                go_wp2_with fail
                refine (awake_any _).mono ?_
                rintro e wz ⟨rfl, bz⟩
                have HZ := Lib.hid (HO6.out.trans (bz.mono HO6.out.size))
                clear bz
                go_wp2_with fail
                go_ret
                exact ⟨rfl, HZ.out⟩
end Go.Proofs.Yteidlngffikboaa
