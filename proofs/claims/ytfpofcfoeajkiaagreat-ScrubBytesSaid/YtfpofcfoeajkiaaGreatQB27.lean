/- Texts of this claim's author, packed: ScrBLaw, StructsW, ScrBytesL. Conditions: none. -/
import Derived.Test.YtfpofcfoeajkiaaGreatQB22
import Derived.Test.YtfpofcfoeajkiaaGreatQB25
import Derived.Test.YtfpofcfoeajkiaaGreatQB26
import Derived.Test.YtfpofcfoeajkiaaGreatQB01
/- ScrubBytes: the law's walk (printed by gen-scr-blaw.py). -/
namespace Go.Proofs.YtfpofcfoeajkiaaGreat
open Go.ChangeShapes Go.WideShapes Go.RowKit
set_option linter.unusedVariables false
set_option linter.unusedSimpArgs false
theorem str_beqS (a : ByteArray) : (a.toList == a.toList) = true := by simp
set_option maxRecDepth 20000 in
set_option maxHeartbeats 8000000 in
theorem bytes_core (w : World) (K P Z : Int) (v : Value) (l : List Shd) (s : ByteArray) (hl : ShdB w v l) (hq : ∀ x ∈ l, x.2.1.size ≤ 140737488351232 ∧ x.2.2.size ≤ 140737488351232) (hs : s.size ≤ 140737488351232) :
    Calls Tryz.prog 3 #[.agg #[.int .i64 K, .int .i64 P, .int .i64 Z, v], .string s] w fun e w' => e = .returned (.bool true) ∧ Below w.heap.size w w' := by
  obtain ⟨A, c, rfl, hlc, hcm⟩ := hl.shape
  obtain ⟨wE, hwE⟩ : ∃ wE, wE = w.alloc (.cells #[.int .i64 K, .int .i64 P, .int .i64 Z, .slice A l.length c] 24) := ⟨_, rfl⟩
  have HWE := Lib.hid hwE.symm
  have hb0 : Below w.heap.size w wE := by rw [hwE]; exact (Below.refl _ _).alloc (Nat.le_refl _) _
  have HL0 : Hid (ShdB wE (.slice A l.length c) l) := hl.below hb0 (Nat.le_refl _)
  have HV0 : Hid (wE.heap[w.heap.size]? = some (.cells #[.int .i64 K, .int .i64 P, .int .i64 Z, .slice A l.length c] 24 (0, 0))) := by rw [hwE]; exact World.alloc_heap_new _ _
  have HB0 := Lib.hid hb0
  have HF := Lib.hid (lfew_any wE K P Z _ l HL0.out hq)
  obtain ⟨i0, i1, i2, i3, _⟩ := cells4b HV0.out
  clear hwE hl hb0 hq
  cases hf : decide (l.length ≤ 34) && fewS l with
  | false =>
    rw [hf] at HF
    clear hf
    go_enter Tryz.func3, Tryz.ntmps3
    go_wp2_with fail
    rw [HWE.out]
    go_wp2_with fail
    refine HF.out.mono ?_
    rintro e w1 ⟨rfl, b1⟩
    have HB1 := Lib.hid (HB0.out.trans (b1.mono HB0.out.size))
    have HL1 := Lib.hid (HL0.out.below b1 (Nat.le_refl _))
    have HV1 := Lib.hid ((b1.block _ (Array.getElem?_eq_some_iff.1 HV0.out).1).trans HV0.out)
    clear b1 HF HB0 HL0 HV0 i0 i1 i2 i3
    go_wp2_with fail
    refine (awake_any _).mono ?_
    rintro e wz ⟨rfl, bz⟩
    have HZ := Lib.hid (HB1.out.trans (bz.mono HB1.out.size))
    clear bz
    go_wp2_with fail
    go_ret
    exact ⟨rfl, HZ.out⟩
  | true =>
    rw [hf] at HF
    by_cases h5 : 2500 < s.size
    · have h5i : decide ((s.size : Int) > 2500) = true := by rw [decide_eq_true_iff]; omega
      clear hf
      go_enter Tryz.func3, Tryz.ntmps3
      go_wp2_with fail
      rw [HWE.out]
      go_wp2_with fail
      refine HF.out.mono ?_
      rintro e w1 ⟨rfl, b1⟩
      have HB1 := Lib.hid (HB0.out.trans (b1.mono HB0.out.size))
      have HL1 := Lib.hid (HL0.out.below b1 (Nat.le_refl _))
      have HV1 := Lib.hid ((b1.block _ (Array.getElem?_eq_some_iff.1 HV0.out).1).trans HV0.out)
      clear b1 HF HB0 HL0 HV0 i0 i1 i2 i3
      go_wp2_with fail
      refine (awake_any _).mono ?_
      rintro e wz ⟨rfl, bz⟩
      have HZ := Lib.hid (HB1.out.trans (bz.mono HB1.out.size))
      clear bz
      go_wp2_with fail
      go_ret
      exact ⟨rfl, HZ.out⟩
    · have h5i : decide ((s.size : Int) > 2500) = false := by rw [decide_eq_false_iff_not]; omega
      rw [Bool.and_eq_true, decide_eq_true_iff] at hf
      have hfs := fewS_get hf.2
      have HPW : Hid (∀ W, ShdB W (.slice A l.length c) l → Calls Tryz.prog 9 #[.agg #[.int .i64 K, .int .i64 P, .int .i64 Z, .slice A l.length c]] W fun e w' => e = .returned (.string ⟨(writeL K P Z l).toArray⟩) ∧ Below W.heap.size W w') := fun W h => pwrite_any W K P Z _ l h (by omega) (fun x hx => by have := hfs x hx; omega)
      have HRW : Hid (∀ W, ShdB W (.slice A l.length c) l → Calls Tryz.prog 10 #[.agg #[.int .i64 K, .int .i64 P, .int .i64 Z, .slice A l.length c]] W fun e w' => e = .returned (.string ⟨(writeL K P Z l).toArray⟩) ∧ Below W.heap.size W w') := fun W h => rwrite_any W K P Z _ l h (by omega) (fun x hx => by have := hfs x hx; omega)
      have HPR := Lib.hid (fun W => pread_any s (by omega) W)
      have HRR := Lib.hid (fun W => rread_any s (by omega) W)
      generalize (⟨(writeL K P Z l).toArray⟩ : ByteArray) = T at *
      generalize readS (framesL s.data.toList) = RS at *
      obtain ⟨n, hn⟩ : ∃ n, n = l.length := ⟨_, rfl⟩
      rw [← hn] at HL0 HV0 HF HPW HRW i3 HWE ⊢
      clear hf hfs hlc hn
      have HAW := Lib.hid (fun W => awake_any W)
      cases RS with
      | none =>
        have HPR2 := Lib.hid (fun W => HPR.out W)
        clear HPR
        go_enter Tryz.func3, Tryz.ntmps3
        go_wp2_with fail
        rw [HWE.out]
        go_wp2_with fail
        refine HF.out.mono ?_
        rintro e w1 ⟨rfl, b1⟩
        have HB1 := Lib.hid (HB0.out.trans (b1.mono HB0.out.size))
        have HL1 := Lib.hid (HL0.out.below b1 (Nat.le_refl _))
        have HV1 := Lib.hid ((b1.block _ (Array.getElem?_eq_some_iff.1 HV0.out).1).trans HV0.out)
        clear b1 HF HB0 HL0 HV0 i0 i1 i2 i3
        go_wp2_with fail
        refine (HPR2.out _).mono ?_
        rintro e w2 ⟨hp, b2⟩
        obtain rfl := hp.1 rfl
        have HB2 := Lib.hid (HB1.out.trans (b2.mono HB1.out.size))
        have HL2 := Lib.hid (HL1.out.below b2 (Nat.le_refl _))
        have HV2 := Lib.hid ((b2.block _ (Array.getElem?_eq_some_iff.1 HV1.out).1).trans HV1.out)
        clear HB1 HL1 HV1
        obtain ⟨w3, hw3⟩ : ∃ w3, w3 = w2.alloc (.cells #[.int .i64 0, .int .i64 0, .int .i64 0, .slice none 0 0] 24) := ⟨_, rfl⟩
        have HW3 := Lib.hid hw3.symm
        have b3 : Below w2.heap.size w2 w3 := by rw [hw3]; exact (Below.refl _ _).alloc (Nat.le_refl _) _
        have HP3 : Hid (w3.heap[w2.heap.size]? = some (.cells #[.int .i64 0, .int .i64 0, .int .i64 0, .slice none 0 0] 24 (0, 0))) := by rw [hw3]; exact World.alloc_heap_new _ _
        have HB3 := Lib.hid (HB2.out.trans (b3.mono HB2.out.size))
        have HL3 := Lib.hid (HL2.out.below b3 (Nat.le_refl _))
        have HV3 := Lib.hid ((b3.block _ (Array.getElem?_eq_some_iff.1 HV2.out).1).trans HV2.out)
        clear HB2 HL2 HV2
        clear hw3 b2 b3 hp HPR2
        go_wp2_with fail
        rw [HW3.out]
        refine (HRR.out _).mono ?_
        rintro e w4 ⟨hp, b4⟩
        obtain rfl := hp.1 rfl
        have HB4 := Lib.hid (HB3.out.trans (b4.mono HB3.out.size))
        have HL4 := Lib.hid (HL3.out.below b4 (Nat.le_refl _))
        have HV4 := Lib.hid ((b4.block _ (Array.getElem?_eq_some_iff.1 HV3.out).1).trans HV3.out)
        have HP4 := Lib.hid ((b4.block _ (Array.getElem?_eq_some_iff.1 HP3.out).1).trans HP3.out)
        clear HB3 HL3 HV3 HP3
        obtain ⟨w5, hw5⟩ : ∃ w5, w5 = w4.alloc (.cells #[.int .i64 0, .int .i64 0, .int .i64 0, .slice none 0 0] 24) := ⟨_, rfl⟩
        have HW5 := Lib.hid hw5.symm
        have b5 : Below w4.heap.size w4 w5 := by rw [hw5]; exact (Below.refl _ _).alloc (Nat.le_refl _) _
        have HQ5 : Hid (w5.heap[w4.heap.size]? = some (.cells #[.int .i64 0, .int .i64 0, .int .i64 0, .slice none 0 0] 24 (0, 0))) := by rw [hw5]; exact World.alloc_heap_new _ _
        have HB5 := Lib.hid (HB4.out.trans (b5.mono HB4.out.size))
        have HL5 := Lib.hid (HL4.out.below b5 (Nat.le_refl _))
        have HV5 := Lib.hid ((b5.block _ (Array.getElem?_eq_some_iff.1 HV4.out).1).trans HV4.out)
        have HP5 := Lib.hid ((b5.block _ (Array.getElem?_eq_some_iff.1 HP4.out).1).trans HP4.out)
        clear HB4 HL4 HV4 HP4
        clear hw5 b4 b5 hp HRR
        go_wp2_with fail
        rw [HW5.out]
        have HBd : Hid (Below w.heap.size w w5.drew) := HB5.out.drew
        have HLd : Hid (ShdB w5.drew (.slice A n c) l) := HL5.out
        have HSd : Hid (ShdB w5.drew (.slice none 0 0) []) := ⟨none, 0, rfl, Nat.le_refl _, by unfold maxLen; omega, fun h => absurd h (by simp)⟩
        have HTd : Hid (ShdB w5.drew (.slice none 0 0) []) := ⟨none, 0, rfl, Nat.le_refl _, by unfold maxLen; omega, fun h => absurd h (by simp)⟩
        have HVd : Hid (w5.drew.heap[w.heap.size]? = some (.cells #[.int .i64 K, .int .i64 P, .int .i64 Z, .slice A n c] 24 (0, 0))) := HV5.out
        have HPd : Hid (w5.drew.heap[w2.heap.size]? = some (.cells #[.int .i64 0, .int .i64 0, .int .i64 0, .slice none 0 0] 24 (0, 0))) := HP5.out
        have HQd : Hid (w5.drew.heap[w4.heap.size]? = some (.cells #[.int .i64 0, .int .i64 0, .int .i64 0, .slice none 0 0] 24 (0, 0))) := HQ5.out
        clear HB5 HL5 HV5 HP5 HQ5 
        refine wp_region_noPanic ?_
        refine wp_region_held_drew (S := fun w' => Below w5.drew.heap.size w5.drew w') (by kernel_rfl) (Below.refl _ _) (fun hHeld => ?_)
        generalize w5.drew = wd at *
        have B_wd : Hid (Below wd.heap.size wd wd) := Below.refl _ _
        have GV := Lib.hid (fun W (hW : Below wd.heap.size wd W) => cells4b ((hW.block _ (Array.getElem?_eq_some_iff.1 HVd.out).1).trans HVd.out))
        have GP := Lib.hid (fun W (hW : Below wd.heap.size wd W) => cells4b ((hW.block _ (Array.getElem?_eq_some_iff.1 HPd.out).1).trans HPd.out))
        have GQ := Lib.hid (fun W (hW : Below wd.heap.size wd W) => cells4b ((hW.block _ (Array.getElem?_eq_some_iff.1 HQd.out).1).trans HQd.out))
        refine wpAnyH_take (i := 0) (v := .agg #[.int .i64 K, .int .i64 P, .int .i64 Z, .slice A n c]) rfl (by kernel_rfl) (by kernel_rfl) (by kernel_rfl) (fun _ _ _ h => h) (Or.inl ⟨by kernel_rfl, ?_⟩) (by assumption) ?_
        · intro wz hSw
          obtain ⟨h0, h1, h2, h3, _⟩ := GV.out wz hSw
          go_simp
        try simp only [Act.put, List.getElem_toArray, List.getElem_cons_succ, List.getElem_cons_zero, List.setIfInBounds_toArray, List.set_cons_zero, List.set_cons_succ]
        refine wpAnyH_take (i := 2) (v := .agg #[.int .i64 K, .int .i64 P, .int .i64 Z, .slice A n c]) rfl (by kernel_rfl) (by kernel_rfl) (by kernel_rfl) (fun _ _ _ h => h) (Or.inl ⟨by kernel_rfl, ?_⟩) (by assumption) ?_
        · intro wz hSw
          obtain ⟨h0, h1, h2, h3, _⟩ := GV.out wz hSw
          go_simp
        try simp only [Act.put, List.getElem_toArray, List.getElem_cons_succ, List.getElem_cons_zero, List.setIfInBounds_toArray, List.set_cons_zero, List.set_cons_succ]
        refine wpAnyH_ready (rs := [1]) (by kernel_rfl) (by simp) ?_
        refine AllReadyH.cons rfl (fun K hK => ?_) AllReadyH.nil
        go_simp
        go_at_call 9
        refine (HPW.out wd (HLd.out.below B_wd.out (Nat.le_refl _))).mono ?_
        rintro er x1 ⟨rfl, b1⟩
        have B_x1 : Hid (Below wd.heap.size wd x1) := Lib.hid (B_wd.out.trans (b1.mono B_wd.out.size))
        clear b1
        go_wp2_with fail
        refine hK.out _ _ B_x1.out (fun hHeld => ?_)
        clear hK K
        try simp only [Act.put, List.getElem_toArray, List.getElem_cons_succ, List.getElem_cons_zero, List.setIfInBounds_toArray, List.set_cons_zero, List.set_cons_succ]
        refine wpAnyH_ready (rs := [3]) (by kernel_rfl) (by simp) ?_
        refine AllReadyH.cons rfl (fun K hK => ?_) AllReadyH.nil
        go_simp
        go_at_call 10
        refine (HRW.out x1 (HLd.out.below B_x1.out (Nat.le_refl _))).mono ?_
        rintro er x2 ⟨rfl, b1⟩
        have B_x2 : Hid (Below wd.heap.size wd x2) := Lib.hid (B_x1.out.trans (b1.mono B_x1.out.size))
        clear b1
        go_wp2_with fail
        refine hK.out _ _ B_x2.out (fun hHeld => ?_)
        clear hK K
        try simp only [Act.put, List.getElem_toArray, List.getElem_cons_succ, List.getElem_cons_zero, List.setIfInBounds_toArray, List.set_cons_zero, List.set_cons_succ]
        refine wpAnyH_take (i := 4) (v := .bool true) rfl (by kernel_rfl) (by kernel_rfl) (by kernel_rfl) (fun _ _ _ h => h) (Or.inl ⟨by kernel_rfl, ?_⟩) (by assumption) ?_
        · intro wz hSw
          have hh := str_beqS T
          go_simp
        try simp only [Act.put, List.getElem_toArray, List.getElem_cons_succ, List.getElem_cons_zero, List.setIfInBounds_toArray, List.set_cons_zero, List.set_cons_succ]
        refine wpAnyH_take (i := 5) (v := .bool true) rfl (by kernel_rfl) (by kernel_rfl) (by kernel_rfl) (fun _ _ _ h => h) (Or.inl ⟨by kernel_rfl, ?_⟩) (by assumption) ?_
        · intro wz hSw
          go_simp
        try simp only [Act.put, List.getElem_toArray, List.getElem_cons_succ, List.getElem_cons_zero, List.setIfInBounds_toArray, List.set_cons_zero, List.set_cons_succ]
        refine wpAnyH_take (i := 6) (v := .agg #[.int .i64 0, .int .i64 0, .int .i64 0, .slice none 0 0]) rfl (by kernel_rfl) (by kernel_rfl) (by kernel_rfl) (fun _ _ _ h => h) (Or.inl ⟨by kernel_rfl, ?_⟩) (by assumption) ?_
        · intro wz hSw
          obtain ⟨h0, h1, h2, h3, _⟩ := GP.out wz hSw
          go_simp
        try simp only [Act.put, List.getElem_toArray, List.getElem_cons_succ, List.getElem_cons_zero, List.setIfInBounds_toArray, List.set_cons_zero, List.set_cons_succ]
        refine wpAnyH_take (i := 7) (v := .agg #[.int .i64 0, .int .i64 0, .int .i64 0, .slice none 0 0]) rfl (by kernel_rfl) (by kernel_rfl) (by kernel_rfl) (fun _ _ _ h => h) (Or.inl ⟨by kernel_rfl, ?_⟩) (by assumption) ?_
        · intro wz hSw
          obtain ⟨h0, h1, h2, h3, _⟩ := GQ.out wz hSw
          go_simp
        try simp only [Act.put, List.getElem_toArray, List.getElem_cons_succ, List.getElem_cons_zero, List.setIfInBounds_toArray, List.set_cons_zero, List.set_cons_succ]
        refine wpAnyH_ready (rs := [8]) (by kernel_rfl) (by simp) ?_
        refine AllReadyH.cons rfl (fun K hK => ?_) AllReadyH.nil
        go_simp
        go_at_call 11
        refine (rsame_self x2 0 0 0 (.slice none 0 0) (.slice none 0 0) [] (HSd.out.below B_x2.out (Nat.le_refl _)) (HTd.out.below B_x2.out (Nat.le_refl _))).mono ?_
        rintro er x3 ⟨rfl, b1⟩
        have B_x3 : Hid (Below wd.heap.size wd x3) := Lib.hid (B_x2.out.trans (b1.mono B_x2.out.size))
        clear b1
        go_wp2_with fail
        refine hK.out _ _ B_x3.out (fun hHeld => ?_)
        clear hK K
        try simp only [Act.put, List.getElem_toArray, List.getElem_cons_succ, List.getElem_cons_zero, List.setIfInBounds_toArray, List.set_cons_zero, List.set_cons_succ]
        refine wpAnyH_take (i := 9) (v := .bool true) rfl (by kernel_rfl) (by kernel_rfl) (by kernel_rfl) (fun _ _ _ h => h) (Or.inl ⟨by kernel_rfl, ?_⟩) (by assumption) ?_
        · intro wz hSw
          go_simp
        try simp only [Act.put, List.getElem_toArray, List.getElem_cons_succ, List.getElem_cons_zero, List.setIfInBounds_toArray, List.set_cons_zero, List.set_cons_succ]
        refine wpAnyH_take (i := 10) (v := .bool true) rfl (by kernel_rfl) (by kernel_rfl) (by kernel_rfl) (fun _ _ _ h => h) (Or.inl ⟨by kernel_rfl, ?_⟩) (by assumption) ?_
        · intro wz hSw
          go_simp
        try simp only [Act.put, List.getElem_toArray, List.getElem_cons_succ, List.getElem_cons_zero, List.setIfInBounds_toArray, List.set_cons_zero, List.set_cons_succ]
        refine wpAnyH_take (i := 11) (v := .int .i64 5) rfl (by kernel_rfl) (by kernel_rfl) (by kernel_rfl) (fun _ _ _ h => h) (Or.inl ⟨by kernel_rfl, ?_⟩) (by assumption) ?_
        · intro wz hSw
          go_simp
        try simp only [Act.put, List.getElem_toArray, List.getElem_cons_succ, List.getElem_cons_zero, List.setIfInBounds_toArray, List.set_cons_zero, List.set_cons_succ]
        refine wpAnyH_take (i := 12) (v := .int .i64 5) rfl (by kernel_rfl) (by kernel_rfl) (by kernel_rfl) (fun _ _ _ h => h) (Or.inl ⟨by kernel_rfl, ?_⟩) (by assumption) ?_
        · intro wz hSw
          go_simp
        try simp only [Act.put, List.getElem_toArray, List.getElem_cons_succ, List.getElem_cons_zero, List.setIfInBounds_toArray, List.set_cons_zero, List.set_cons_succ]
        refine wpAnyH_take (i := 13) (v := .bool true) rfl (by kernel_rfl) (by kernel_rfl) (by kernel_rfl) (fun _ _ _ h => h) (Or.inl ⟨by kernel_rfl, ?_⟩) (by assumption) ?_
        · intro wz hSw
          go_simp
        try simp only [Act.put, List.getElem_toArray, List.getElem_cons_succ, List.getElem_cons_zero, List.setIfInBounds_toArray, List.set_cons_zero, List.set_cons_succ]
        refine wpAnyH_take (i := 14) (v := .bool true) rfl (by kernel_rfl) (by kernel_rfl) (by kernel_rfl) (fun _ _ _ h => h) (Or.inl ⟨by kernel_rfl, ?_⟩) (by assumption) ?_
        · intro wz hSw
          go_simp
        try simp only [Act.put, List.getElem_toArray, List.getElem_cons_succ, List.getElem_cons_zero, List.setIfInBounds_toArray, List.set_cons_zero, List.set_cons_succ]
        refine wpAnyH_take (i := 15) (v := .bool true) rfl (by kernel_rfl) (by kernel_rfl) (by kernel_rfl) (fun _ _ _ h => h) (Or.inl ⟨by kernel_rfl, ?_⟩) (by assumption) ?_
        · intro wz hSw
          go_simp
        try simp only [Act.put, List.getElem_toArray, List.getElem_cons_succ, List.getElem_cons_zero, List.setIfInBounds_toArray, List.set_cons_zero, List.set_cons_succ]
        refine wpAnyH_ready (rs := [16]) (by kernel_rfl) (by simp) ?_
        refine AllReadyH.cons rfl (fun K hK => ?_) AllReadyH.nil
        go_simp
        go_at_call 6
        refine (HAW.out x3).mono ?_
        rintro er x4 ⟨rfl, b1⟩
        have B_x4 : Hid (Below wd.heap.size wd x4) := Lib.hid (B_x3.out.trans (b1.mono B_x3.out.size))
        clear b1
        go_wp2_with fail
        refine hK.out _ _ B_x4.out (fun hHeld => ?_)
        clear hK K
        try simp only [Act.put, List.getElem_toArray, List.getElem_cons_succ, List.getElem_cons_zero, List.setIfInBounds_toArray, List.set_cons_zero, List.set_cons_succ]
        refine wpAnyH_take (i := 17) (v := .bool true) rfl (by kernel_rfl) (by kernel_rfl) (by kernel_rfl) (fun _ _ _ h => h) (Or.inl ⟨by kernel_rfl, ?_⟩) (by assumption) ?_
        · intro wz hSw
          go_simp
        try simp only [Act.put, List.getElem_toArray, List.getElem_cons_succ, List.getElem_cons_zero, List.setIfInBounds_toArray, List.set_cons_zero, List.set_cons_succ]
        refine wpAnyH_take (i := 18) (v := .bool true) rfl (by kernel_rfl) (by kernel_rfl) (by kernel_rfl) (fun _ _ _ h => h) (Or.inl ⟨by kernel_rfl, ?_⟩) (by assumption) ?_
        · intro wz hSw
          go_simp
        refine wpAnyH_done (by kernel_rfl) ?_ _
        refine NoPanic.normal ?_
        have HZ := Lib.hid (HBd.out.trans (B_x4.out.mono HBd.out.size))
        go_wp2_with fail
        go_ret
        exact ⟨rfl, HZ.out⟩
      | some y =>
        obtain ⟨a, b, d, lr, dn⟩ := y
        have HPR2 := Lib.hid (fun W => HPR.out W)
        clear HPR
        obtain ⟨m, hm⟩ : ∃ m, m = lr.length := ⟨_, rfl⟩
        have HM := Lib.hid hm.symm
        clear hm
        go_enter Tryz.func3, Tryz.ntmps3
        go_wp2_with fail
        rw [HWE.out]
        go_wp2_with fail
        refine HF.out.mono ?_
        rintro e w1 ⟨rfl, b1⟩
        have HB1 := Lib.hid (HB0.out.trans (b1.mono HB0.out.size))
        have HL1 := Lib.hid (HL0.out.below b1 (Nat.le_refl _))
        have HV1 := Lib.hid ((b1.block _ (Array.getElem?_eq_some_iff.1 HV0.out).1).trans HV0.out)
        clear b1 HF HB0 HL0 HV0 i0 i1 i2 i3
        go_wp2_with fail
        refine (HPR2.out _).mono ?_
        rintro e w2 ⟨hp, b2⟩
        obtain ⟨g1, c1, rfl, hr1, hc1, hm1, hg1⟩ := hp.2 a b d lr dn rfl
        rw [HM.out]
        have HS2 : Hid (ShdB w2 (.slice (some ⟨g1, 0, none⟩) m c1) lr) := by have h := hr1.shdB hc1 hm1; rw [HM.out] at h; exact h
        clear hr1 hc1 hm1 hg1
        have HB2 := Lib.hid (HB1.out.trans (b2.mono HB1.out.size))
        have HL2 := Lib.hid (HL1.out.below b2 (Nat.le_refl _))
        have HV2 := Lib.hid ((b2.block _ (Array.getElem?_eq_some_iff.1 HV1.out).1).trans HV1.out)
        clear HB1 HL1 HV1
        obtain ⟨w3, hw3⟩ : ∃ w3, w3 = w2.alloc (.cells #[.int .i64 (a : Nat), .int .i64 (b : Nat), .int .i64 (d : Nat), .slice (some ⟨g1, 0, none⟩) m c1] 24) := ⟨_, rfl⟩
        have HW3 := Lib.hid hw3.symm
        have b3 : Below w2.heap.size w2 w3 := by rw [hw3]; exact (Below.refl _ _).alloc (Nat.le_refl _) _
        have HP3 : Hid (w3.heap[w2.heap.size]? = some (.cells #[.int .i64 (a : Nat), .int .i64 (b : Nat), .int .i64 (d : Nat), .slice (some ⟨g1, 0, none⟩) m c1] 24 (0, 0))) := by rw [hw3]; exact World.alloc_heap_new _ _
        have HB3 := Lib.hid (HB2.out.trans (b3.mono HB2.out.size))
        have HL3 := Lib.hid (HL2.out.below b3 (Nat.le_refl _))
        have HS3 := Lib.hid (HS2.out.below b3 (Nat.le_refl _))
        have HV3 := Lib.hid ((b3.block _ (Array.getElem?_eq_some_iff.1 HV2.out).1).trans HV2.out)
        clear HB2 HL2 HS2 HV2
        clear hw3 b2 b3 hp HPR2
        go_wp2_with fail
        rw [HW3.out]
        refine (HRR.out _).mono ?_
        rintro e w4 ⟨hp, b4⟩
        obtain ⟨g2, c2, rfl, hr2, hc2, hm2, hg2⟩ := hp.2 a b d lr dn rfl
        rw [HM.out]
        have HT4 : Hid (ShdB w4 (.slice (some ⟨g2, 0, none⟩) m c2) lr) := by have h := hr2.shdB hc2 hm2; rw [HM.out] at h; exact h
        clear hr2 hc2 hm2 hg2
        have HB4 := Lib.hid (HB3.out.trans (b4.mono HB3.out.size))
        have HL4 := Lib.hid (HL3.out.below b4 (Nat.le_refl _))
        have HS4 := Lib.hid (HS3.out.below b4 (Nat.le_refl _))
        have HV4 := Lib.hid ((b4.block _ (Array.getElem?_eq_some_iff.1 HV3.out).1).trans HV3.out)
        have HP4 := Lib.hid ((b4.block _ (Array.getElem?_eq_some_iff.1 HP3.out).1).trans HP3.out)
        clear HB3 HL3 HS3 HV3 HP3
        obtain ⟨w5, hw5⟩ : ∃ w5, w5 = w4.alloc (.cells #[.int .i64 (a : Nat), .int .i64 (b : Nat), .int .i64 (d : Nat), .slice (some ⟨g2, 0, none⟩) m c2] 24) := ⟨_, rfl⟩
        have HW5 := Lib.hid hw5.symm
        have b5 : Below w4.heap.size w4 w5 := by rw [hw5]; exact (Below.refl _ _).alloc (Nat.le_refl _) _
        have HQ5 : Hid (w5.heap[w4.heap.size]? = some (.cells #[.int .i64 (a : Nat), .int .i64 (b : Nat), .int .i64 (d : Nat), .slice (some ⟨g2, 0, none⟩) m c2] 24 (0, 0))) := by rw [hw5]; exact World.alloc_heap_new _ _
        have HB5 := Lib.hid (HB4.out.trans (b5.mono HB4.out.size))
        have HL5 := Lib.hid (HL4.out.below b5 (Nat.le_refl _))
        have HS5 := Lib.hid (HS4.out.below b5 (Nat.le_refl _))
        have HT5 := Lib.hid (HT4.out.below b5 (Nat.le_refl _))
        have HV5 := Lib.hid ((b5.block _ (Array.getElem?_eq_some_iff.1 HV4.out).1).trans HV4.out)
        have HP5 := Lib.hid ((b5.block _ (Array.getElem?_eq_some_iff.1 HP4.out).1).trans HP4.out)
        clear HB4 HL4 HS4 HT4 HV4 HP4
        clear hw5 b4 b5 hp HRR
        go_wp2_with fail
        rw [HW5.out]
        have HBd : Hid (Below w.heap.size w w5.drew) := HB5.out.drew
        have HLd : Hid (ShdB w5.drew (.slice A n c) l) := HL5.out
        have HSd : Hid (ShdB w5.drew (.slice (some ⟨g1, 0, none⟩) m c1) lr) := HS5.out
        have HTd : Hid (ShdB w5.drew (.slice (some ⟨g2, 0, none⟩) m c2) lr) := HT5.out
        have HVd : Hid (w5.drew.heap[w.heap.size]? = some (.cells #[.int .i64 K, .int .i64 P, .int .i64 Z, .slice A n c] 24 (0, 0))) := HV5.out
        have HPd : Hid (w5.drew.heap[w2.heap.size]? = some (.cells #[.int .i64 (a : Nat), .int .i64 (b : Nat), .int .i64 (d : Nat), .slice (some ⟨g1, 0, none⟩) m c1] 24 (0, 0))) := HP5.out
        have HQd : Hid (w5.drew.heap[w4.heap.size]? = some (.cells #[.int .i64 (a : Nat), .int .i64 (b : Nat), .int .i64 (d : Nat), .slice (some ⟨g2, 0, none⟩) m c2] 24 (0, 0))) := HQ5.out
        clear HB5 HL5 HV5 HP5 HQ5 HS5 HT5
        refine wp_region_noPanic ?_
        refine wp_region_held_drew (S := fun w' => Below w5.drew.heap.size w5.drew w') (by kernel_rfl) (Below.refl _ _) (fun hHeld => ?_)
        generalize w5.drew = wd at *
        have B_wd : Hid (Below wd.heap.size wd wd) := Below.refl _ _
        have GV := Lib.hid (fun W (hW : Below wd.heap.size wd W) => cells4b ((hW.block _ (Array.getElem?_eq_some_iff.1 HVd.out).1).trans HVd.out))
        have GP := Lib.hid (fun W (hW : Below wd.heap.size wd W) => cells4b ((hW.block _ (Array.getElem?_eq_some_iff.1 HPd.out).1).trans HPd.out))
        have GQ := Lib.hid (fun W (hW : Below wd.heap.size wd W) => cells4b ((hW.block _ (Array.getElem?_eq_some_iff.1 HQd.out).1).trans HQd.out))
        refine wpAnyH_take (i := 0) (v := .agg #[.int .i64 K, .int .i64 P, .int .i64 Z, .slice A n c]) rfl (by kernel_rfl) (by kernel_rfl) (by kernel_rfl) (fun _ _ _ h => h) (Or.inl ⟨by kernel_rfl, ?_⟩) (by assumption) ?_
        · intro wz hSw
          obtain ⟨h0, h1, h2, h3, _⟩ := GV.out wz hSw
          go_simp
        try simp only [Act.put, List.getElem_toArray, List.getElem_cons_succ, List.getElem_cons_zero, List.setIfInBounds_toArray, List.set_cons_zero, List.set_cons_succ]
        refine wpAnyH_take (i := 2) (v := .agg #[.int .i64 K, .int .i64 P, .int .i64 Z, .slice A n c]) rfl (by kernel_rfl) (by kernel_rfl) (by kernel_rfl) (fun _ _ _ h => h) (Or.inl ⟨by kernel_rfl, ?_⟩) (by assumption) ?_
        · intro wz hSw
          obtain ⟨h0, h1, h2, h3, _⟩ := GV.out wz hSw
          go_simp
        try simp only [Act.put, List.getElem_toArray, List.getElem_cons_succ, List.getElem_cons_zero, List.setIfInBounds_toArray, List.set_cons_zero, List.set_cons_succ]
        refine wpAnyH_ready (rs := [1]) (by kernel_rfl) (by simp) ?_
        refine AllReadyH.cons rfl (fun K hK => ?_) AllReadyH.nil
        go_simp
        go_at_call 9
        refine (HPW.out wd (HLd.out.below B_wd.out (Nat.le_refl _))).mono ?_
        rintro er x1 ⟨rfl, b1⟩
        have B_x1 : Hid (Below wd.heap.size wd x1) := Lib.hid (B_wd.out.trans (b1.mono B_wd.out.size))
        clear b1
        go_wp2_with fail
        refine hK.out _ _ B_x1.out (fun hHeld => ?_)
        clear hK K
        try simp only [Act.put, List.getElem_toArray, List.getElem_cons_succ, List.getElem_cons_zero, List.setIfInBounds_toArray, List.set_cons_zero, List.set_cons_succ]
        refine wpAnyH_ready (rs := [3]) (by kernel_rfl) (by simp) ?_
        refine AllReadyH.cons rfl (fun K hK => ?_) AllReadyH.nil
        go_simp
        go_at_call 10
        refine (HRW.out x1 (HLd.out.below B_x1.out (Nat.le_refl _))).mono ?_
        rintro er x2 ⟨rfl, b1⟩
        have B_x2 : Hid (Below wd.heap.size wd x2) := Lib.hid (B_x1.out.trans (b1.mono B_x1.out.size))
        clear b1
        go_wp2_with fail
        refine hK.out _ _ B_x2.out (fun hHeld => ?_)
        clear hK K
        try simp only [Act.put, List.getElem_toArray, List.getElem_cons_succ, List.getElem_cons_zero, List.setIfInBounds_toArray, List.set_cons_zero, List.set_cons_succ]
        refine wpAnyH_take (i := 4) (v := .bool true) rfl (by kernel_rfl) (by kernel_rfl) (by kernel_rfl) (fun _ _ _ h => h) (Or.inl ⟨by kernel_rfl, ?_⟩) (by assumption) ?_
        · intro wz hSw
          have hh := str_beqS T
          go_simp
        try simp only [Act.put, List.getElem_toArray, List.getElem_cons_succ, List.getElem_cons_zero, List.setIfInBounds_toArray, List.set_cons_zero, List.set_cons_succ]
        refine wpAnyH_take (i := 5) (v := .bool true) rfl (by kernel_rfl) (by kernel_rfl) (by kernel_rfl) (fun _ _ _ h => h) (Or.inl ⟨by kernel_rfl, ?_⟩) (by assumption) ?_
        · intro wz hSw
          go_simp
        try simp only [Act.put, List.getElem_toArray, List.getElem_cons_succ, List.getElem_cons_zero, List.setIfInBounds_toArray, List.set_cons_zero, List.set_cons_succ]
        refine wpAnyH_take (i := 6) (v := .agg #[.int .i64 (a : Nat), .int .i64 (b : Nat), .int .i64 (d : Nat), .slice (some ⟨g1, 0, none⟩) m c1]) rfl (by kernel_rfl) (by kernel_rfl) (by kernel_rfl) (fun _ _ _ h => h) (Or.inl ⟨by kernel_rfl, ?_⟩) (by assumption) ?_
        · intro wz hSw
          obtain ⟨h0, h1, h2, h3, _⟩ := GP.out wz hSw
          go_simp
        try simp only [Act.put, List.getElem_toArray, List.getElem_cons_succ, List.getElem_cons_zero, List.setIfInBounds_toArray, List.set_cons_zero, List.set_cons_succ]
        refine wpAnyH_take (i := 7) (v := .agg #[.int .i64 (a : Nat), .int .i64 (b : Nat), .int .i64 (d : Nat), .slice (some ⟨g2, 0, none⟩) m c2]) rfl (by kernel_rfl) (by kernel_rfl) (by kernel_rfl) (fun _ _ _ h => h) (Or.inl ⟨by kernel_rfl, ?_⟩) (by assumption) ?_
        · intro wz hSw
          obtain ⟨h0, h1, h2, h3, _⟩ := GQ.out wz hSw
          go_simp
        try simp only [Act.put, List.getElem_toArray, List.getElem_cons_succ, List.getElem_cons_zero, List.setIfInBounds_toArray, List.set_cons_zero, List.set_cons_succ]
        refine wpAnyH_ready (rs := [8]) (by kernel_rfl) (by simp) ?_
        refine AllReadyH.cons rfl (fun K hK => ?_) AllReadyH.nil
        go_simp
        go_at_call 11
        refine (rsame_self x2 a b d (.slice (some ⟨g1, 0, none⟩) m c1) (.slice (some ⟨g2, 0, none⟩) m c2) lr (HSd.out.below B_x2.out (Nat.le_refl _)) (HTd.out.below B_x2.out (Nat.le_refl _))).mono ?_
        rintro er x3 ⟨rfl, b1⟩
        have B_x3 : Hid (Below wd.heap.size wd x3) := Lib.hid (B_x2.out.trans (b1.mono B_x2.out.size))
        clear b1
        go_wp2_with fail
        refine hK.out _ _ B_x3.out (fun hHeld => ?_)
        clear hK K
        try simp only [Act.put, List.getElem_toArray, List.getElem_cons_succ, List.getElem_cons_zero, List.setIfInBounds_toArray, List.set_cons_zero, List.set_cons_succ]
        refine wpAnyH_take (i := 9) (v := .bool true) rfl (by kernel_rfl) (by kernel_rfl) (by kernel_rfl) (fun _ _ _ h => h) (Or.inl ⟨by kernel_rfl, ?_⟩) (by assumption) ?_
        · intro wz hSw
          go_simp
        try simp only [Act.put, List.getElem_toArray, List.getElem_cons_succ, List.getElem_cons_zero, List.setIfInBounds_toArray, List.set_cons_zero, List.set_cons_succ]
        refine wpAnyH_take (i := 10) (v := .bool true) rfl (by kernel_rfl) (by kernel_rfl) (by kernel_rfl) (fun _ _ _ h => h) (Or.inl ⟨by kernel_rfl, ?_⟩) (by assumption) ?_
        · intro wz hSw
          go_simp
        try simp only [Act.put, List.getElem_toArray, List.getElem_cons_succ, List.getElem_cons_zero, List.setIfInBounds_toArray, List.set_cons_zero, List.set_cons_succ]
        refine wpAnyH_take (i := 11) (v := .int .i64 0) rfl (by kernel_rfl) (by kernel_rfl) (by kernel_rfl) (fun _ _ _ h => h) (Or.inl ⟨by kernel_rfl, ?_⟩) (by assumption) ?_
        · intro wz hSw
          go_simp
        try simp only [Act.put, List.getElem_toArray, List.getElem_cons_succ, List.getElem_cons_zero, List.setIfInBounds_toArray, List.set_cons_zero, List.set_cons_succ]
        refine wpAnyH_take (i := 12) (v := .int .i64 0) rfl (by kernel_rfl) (by kernel_rfl) (by kernel_rfl) (fun _ _ _ h => h) (Or.inl ⟨by kernel_rfl, ?_⟩) (by assumption) ?_
        · intro wz hSw
          go_simp
        try simp only [Act.put, List.getElem_toArray, List.getElem_cons_succ, List.getElem_cons_zero, List.setIfInBounds_toArray, List.set_cons_zero, List.set_cons_succ]
        refine wpAnyH_take (i := 13) (v := .bool true) rfl (by kernel_rfl) (by kernel_rfl) (by kernel_rfl) (fun _ _ _ h => h) (Or.inl ⟨by kernel_rfl, ?_⟩) (by assumption) ?_
        · intro wz hSw
          go_simp
        try simp only [Act.put, List.getElem_toArray, List.getElem_cons_succ, List.getElem_cons_zero, List.setIfInBounds_toArray, List.set_cons_zero, List.set_cons_succ]
        refine wpAnyH_take (i := 14) (v := .bool true) rfl (by kernel_rfl) (by kernel_rfl) (by kernel_rfl) (fun _ _ _ h => h) (Or.inl ⟨by kernel_rfl, ?_⟩) (by assumption) ?_
        · intro wz hSw
          go_simp
        try simp only [Act.put, List.getElem_toArray, List.getElem_cons_succ, List.getElem_cons_zero, List.setIfInBounds_toArray, List.set_cons_zero, List.set_cons_succ]
        refine wpAnyH_take (i := 15) (v := .bool true) rfl (by kernel_rfl) (by kernel_rfl) (by kernel_rfl) (fun _ _ _ h => h) (Or.inl ⟨by kernel_rfl, ?_⟩) (by assumption) ?_
        · intro wz hSw
          go_simp
        try simp only [Act.put, List.getElem_toArray, List.getElem_cons_succ, List.getElem_cons_zero, List.setIfInBounds_toArray, List.set_cons_zero, List.set_cons_succ]
        refine wpAnyH_ready (rs := [16]) (by kernel_rfl) (by simp) ?_
        refine AllReadyH.cons rfl (fun K hK => ?_) AllReadyH.nil
        go_simp
        go_at_call 6
        refine (HAW.out x3).mono ?_
        rintro er x4 ⟨rfl, b1⟩
        have B_x4 : Hid (Below wd.heap.size wd x4) := Lib.hid (B_x3.out.trans (b1.mono B_x3.out.size))
        clear b1
        go_wp2_with fail
        refine hK.out _ _ B_x4.out (fun hHeld => ?_)
        clear hK K
        try simp only [Act.put, List.getElem_toArray, List.getElem_cons_succ, List.getElem_cons_zero, List.setIfInBounds_toArray, List.set_cons_zero, List.set_cons_succ]
        refine wpAnyH_take (i := 17) (v := .bool true) rfl (by kernel_rfl) (by kernel_rfl) (by kernel_rfl) (fun _ _ _ h => h) (Or.inl ⟨by kernel_rfl, ?_⟩) (by assumption) ?_
        · intro wz hSw
          go_simp
        try simp only [Act.put, List.getElem_toArray, List.getElem_cons_succ, List.getElem_cons_zero, List.setIfInBounds_toArray, List.set_cons_zero, List.set_cons_succ]
        refine wpAnyH_take (i := 18) (v := .bool true) rfl (by kernel_rfl) (by kernel_rfl) (by kernel_rfl) (fun _ _ _ h => h) (Or.inl ⟨by kernel_rfl, ?_⟩) (by assumption) ?_
        · intro wz hSw
          go_simp
        refine wpAnyH_done (by kernel_rfl) ?_ _
        refine NoPanic.normal ?_
        have HZ := Lib.hid (HBd.out.trans (B_x4.out.mono HBd.out.size))
        go_wp2_with fail
        go_ret
        exact ⟨rfl, HZ.out⟩
end Go.Proofs.YtfpofcfoeajkiaaGreat
/- Plain: structs of one-cell fields, opened with the bounds on what they reach. -/
namespace Go.Proofs.YtfpofcfoeajkiaaGreat
open Go.ChangeShapes Go.WideShapes Go.ChangeAt Go.RowKit Go.Deep
section
variable {H : Type} {enc : TypeId × Value → H} {P : Program} {w : World}
theorem opensW_struct3 {α0 α1 α2 : Type} {E0 : α0 → List Value} {E1 : α1 → List Value} {E2 : α2 → List Value} {Q0 : α0 → Prop} {Q1 : α1 → Prop} {Q2 : α2 → Prop} {t : TypeId} {f0 f1 f2 : Field}
    (ht : P.underlying t = some (.struct #[f0, f1, f2])) (hc : [P.cellsOf t, f0.offset, P.cellsOf f0.type, f1.offset, P.cellsOf f1.type, f2.offset, P.cellsOf f2.type] = [3, 0, 1, 1, 1, 2, 1])
    (o0 : OpensW enc P w f0.type E0 Q0) (o1 : OpensW enc P w f1.type E1 Q1) (o2 : OpensW enc P w f2.type E2 Q2) : OpensW enc P w t (ES3 E0 E1 E2) (fun x => Q0 x.1 ∧ Q1 x.2.1 ∧ Q2 x.2.2) := by
  intro fuel cs y h hW
  simp only [List.cons.injEq, and_true] at hc
  obtain ⟨c0, c1, c2, c3, c4, c5, c6⟩ := hc
  obtain ⟨xs, n, _, rfl, hl, hlen, hf⟩ := DataW.trod_struct ht h
  match xs, hlen with
  | [y0, y1, y2], _ =>
    have h0 := hf 0 f0 rfl
    have h1 := hf 1 f1 rfl
    have h2 := hf 2 f2 rfl
    rw [c0] at hl
    rw [c1, c2] at h0
    rw [c3, c4] at h1
    rw [c5, c6] at h2
    have hw0 : ∀ n ∈ y0.1.weights P f0.type, n ≤ reachBytes := fun n hn => hW n (by
      simp only [DataW.weights, ht, List.map_cons, List.map_nil, DataW.weightsEach, List.mem_append]
      exact .inl hn)
    have hw1 : ∀ n ∈ y1.1.weights P f1.type, n ≤ reachBytes := fun n hn => hW n (by
      simp only [DataW.weights, ht, List.map_cons, List.map_nil, DataW.weightsEach, List.mem_append]
      exact .inr (.inl hn))
    have hw2 : ∀ n ∈ y2.1.weights P f2.type, n ≤ reachBytes := fun n hn => hW n (by
      simp only [DataW.weights, ht, List.map_cons, List.map_nil, DataW.weightsEach, List.mem_append]
      exact .inr (.inr (.inl hn)))
    match cs, hl with
    | [a0, a1, a2], _ =>
      obtain ⟨x0, e0, q0⟩ := o0 n _ _ h0 hw0
      obtain ⟨x1, e1, q1⟩ := o1 n _ _ h1 hw1
      obtain ⟨x2, e2, q2⟩ := o2 n _ _ h2 hw2
      refine ⟨(x0, x1, x2), ?_, q0, q1, q2⟩
      show [a0, a1, a2] = E0 x0 ++ (E1 x1 ++ (E2 x2))
      rw [← e0, ← e1, ← e2]
      rfl
theorem opensW_struct4 {α0 α1 α2 α3 : Type} {E0 : α0 → List Value} {E1 : α1 → List Value} {E2 : α2 → List Value} {E3 : α3 → List Value} {Q0 : α0 → Prop} {Q1 : α1 → Prop} {Q2 : α2 → Prop} {Q3 : α3 → Prop} {t : TypeId} {f0 f1 f2 f3 : Field}
    (ht : P.underlying t = some (.struct #[f0, f1, f2, f3])) (hc : [P.cellsOf t, f0.offset, P.cellsOf f0.type, f1.offset, P.cellsOf f1.type, f2.offset, P.cellsOf f2.type, f3.offset, P.cellsOf f3.type] = [4, 0, 1, 1, 1, 2, 1, 3, 1])
    (o0 : OpensW enc P w f0.type E0 Q0) (o1 : OpensW enc P w f1.type E1 Q1) (o2 : OpensW enc P w f2.type E2 Q2) (o3 : OpensW enc P w f3.type E3 Q3) : OpensW enc P w t (ES4 E0 E1 E2 E3) (fun x => Q0 x.1 ∧ Q1 x.2.1 ∧ Q2 x.2.2.1 ∧ Q3 x.2.2.2) := by
  intro fuel cs y h hW
  simp only [List.cons.injEq, and_true] at hc
  obtain ⟨c0, c1, c2, c3, c4, c5, c6, c7, c8⟩ := hc
  obtain ⟨xs, n, _, rfl, hl, hlen, hf⟩ := DataW.trod_struct ht h
  match xs, hlen with
  | [y0, y1, y2, y3], _ =>
    have h0 := hf 0 f0 rfl
    have h1 := hf 1 f1 rfl
    have h2 := hf 2 f2 rfl
    have h3 := hf 3 f3 rfl
    rw [c0] at hl
    rw [c1, c2] at h0
    rw [c3, c4] at h1
    rw [c5, c6] at h2
    rw [c7, c8] at h3
    have hw0 : ∀ n ∈ y0.1.weights P f0.type, n ≤ reachBytes := fun n hn => hW n (by
      simp only [DataW.weights, ht, List.map_cons, List.map_nil, DataW.weightsEach, List.mem_append]
      exact .inl hn)
    have hw1 : ∀ n ∈ y1.1.weights P f1.type, n ≤ reachBytes := fun n hn => hW n (by
      simp only [DataW.weights, ht, List.map_cons, List.map_nil, DataW.weightsEach, List.mem_append]
      exact .inr (.inl hn))
    have hw2 : ∀ n ∈ y2.1.weights P f2.type, n ≤ reachBytes := fun n hn => hW n (by
      simp only [DataW.weights, ht, List.map_cons, List.map_nil, DataW.weightsEach, List.mem_append]
      exact .inr (.inr (.inl hn)))
    have hw3 : ∀ n ∈ y3.1.weights P f3.type, n ≤ reachBytes := fun n hn => hW n (by
      simp only [DataW.weights, ht, List.map_cons, List.map_nil, DataW.weightsEach, List.mem_append]
      exact .inr (.inr (.inr (.inl hn))))
    match cs, hl with
    | [a0, a1, a2, a3], _ =>
      obtain ⟨x0, e0, q0⟩ := o0 n _ _ h0 hw0
      obtain ⟨x1, e1, q1⟩ := o1 n _ _ h1 hw1
      obtain ⟨x2, e2, q2⟩ := o2 n _ _ h2 hw2
      obtain ⟨x3, e3, q3⟩ := o3 n _ _ h3 hw3
      refine ⟨(x0, x1, x2, x3), ?_, q0, q1, q2, q3⟩
      show [a0, a1, a2, a3] = E0 x0 ++ (E1 x1 ++ (E2 x2 ++ (E3 x3)))
      rw [← e0, ← e1, ← e2, ← e3]
      rfl
end
end Go.Proofs.YtfpofcfoeajkiaaGreat
/- ScrubBytes: the law returns true for every input. -/
namespace Go.Proofs.YtfpofcfoeajkiaaGreat
open Go.ChangeShapes Go.WideShapes Go.RowKit
theorem scrubBytes_ok (W : World) (x0 : Int × Int × Int × ShdA) (w0 : QWard W x0) (x1 : ByteArray) (w1 : x1.size ≤ 140737488351232) :
    Calls Tryz.prog 3 #[.agg (ES4 (EInt .i64) (EInt .i64) (EInt .i64) ESl x0).toArray, .string x1] W fun e w' => e = .returned (.bool true) ∧ Below W.heap.size W w' :=
  bytes_core W _ _ _ _ _ x1 (ward_of w0).1 (ward_of w0).2 w1
end Go.Proofs.YtfpofcfoeajkiaaGreat
