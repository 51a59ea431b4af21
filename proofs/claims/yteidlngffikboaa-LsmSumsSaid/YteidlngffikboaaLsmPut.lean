/- Walks: Put of chapter 38, of the document and of the program (printed by gen-lsm-put2.py). -/
import Derived.Test.YteidlngffikboaaLsmPack
namespace Go.Proofs.Yteidlngffikboaa
open Go.RowKit
set_option linter.unusedVariables false
set_option linter.unusedSimpArgs false
def oneL (k : ByteArray) (n : Int) : List Cnt := if n = 0 then [] else [(k, n)]
/-- one more: how the program puts it -/
theorem memL_both {l : List Cnt} (h : okR l) (k : ByteArray) (n : Int) : clipL id (bothL l (oneL k n)) = memL l k n := by
  have hr1 : RisC (oneL k n) := by unfold oneL; split <;> simp [RisC]
  obtain ⟨h1, h2, h3⟩ := memL_law k n l h.1 (okR_nz h)
  refine cnt_ext (clipL_ris (bothL_ris _ _ h.1 hr1)) h1 clipL_nz h2 fun q => ?_
  rw [clipL_in rfl (bothL_ris _ _ h.1 hr1), bothL_in _ _ h.1 hr1, h3]
  show inL l q + inL (oneL k n) q = _
  congr 1
  unfold oneL
  by_cases h0 : n = 0
  · rw [if_pos h0, h0]; simp [inL]
  · rw [if_neg h0]
    unfold inL
    by_cases e : k = q
    · rw [if_pos e, if_pos e.symm]
    · rw [if_neg e, if_neg (fun e' => e e'.symm)]; rfl
theorem inL_eq_of {l : List Cnt} (hr : RisC l) {x : Cnt} (hx : x ∈ l) : inL l x.1 = x.2 := inL_mem hr x hx
theorem memL_ok {l : List Cnt} (h : okR l) {k : ByteArray} {n : Int} (hk : k.size = 32) (hb : -bnd ≤ inL l k + n ∧ inL l k + n ≤ bnd) : okR (memL l k n) := by
  obtain ⟨h1, h2, h3⟩ := memL_law k n l h.1 (okR_nz h)
  refine ⟨h1, fun x hx => ⟨?_, h2 x hx, ?_⟩⟩
  · have hv := inL_mem h1 x hx
    rw [h3] at hv
    by_cases e : x.1 = k
    · rw [e]; exact hk
    · rw [if_neg e] at hv
      have hne : inL l x.1 ≠ 0 := by have := h2 x hx; omega
      obtain ⟨y, hy1, hy2, _⟩ := inL_some hne
      rw [← hy2]; exact (h.2 y hy1).1
  · have hv := inL_mem h1 x hx
    rw [h3] at hv
    by_cases e : x.1 = k
    · rw [if_pos e, e] at hv; rw [← hv]; exact hb
    · rw [if_neg e] at hv
      have := inL_bound2 h x.1
      rw [← hv]; omega
theorem memL_len {l : List Cnt} (h : okR l) (k : ByteArray) (n : Int) : (memL l k n).length ≤ l.length + 1 := by
  rw [← memL_both h]
  have h1 := clipL_len id (bothL l (oneL k n))
  have h2 := bothL_len l (oneL k n)
  have h3 : (oneL k n).length ≤ 1 := by unfold oneL; split <;> simp
  omega
def putL (s : CntS) (k : ByteArray) (n : Int) : CntS × Int :=
  if k.size ≠ 32 then (s, 11) else if ¬ (-1000000 ≤ n ∧ n ≤ 1000000 ∧ -bnd ≤ inL s.1 k + n ∧ inL s.1 k + n ≤ bnd) then (s, 4) else
    if (memL s.1 k n).length < 8 then ((memL s.1 k n, s.2), 0) else if 12 ≤ s.2.length then (s, 9) else (([], comeP s.2 (memL s.1 k n)), 0)
set_option maxRecDepth 20000 in
set_option maxHeartbeats 4000000 in
theorem rput_any (w : World) (v : Value) (s : CntS) (k : ByteArray) (n : Int) (hs : LsmN w v s) (ok : okS s) (hl : sizeS s ≤ 900000) (hn : s.2.length ≤ 100) (h63 : -9223372036854775808 ≤ n ∧ n ≤ 9223372036854775807) (hks : k.size ≤ 1000000) :
    Calls Try.prog 17 #[v, .string k, .int .i64 n] w fun e w' => ∃ v', e = .returned (.tuple #[v', .int .i64 (putL s k n).2]) ∧ LsmN w' v' (putL s k n).1 ∧ Below w.heap.size w w' := by
  have HS := Lib.hid hs
  have hs0 := hs
  obtain ⟨vm, vr, rfl, hm, hr⟩ := hs0
  obtain ⟨wE, hwE⟩ : ∃ wE, wE = (w.alloc (.cells #[vm, vr] 25)).alloc (.cells #[.slice none 0 0, .slice none 0 0] 25) := ⟨_, rfl⟩
  have HT : Hid (TwoB w vm vr wE) := by rw [hwE]; exact twoB_new w vm vr
  have HWE := Lib.hid hwE.symm
  have HOK := Lib.hid ok
  have HLN := Lib.hid hl
  have HML : Hid (s.1.length ≤ 900000) := by unfold sizeS at hl; unfold Hid; omega
  have HIN : Hid (∀ W, Below w.heap.size w W → Calls Try.prog 50 #[vm, .string k] W fun e W' => e = .returned (.int .i64 (inL s.1 k)) ∧ Below W.heap.size W W') := fun W hb => (rin_any W _ s.1 k (hm.1.below hb (Nat.le_refl _)) (by unfold sizeS at hl; omega)).mono (by rintro e W' ⟨rfl, rfl⟩; exact ⟨rfl, Below.refl _ _⟩)
  have HIB := Lib.hid (inL_bound2 ok.1 k)
  have HM := Lib.hid hm
  have HR := Lib.hid hr
  obtain ⟨A0, c0, rfl, z0⟩ := hm.1.shape
  obtain ⟨A, c, rfl, z1, z2⟩ := hr.shape
  clear hwE z0 hm hr z1 z2 ok hl hs
  have HSV : Hid (∀ W, Below w.heap.size w W → LsmN W (LsmV (.slice A0 s.1.length c0) (.slice A s.2.length c)) s) := fun W hb => HS.out.below hb (Nat.le_refl _)
  have HB2 : Hid (Below w.heap.size w ((w.alloc (.cells #[.slice A0 s.1.length c0, .slice A s.2.length c] 25)).alloc (.cells #[.slice A0 s.1.length c0, .slice A s.2.length c] 25))) := ((Below.refl _ _).alloc (Nat.le_refl _) _).alloc (by simp) _
  have HP : Hid (putL s k n = if k.size ≠ 32 then (s, 11) else if ¬ (-1000000 ≤ n ∧ n ≤ 1000000 ∧ -bnd ≤ inL s.1 k + n ∧ inL s.1 k + n ≤ bnd) then (s, 4) else
    if (memL s.1 k n).length < 8 then ((memL s.1 k n, s.2), 0) else if 12 ≤ s.2.length then (s, 9) else (([], comeP s.2 (memL s.1 k n)), 0)) := rfl
  unfold LsmV at HSV
  unfold LsmV
  obtain ⟨lm, hlm⟩ : ∃ lm, lm = s.1.length := ⟨_, rfl⟩
  obtain ⟨lr, hlr⟩ : ∃ lr, lr = s.2.length := ⟨_, rfl⟩
  have HLR := Lib.hid hlr
  rw [← hlm] at HT HWE HIN HM HSV HML HB2
  rw [← hlr] at HT HWE HR HSV HB2 hn
  rw [← hlm, ← hlr]
  clear HS hlm hlr
  by_cases hk : k.size = 32
  · have hk1 : ((k.size : Int) != 32) = false := by simp [hk]
    have hk2 : (k.size != 32) = false := by simp [hk]
    have HK := Lib.hid hk
    clear hk
    by_cases hst : -1000000 ≤ n ∧ n ≤ 1000000
    · have hib := HIB.out
      unfold bnd at hib
      have hst1 := hst.1
      have hst2 := hst.2
      have s1 : decide (n < -1000000) = false := by rw [decide_eq_false_iff_not]; omega
      have s2 : decide ((1000000 : Int) < n) = false := by rw [decide_eq_false_iff_not]; omega
      by_cases hsm : -1000000000 ≤ inL s.1 k + n ∧ inL s.1 k + n ≤ 1000000000
      · have HMO := Lib.hid (memL_ok HOK.out.1 HK.out (show -bnd ≤ inL s.1 k + n ∧ inL s.1 k + n ≤ bnd from hsm))
        have HME := Lib.hid (memL_len HOK.out.1 k n)
        have HMEM : Hid (∀ W, Below w.heap.size w W → Calls Try.prog 51 #[.slice A0 lm c0, .string k, .int .i64 n] W fun e W' => ∃ v', e = .returned v' ∧ CntN W' v' (memL s.1 k n) ∧ Below W.heap.size W W') := fun W hb => (rmem_any W _ s.1 k n (HM.out.1.below hb (Nat.le_refl _)) HOK.out.1.1 (okR_nz HOK.out.1) (fun x hx => (HOK.out.1.2 x hx).2.2) (by omega) (by have := HLN.out; unfold sizeS at this; omega)).mono (by rintro e W' ⟨v', rfl, h1, h2⟩; exact ⟨v', rfl, CntN.of_owns h1, h2⟩)
        have HCOME : Hid (∀ W vm', Below w.heap.size w W → CntN W vm' (memL s.1 k n) → Calls Try.prog 52 #[.slice A lr c, vm'] W fun e W' => ∃ v', e = .returned v' ∧ RunsN W' v' (comeP s.2 (memL s.1 k n)) ∧ Below W.heap.size W W') := fun W vm' hb hc => rcome_any W _ _ s.2 _ (HR.out.below hb (Nat.le_refl _)) hc (fun x hx => by rcases List.mem_cons.1 hx with rfl | hx; exact HMO.out; exact (HOK.out.2.1 x hx).2) (by have := HLN.out; have := HME.out; unfold sizeS at *; omega) (by have := HLR.out; omega)
        have HCO := Lib.hid (comeP_ok HOK.out.2 HMO.out)
        have HP2 : Hid (putL s k n = if (memL s.1 k n).length < 8 then ((memL s.1 k n, s.2), 0) else if 12 ≤ s.2.length then (s, 9) else (([], comeP s.2 (memL s.1 k n)), 0)) := by
          rw [HP.out, if_neg (fun h => h HK.out), if_neg (fun h => h ⟨hst1, hst2, hsm⟩)]; rfl
        have hsm1 := hsm.1
        have hsm2 := hsm.2
        have s3 : decide ((1000000000 : Int) < inL s.1 k + n) = false := by rw [decide_eq_false_iff_not]; omega
        have s4 : decide (inL s.1 k + n < -1000000000) = false := by rw [decide_eq_false_iff_not]; omega
        clear hsm HP
        generalize memL s.1 k n = m at *
        generalize inL s.1 k = p at *
        have x0 := HT.out.c0
        have x1 := HT.out.c1
        have n0 := HT.out.b.c0
        have n1 := HT.out.b.c1
        have nf0 := HT.out.b.f 0
        have nf1 := HT.out.b.f 1
        go_enter Try.func17, Try.ntmps17
        go_wp2_with fail
        rw [HWE.out]
        have HI1 := Lib.hid (HIN.out wE HT.out.low)
        go_wp2_with fail
        refine HI1.out.mono ?_
        rintro e w1 ⟨rfl, b1⟩
        have HT1 := Lib.hid (HT.out.below b1)
        clear b1 HI1 x0 x1 n0 n1 nf0 nf1
        have x0 := HT1.out.c0
        have x1 := HT1.out.c1
        have n0 := HT1.out.b.c0
        have n1 := HT1.out.b.c1
        have nf0 := HT1.out.b.f 0
        have nf1 := HT1.out.b.f 1
        have HM2 := Lib.hid (HMEM.out w1 HT1.out.low)
        go_wp2_with fail
        refine HM2.out.mono ?_
        rintro e w3 ⟨v3, rfl, hC3, b3⟩
        clear HM2 HMEM
        have HT3 := Lib.hid (HT1.out.below b3)
        have HC3 := Lib.hid hC3
        obtain ⟨A3, c3, rfl, z3⟩ := hC3.1.shape
        clear hC3 b3 z3 x0 x1 n0 n1 nf0 nf1
        have x0 := HT3.out.c0
        have x1 := HT3.out.c1
        have n0 := HT3.out.b.c0
        have n1 := HT3.out.b.c1
        have nf0 := HT3.out.b.f 0
        have nf1 := HT3.out.b.f 1
        by_cases h8 : m.length < 8
        · have HE : Hid (putL s k n = ((m, s.2), 0)) := by rw [HP2.out, if_pos h8]; rfl
          have h81 : decide ((m.length : Int) < 8) = true := by rw [decide_eq_true_iff]; omega
          have h82 : decide (m.length < 8) = true := by rw [decide_eq_true_iff]; omega
          clear HP2
          go_wp2_with fail
          refine bodyPost_cellE (V := .agg #[.slice A3 m.length c3, .slice A lr c]) rfl rfl ?_ rfl ?_
          · go_simp
          · rw [HE.out]
            have hb := twoB_set HT3.out (.slice A3 m.length c3) (.slice A lr c)
            exact ⟨_, rfl, ⟨_, _, rfl, HC3.out.off (fun o x hx => ⟨none, 0, 0, HT3.out.b.cells o x hx⟩) (fun k hk => set2_keep _ _ _ _ k hk) (by rw [set2_size]; exact Nat.le_refl _), HR.out.below hb (Nat.le_refl _)⟩, hb⟩
        · have h81 : decide ((m.length : Int) < 8) = false := by rw [decide_eq_false_iff_not]; omega
          have h82 : decide (m.length < 8) = false := by rw [decide_eq_false_iff_not]; omega
          by_cases h12 : 12 ≤ lr
          · have HE : Hid (putL s k n = (s, 9)) := by rw [HP2.out, if_neg h8, if_pos (by rw [← HLR.out]; exact h12)]; rfl
            have h121 : decide ((12 : Int) ≤ (lr : Int)) = true := by rw [decide_eq_true_iff]; omega
            have h122 : decide (12 ≤ lr) = true := by rw [decide_eq_true_iff]; omega
            clear HP2
            go_wp2_with fail
            refine bodyPost_cellE (V := .agg #[.slice A0 lm c0, .slice A lr c]) rfl rfl ?_ rfl ?_
            · go_simp
            · rw [HE.out]
              have hb := twoB_set HT3.out (.slice A0 lm c0) (.slice A lr c)
              exact ⟨_, rfl, HSV.out _ hb, hb⟩
          · have HE : Hid (putL s k n = (([], comeP s.2 m), 0)) := by rw [HP2.out, if_neg h8, if_neg (by rw [← HLR.out]; exact h12)]; rfl
            have h121 : decide ((12 : Int) ≤ (lr : Int)) = false := by rw [decide_eq_false_iff_not]; omega
            have h122 : decide (12 ≤ lr) = false := by rw [decide_eq_false_iff_not]; omega
            have HCM := Lib.hid (HCOME.out w3 _ HT3.out.low HC3.out)
            clear HP2 HCOME
            go_wp2_with fail
            refine HCM.out.mono ?_
            rintro e w4 ⟨v4, rfl, hR4, b4⟩
            have HR4 := Lib.hid hR4
            have HT4 := Lib.hid (HT3.out.below b4)
            obtain ⟨A4, c4, rfl, y1, y2⟩ := hR4.shape
            clear hR4 b4 HCM y1 y2 x0 x1 n0 n1 nf0 nf1
            have n0 := HT4.out.b.c0
            have n1 := HT4.out.b.c1
            have nf0 := HT4.out.b.f 0
            have nf1 := HT4.out.b.f 1
            go_wp2_with fail
            refine bodyPost_cellE (V := .agg #[.slice none 0 0, .slice A4 (comeP s.2 m).length c4]) rfl rfl ?_ rfl ?_
            · go_simp
            · rw [HE.out]
              have hb := twoB_set HT4.out (.slice none 0 0) (.slice A4 (comeP s.2 m).length c4)
              exact ⟨_, rfl, ⟨_, _, rfl, CntN.nil _, HR4.out.off (fun r hr => (HCO.out.1.1 r hr).1) HT4.out.b.cells (fun k hk => set2_keep _ _ _ _ k hk) (by rw [set2_size]; exact Nat.le_refl _)⟩, hb⟩
      · have HE : Hid (putL s k n = (s, 4)) := by
          rw [HP.out, if_neg (fun h => h HK.out), if_pos (fun h => hsm ⟨h.2.2.1, h.2.2.2⟩)]; rfl
        by_cases hg : 1000000000 < inL s.1 k + n
        · have s3 : decide ((1000000000 : Int) < inL s.1 k + n) = true := by rw [decide_eq_true_iff]; omega
          clear hsm HP hg hst
          generalize inL s.1 k = p at *
          have x0 := HT.out.c0
          have x1 := HT.out.c1
          have n0 := HT.out.b.c0
          have n1 := HT.out.b.c1
          have nf0 := HT.out.b.f 0
          have nf1 := HT.out.b.f 1
          go_enter Try.func17, Try.ntmps17
          go_wp2_with fail
          rw [HWE.out]
          have HI1 := Lib.hid (HIN.out wE HT.out.low)
          go_wp2_with fail
          refine HI1.out.mono ?_
          rintro e w1 ⟨rfl, b1⟩
          have HT1 := Lib.hid (HT.out.below b1)
          clear b1 HI1 x0 x1 n0 n1 nf0 nf1
          have x0 := HT1.out.c0
          have x1 := HT1.out.c1
          have n0 := HT1.out.b.c0
          have n1 := HT1.out.b.c1
          have nf0 := HT1.out.b.f 0
          have nf1 := HT1.out.b.f 1
          go_wp2_with fail
          refine bodyPost_cellE (V := .agg #[.slice A0 lm c0, .slice A lr c]) rfl rfl ?_ rfl ?_
          · go_simp
          · rw [HE.out]
            have hb := twoB_set HT1.out (.slice A0 lm c0) (.slice A lr c)
            exact ⟨_, rfl, HSV.out _ hb, hb⟩
        · have s3 : decide ((1000000000 : Int) < inL s.1 k + n) = false := by rw [decide_eq_false_iff_not]; omega
          have s4 : decide (inL s.1 k + n < -1000000000) = true := by rw [decide_eq_true_iff]; omega
          clear hsm HP hg hst
          generalize inL s.1 k = p at *
          have x0 := HT.out.c0
          have x1 := HT.out.c1
          have n0 := HT.out.b.c0
          have n1 := HT.out.b.c1
          have nf0 := HT.out.b.f 0
          have nf1 := HT.out.b.f 1
          go_enter Try.func17, Try.ntmps17
          go_wp2_with fail
          rw [HWE.out]
          have HI1 := Lib.hid (HIN.out wE HT.out.low)
          go_wp2_with fail
          refine HI1.out.mono ?_
          rintro e w1 ⟨rfl, b1⟩
          have HT1 := Lib.hid (HT.out.below b1)
          clear b1 HI1 x0 x1 n0 n1 nf0 nf1
          have x0 := HT1.out.c0
          have x1 := HT1.out.c1
          have n0 := HT1.out.b.c0
          have n1 := HT1.out.b.c1
          have nf0 := HT1.out.b.f 0
          have nf1 := HT1.out.b.f 1
          go_wp2_with fail
          refine bodyPost_cellE (V := .agg #[.slice A0 lm c0, .slice A lr c]) rfl rfl ?_ rfl ?_
          · go_simp
          · rw [HE.out]
            have hb := twoB_set HT1.out (.slice A0 lm c0) (.slice A lr c)
            exact ⟨_, rfl, HSV.out _ hb, hb⟩
    · have HE : Hid (putL s k n = (s, 4)) := by
        rw [HP.out, if_neg (fun h => h HK.out), if_pos (fun h => hst ⟨h.1, h.2.1⟩)]; rfl
      clear HP
      by_cases hg : n < -1000000
      · have s1 : decide (n < -1000000) = true := by rw [decide_eq_true_iff]; omega
        clear hst hg
        generalize inL s.1 k = p at *
        have x0 := HT.out.c0
        have x1 := HT.out.c1
        have n0 := HT.out.b.c0
        have n1 := HT.out.b.c1
        have nf0 := HT.out.b.f 0
        have nf1 := HT.out.b.f 1
        go_enter Try.func17, Try.ntmps17
        go_wp2_with fail
        rw [HWE.out]
        have HI1 := Lib.hid (HIN.out wE HT.out.low)
        go_wp2_with fail
        refine HI1.out.mono ?_
        rintro e w1 ⟨rfl, b1⟩
        have HT1 := Lib.hid (HT.out.below b1)
        clear b1 HI1 x0 x1 n0 n1 nf0 nf1
        have x0 := HT1.out.c0
        have x1 := HT1.out.c1
        have n0 := HT1.out.b.c0
        have n1 := HT1.out.b.c1
        have nf0 := HT1.out.b.f 0
        have nf1 := HT1.out.b.f 1
        go_wp2_with fail
        refine bodyPost_cellE (V := .agg #[.slice A0 lm c0, .slice A lr c]) rfl rfl ?_ rfl ?_
        · go_simp
        · rw [HE.out]
          have hb := twoB_set HT1.out (.slice A0 lm c0) (.slice A lr c)
          exact ⟨_, rfl, HSV.out _ hb, hb⟩
      · have s1 : decide (n < -1000000) = false := by rw [decide_eq_false_iff_not]; omega
        have s2 : decide ((1000000 : Int) < n) = true := by rw [decide_eq_true_iff]; omega
        clear hst hg
        generalize inL s.1 k = p at *
        have x0 := HT.out.c0
        have x1 := HT.out.c1
        have n0 := HT.out.b.c0
        have n1 := HT.out.b.c1
        have nf0 := HT.out.b.f 0
        have nf1 := HT.out.b.f 1
        go_enter Try.func17, Try.ntmps17
        go_wp2_with fail
        rw [HWE.out]
        have HI1 := Lib.hid (HIN.out wE HT.out.low)
        go_wp2_with fail
        refine HI1.out.mono ?_
        rintro e w1 ⟨rfl, b1⟩
        have HT1 := Lib.hid (HT.out.below b1)
        clear b1 HI1 x0 x1 n0 n1 nf0 nf1
        have x0 := HT1.out.c0
        have x1 := HT1.out.c1
        have n0 := HT1.out.b.c0
        have n1 := HT1.out.b.c1
        have nf0 := HT1.out.b.f 0
        have nf1 := HT1.out.b.f 1
        go_wp2_with fail
        refine bodyPost_cellE (V := .agg #[.slice A0 lm c0, .slice A lr c]) rfl rfl ?_ rfl ?_
        · go_simp
        · rw [HE.out]
          have hb := twoB_set HT1.out (.slice A0 lm c0) (.slice A lr c)
          exact ⟨_, rfl, HSV.out _ hb, hb⟩
  · have HE : Hid (putL s k n = (s, 11)) := by rw [HP.out, if_pos hk]; rfl
    have hk1 : ((k.size : Int) != 32) = true := by simp; omega
    have hk2 : (k.size != 32) = true := by simp [hk]
    clear HP hk
    go_enter Try.func17, Try.ntmps17
    go_wp2_with fail
    refine bodyPost_cellE (V := .agg #[.slice A0 lm c0, .slice A lr c]) rfl rfl ?_ rfl ?_
    · go_simp
    · rw [HE.out]
      have hb := HB2.out
      exact ⟨_, rfl, HSV.out _ hb, hb⟩
set_option maxRecDepth 20000 in
set_option maxHeartbeats 4000000 in
theorem pput_any (w : World) (v : Value) (s : CntS) (k : ByteArray) (n : Int) (hs : LsmN w v s) (ok : okS s) (hl : sizeS s ≤ 900000) (hn : s.2.length ≤ 100) (h63 : -9223372036854775808 ≤ n ∧ n ≤ 9223372036854775807) (hks : k.size ≤ 1000000) :
    Calls Try.prog 16 #[v, .string k, .int .i64 n] w fun e w' => ∃ v', e = .returned (.tuple #[v', .int .i64 (putL s k n).2]) ∧ LsmN w' v' (putL s k n).1 ∧ Below w.heap.size w w' ∧ FreshS w.heap.size v v' := by
  have HS := Lib.hid hs
  have hs0 := hs
  obtain ⟨vm, vr, rfl, hm, hr⟩ := hs0
  obtain ⟨wE, hwE⟩ : ∃ wE, wE = (w.alloc (.cells #[vm, vr] 25)).alloc (.cells #[.slice none 0 0, .slice none 0 0] 25) := ⟨_, rfl⟩
  have HT : Hid (TwoB w vm vr wE) := by rw [hwE]; exact twoB_new w vm vr
  have HWE := Lib.hid hwE.symm
  have HOK := Lib.hid ok
  have HLN := Lib.hid hl
  have HML : Hid (s.1.length ≤ 900000) := by unfold sizeS at hl; unfold Hid; omega
  have HIN : Hid (∀ W, Below w.heap.size w W → Calls Try.prog 45 #[vm, .string k] W fun e W' => e = .returned (.int .i64 (inL s.1 k)) ∧ Below W.heap.size W W') := fun W hb => lin_any W _ s.1 k (hm.1.below hb (Nat.le_refl _)) ok.1.1 (by unfold sizeS at hl; omega)
  have HIB := Lib.hid (inL_bound2 ok.1 k)
  have HM := Lib.hid hm
  have HR := Lib.hid hr
  obtain ⟨A0, c0, rfl, z0⟩ := hm.1.shape
  obtain ⟨A, c, rfl, z1, z2⟩ := hr.shape
  clear hwE z0 hm hr z1 z2 ok hl hs
  have HSV : Hid (∀ W, Below w.heap.size w W → LsmN W (LsmV (.slice A0 s.1.length c0) (.slice A s.2.length c)) s) := fun W hb => HS.out.below hb (Nat.le_refl _)
  have HB2 : Hid (Below w.heap.size w ((w.alloc (.cells #[.slice A0 s.1.length c0, .slice A s.2.length c] 25)).alloc (.cells #[.slice A0 s.1.length c0, .slice A s.2.length c] 25))) := ((Below.refl _ _).alloc (Nat.le_refl _) _).alloc (by simp) _
  have HP : Hid (putL s k n = if k.size ≠ 32 then (s, 11) else if ¬ (-1000000 ≤ n ∧ n ≤ 1000000 ∧ -bnd ≤ inL s.1 k + n ∧ inL s.1 k + n ≤ bnd) then (s, 4) else
    if (memL s.1 k n).length < 8 then ((memL s.1 k n, s.2), 0) else if 12 ≤ s.2.length then (s, 9) else (([], comeP s.2 (memL s.1 k n)), 0)) := rfl
  unfold LsmV at HSV
  unfold LsmV
  obtain ⟨lm, hlm⟩ : ∃ lm, lm = s.1.length := ⟨_, rfl⟩
  obtain ⟨lr, hlr⟩ : ∃ lr, lr = s.2.length := ⟨_, rfl⟩
  have HLR := Lib.hid hlr
  rw [← hlm] at HT HWE HIN HM HSV HML HB2
  rw [← hlr] at HT HWE HR HSV HB2 hn
  rw [← hlm, ← hlr]
  clear HS hlm hlr
  by_cases hk : k.size = 32
  · have hk1 : ((k.size : Int) != 32) = false := by simp [hk]
    have hk2 : (k.size != 32) = false := by simp [hk]
    have HK := Lib.hid hk
    clear hk
    by_cases hst : -1000000 ≤ n ∧ n ≤ 1000000
    · have hib := HIB.out
      unfold bnd at hib
      have hst1 := hst.1
      have hst2 := hst.2
      have s1 : decide (n < -1000000) = false := by rw [decide_eq_false_iff_not]; omega
      have s2 : decide ((1000000 : Int) < n) = false := by rw [decide_eq_false_iff_not]; omega
      have HW1 : Hid (∀ W, Calls Try.prog 44 #[.int .i64 n, .int .i64 1000000] W fun e W' => e = .returned (.bool true) ∧ W = W') := fun W => by have := within_any n 1000000 (by omega) W; rw [decide_eq_true hst] at this; exact this
      by_cases hsm : -1000000000 ≤ inL s.1 k + n ∧ inL s.1 k + n ≤ 1000000000
      · have HMO := Lib.hid (memL_ok HOK.out.1 HK.out (show -bnd ≤ inL s.1 k + n ∧ inL s.1 k + n ≤ bnd from hsm))
        have HME := Lib.hid (memL_len HOK.out.1 k n)
        have HSUM : Hid (∀ W vb, Below w.heap.size w W → CntB W vb (oneL k n) → Calls Try.prog 46 #[.slice A0 lm c0, vb, .func (.func 47) #[] #[]] W fun e W' => ∃ v', e = .returned v' ∧ CntN W' v' (memL s.1 k n) ∧ Below W.heap.size W W') := fun W vb hb hc => by
          have := sumW_any W _ vb s.1 (oneL k n) (HM.out.1.below hb (Nat.le_refl _)) hc (fun x hx => (HOK.out.1.2 x hx).2.2) (fun x hx => by unfold oneL at hx; split at hx <;> simp at hx; rw [hx]; unfold bnd; dsimp only; omega) (by have := HLN.out; have h3 : (oneL k n).length ≤ 1 := (by unfold oneL; split <;> simp); unfold sizeS at *; omega)
          rw [memL_both HOK.out.1] at this
          exact this
        have HCOME : Hid (∀ W vm', Below w.heap.size w W → CntN W vm' (memL s.1 k n) → Calls Try.prog 48 #[.slice A lr c, vm', .func (.func 49) #[] #[]] W fun e W' => ∃ v', e = .returned v' ∧ RunsN W' v' (comeP s.2 (memL s.1 k n)) ∧ Below W.heap.size W W' ∧ (v' = .slice A lr c ∨ FreshV W.heap.size v')) := fun W vm' hb hc => pcome_any mergeN_any W _ _ s.2 _ (HR.out.below hb (Nat.le_refl _)) hc (fun x hx => by rcases List.mem_cons.1 hx with rfl | hx; exact HMO.out; exact (HOK.out.2.1 x hx).2) (by have := HLN.out; have := HME.out; unfold sizeS at *; omega) (by have := HLR.out; omega)
        have HCO := Lib.hid (comeP_ok HOK.out.2 HMO.out)
        have HP2 : Hid (putL s k n = if (memL s.1 k n).length < 8 then ((memL s.1 k n, s.2), 0) else if 12 ≤ s.2.length then (s, 9) else (([], comeP s.2 (memL s.1 k n)), 0)) := by
          rw [HP.out, if_neg (fun h => h HK.out), if_neg (fun h => h ⟨hst1, hst2, hsm⟩)]; rfl
        have hsm1 := hsm.1
        have hsm2 := hsm.2
        have s3 : decide ((1000000000 : Int) < inL s.1 k + n) = false := by rw [decide_eq_false_iff_not]; omega
        have s4 : decide (inL s.1 k + n < -1000000000) = false := by rw [decide_eq_false_iff_not]; omega
        have HW2 : Hid (∀ W, Calls Try.prog 44 #[.int .i64 (inL s.1 k + n), .int .i64 1000000000] W fun e W' => e = .returned (.bool true) ∧ W = W') := fun W => by have := within_any (inL s.1 k + n) 1000000000 (by omega) W; rw [decide_eq_true hsm] at this; exact this
        clear hsm HP
        generalize memL s.1 k n = m at *
        generalize inL s.1 k = p at *
        have x0 := HT.out.c0
        have x1 := HT.out.c1
        have n0 := HT.out.b.c0
        have n1 := HT.out.b.c1
        have nf0 := HT.out.b.f 0
        have nf1 := HT.out.b.f 1
        go_enter Try.func16, Try.ntmps16
        go_wp2_with fail
        refine (HW1.out _).mono ?_
        rintro e w' ⟨rfl, rfl⟩
        rw [HWE.out]
        have HI1 := Lib.hid (HIN.out wE HT.out.low)
        go_wp2_with fail
        refine HI1.out.mono ?_
        rintro e w1 ⟨rfl, b1⟩
        have HT1 := Lib.hid (HT.out.below b1)
        clear b1 HI1 x0 x1 n0 n1 nf0 nf1
        have x0 := HT1.out.c0
        have x1 := HT1.out.c1
        have n0 := HT1.out.b.c0
        have n1 := HT1.out.b.c1
        have nf0 := HT1.out.b.f 0
        have nf1 := HT1.out.b.f 1
        go_wp2_with fail
        refine (HW2.out _).mono ?_
        rintro e w' ⟨rfl, rfl⟩
        by_cases hn0 : n = 0
        · have hnz : (n != 0) = false := by simp [hn0]
          have HSU := Lib.hid (HSUM.out w1 (.slice none 0 0) HT1.out.low (by unfold oneL; rw [if_pos hn0]; exact CntB.nil _))
          have HN0 := Lib.hid hn0
          clear hn0 HSUM
          go_wp2_with fail
          refine HSU.out.mono ?_
          rintro e w3 ⟨v3, rfl, hC3, b3⟩
          clear HSU
          have HT3 := Lib.hid (HT1.out.below b3)
          have HC3 := Lib.hid hC3
          obtain ⟨A3, c3, rfl, z3⟩ := hC3.1.shape
          clear hC3 b3 z3 x0 x1 n0 n1 nf0 nf1
          have x0 := HT3.out.c0
          have x1 := HT3.out.c1
          have n0 := HT3.out.b.c0
          have n1 := HT3.out.b.c1
          have nf0 := HT3.out.b.f 0
          have nf1 := HT3.out.b.f 1
          by_cases h8 : m.length < 8
          · have HE : Hid (putL s k n = ((m, s.2), 0)) := by rw [HP2.out, if_pos h8]; rfl
            have h81 : decide ((m.length : Int) < 8) = true := by rw [decide_eq_true_iff]; omega
            have h82 : decide (m.length < 8) = true := by rw [decide_eq_true_iff]; omega
            clear HP2
            go_wp2_with fail
            refine bodyPost_cellE (V := .agg #[.slice A3 m.length c3, .slice A lr c]) rfl rfl ?_ rfl ?_
            · go_simp
            · rw [HE.out]
              have hb := twoB_set HT3.out (.slice A3 m.length c3) (.slice A lr c)
              exact ⟨_, rfl, ⟨_, _, rfl, HC3.out.off (fun o x hx => ⟨none, 0, 0, HT3.out.b.cells o x hx⟩) (fun k hk => set2_keep _ _ _ _ k hk) (by rw [set2_size]; exact Nat.le_refl _), HR.out.below hb (Nat.le_refl _)⟩, hb, ⟨_, _, _, _, rfl, rfl, .inl rfl⟩⟩
          · have h81 : decide ((m.length : Int) < 8) = false := by rw [decide_eq_false_iff_not]; omega
            have h82 : decide (m.length < 8) = false := by rw [decide_eq_false_iff_not]; omega
            by_cases h12 : 12 ≤ lr
            · have HE : Hid (putL s k n = (s, 9)) := by rw [HP2.out, if_neg h8, if_pos (by rw [← HLR.out]; exact h12)]; rfl
              have h121 : decide ((12 : Int) ≤ (lr : Int)) = true := by rw [decide_eq_true_iff]; omega
              have h122 : decide (12 ≤ lr) = true := by rw [decide_eq_true_iff]; omega
              clear HP2
              go_wp2_with fail
              refine bodyPost_cellE (V := .agg #[.slice A0 lm c0, .slice A lr c]) rfl rfl ?_ rfl ?_
              · go_simp
              · rw [HE.out]
                have hb := twoB_set HT3.out (.slice A0 lm c0) (.slice A lr c)
                exact ⟨_, rfl, HSV.out _ hb, hb, ⟨_, _, _, _, rfl, rfl, .inl rfl⟩⟩
            · have HE : Hid (putL s k n = (([], comeP s.2 m), 0)) := by rw [HP2.out, if_neg h8, if_neg (by rw [← HLR.out]; exact h12)]; rfl
              have h121 : decide ((12 : Int) ≤ (lr : Int)) = false := by rw [decide_eq_false_iff_not]; omega
              have h122 : decide (12 ≤ lr) = false := by rw [decide_eq_false_iff_not]; omega
              have HCM := Lib.hid (HCOME.out w3 _ HT3.out.low HC3.out)
              clear HP2 HCOME
              go_wp2_with fail
              refine HCM.out.mono ?_
              rintro e w4 ⟨v4, rfl, hR4, b4, hF4⟩
              have HF4 := Lib.hid hF4
              clear hF4
              have HR4 := Lib.hid hR4
              have HT4 := Lib.hid (HT3.out.below b4)
              obtain ⟨A4, c4, rfl, y1, y2⟩ := hR4.shape
              clear hR4 b4 HCM y1 y2 x0 x1 n0 n1 nf0 nf1
              have n0 := HT4.out.b.c0
              have n1 := HT4.out.b.c1
              have nf0 := HT4.out.b.f 0
              have nf1 := HT4.out.b.f 1
              go_wp2_with fail
              refine bodyPost_cellE (V := .agg #[.slice none 0 0, .slice A4 (comeP s.2 m).length c4]) rfl rfl ?_ rfl ?_
              · go_simp
              · rw [HE.out]
                have hb := twoB_set HT4.out (.slice none 0 0) (.slice A4 (comeP s.2 m).length c4)
                exact ⟨_, rfl, ⟨_, _, rfl, CntN.nil _, HR4.out.off (fun r hr => (HCO.out.1.1 r hr).1) HT4.out.b.cells (fun k hk => set2_keep _ _ _ _ k hk) (by rw [set2_size]; exact Nat.le_refl _)⟩, hb, ⟨_, _, _, _, rfl, rfl, HF4.out.imp id (fun h => h.mono HT3.out.low.size)⟩⟩
        · have hnz : (n != 0) = true := by simp [hn0]
          have HTA : Hid (TwoB w (.slice A0 lm c0) (.slice A lr c) (w1.alloc (.cells #[.string k, .int .i64 n] 51))) := HT1.out.below ((Below.refl _ _).alloc (Nat.le_refl _) _)
          have HSU := Lib.hid (HSUM.out (w1.alloc (.cells #[.string k, .int .i64 n] 51)) (.slice (some ⟨w1.heap.size, 0, none⟩) 1 1) HTA.out.low (by unfold oneL; rw [if_neg hn0]; exact (new_cnt w1 (k, n)).1))
          have HN0 := Lib.hid hn0
          clear hn0 HSUM x0 x1 n0 n1 nf0 nf1
          have x0 := HTA.out.c0
          have x1 := HTA.out.c1
          have n0 := HTA.out.b.c0
          have n1 := HTA.out.b.c1
          have nf0 := HTA.out.b.f 0
          have nf1 := HTA.out.b.f 1
          go_wp2_with fail
          refine HSU.out.mono ?_
          rintro e w3 ⟨v3, rfl, hC3, b3⟩
          clear HSU
          have HT3 := Lib.hid (HTA.out.below b3)
          have HC3 := Lib.hid hC3
          obtain ⟨A3, c3, rfl, z3⟩ := hC3.1.shape
          clear hC3 b3 z3 x0 x1 n0 n1 nf0 nf1
          have x0 := HT3.out.c0
          have x1 := HT3.out.c1
          have n0 := HT3.out.b.c0
          have n1 := HT3.out.b.c1
          have nf0 := HT3.out.b.f 0
          have nf1 := HT3.out.b.f 1
          by_cases h8 : m.length < 8
          · have HE : Hid (putL s k n = ((m, s.2), 0)) := by rw [HP2.out, if_pos h8]; rfl
            have h81 : decide ((m.length : Int) < 8) = true := by rw [decide_eq_true_iff]; omega
            have h82 : decide (m.length < 8) = true := by rw [decide_eq_true_iff]; omega
            clear HP2
            go_wp2_with fail
            refine bodyPost_cellE (V := .agg #[.slice A3 m.length c3, .slice A lr c]) rfl rfl ?_ rfl ?_
            · go_simp
            · rw [HE.out]
              have hb := twoB_set HT3.out (.slice A3 m.length c3) (.slice A lr c)
              exact ⟨_, rfl, ⟨_, _, rfl, HC3.out.off (fun o x hx => ⟨none, 0, 0, HT3.out.b.cells o x hx⟩) (fun k hk => set2_keep _ _ _ _ k hk) (by rw [set2_size]; exact Nat.le_refl _), HR.out.below hb (Nat.le_refl _)⟩, hb, ⟨_, _, _, _, rfl, rfl, .inl rfl⟩⟩
          · have h81 : decide ((m.length : Int) < 8) = false := by rw [decide_eq_false_iff_not]; omega
            have h82 : decide (m.length < 8) = false := by rw [decide_eq_false_iff_not]; omega
            by_cases h12 : 12 ≤ lr
            · have HE : Hid (putL s k n = (s, 9)) := by rw [HP2.out, if_neg h8, if_pos (by rw [← HLR.out]; exact h12)]; rfl
              have h121 : decide ((12 : Int) ≤ (lr : Int)) = true := by rw [decide_eq_true_iff]; omega
              have h122 : decide (12 ≤ lr) = true := by rw [decide_eq_true_iff]; omega
              clear HP2
              go_wp2_with fail
              refine bodyPost_cellE (V := .agg #[.slice A0 lm c0, .slice A lr c]) rfl rfl ?_ rfl ?_
              · go_simp
              · rw [HE.out]
                have hb := twoB_set HT3.out (.slice A0 lm c0) (.slice A lr c)
                exact ⟨_, rfl, HSV.out _ hb, hb, ⟨_, _, _, _, rfl, rfl, .inl rfl⟩⟩
            · have HE : Hid (putL s k n = (([], comeP s.2 m), 0)) := by rw [HP2.out, if_neg h8, if_neg (by rw [← HLR.out]; exact h12)]; rfl
              have h121 : decide ((12 : Int) ≤ (lr : Int)) = false := by rw [decide_eq_false_iff_not]; omega
              have h122 : decide (12 ≤ lr) = false := by rw [decide_eq_false_iff_not]; omega
              have HCM := Lib.hid (HCOME.out w3 _ HT3.out.low HC3.out)
              clear HP2 HCOME
              go_wp2_with fail
              refine HCM.out.mono ?_
              rintro e w4 ⟨v4, rfl, hR4, b4, hF4⟩
              have HF4 := Lib.hid hF4
              clear hF4
              have HR4 := Lib.hid hR4
              have HT4 := Lib.hid (HT3.out.below b4)
              obtain ⟨A4, c4, rfl, y1, y2⟩ := hR4.shape
              clear hR4 b4 HCM y1 y2 x0 x1 n0 n1 nf0 nf1
              have n0 := HT4.out.b.c0
              have n1 := HT4.out.b.c1
              have nf0 := HT4.out.b.f 0
              have nf1 := HT4.out.b.f 1
              go_wp2_with fail
              refine bodyPost_cellE (V := .agg #[.slice none 0 0, .slice A4 (comeP s.2 m).length c4]) rfl rfl ?_ rfl ?_
              · go_simp
              · rw [HE.out]
                have hb := twoB_set HT4.out (.slice none 0 0) (.slice A4 (comeP s.2 m).length c4)
                exact ⟨_, rfl, ⟨_, _, rfl, CntN.nil _, HR4.out.off (fun r hr => (HCO.out.1.1 r hr).1) HT4.out.b.cells (fun k hk => set2_keep _ _ _ _ k hk) (by rw [set2_size]; exact Nat.le_refl _)⟩, hb, ⟨_, _, _, _, rfl, rfl, HF4.out.imp id (fun h => h.mono HT3.out.low.size)⟩⟩
      · have HE : Hid (putL s k n = (s, 4)) := by
          rw [HP.out, if_neg (fun h => h HK.out), if_pos (fun h => hsm ⟨h.2.2.1, h.2.2.2⟩)]; rfl
        have HW2 : Hid (∀ W, Calls Try.prog 44 #[.int .i64 (inL s.1 k + n), .int .i64 1000000000] W fun e W' => e = .returned (.bool false) ∧ W = W') := fun W => by have := within_any (inL s.1 k + n) 1000000000 (by omega) W; rw [decide_eq_false hsm] at this; exact this
        clear hsm HP hst
        generalize inL s.1 k = p at *
        have x0 := HT.out.c0
        have x1 := HT.out.c1
        have n0 := HT.out.b.c0
        have n1 := HT.out.b.c1
        have nf0 := HT.out.b.f 0
        have nf1 := HT.out.b.f 1
        go_enter Try.func16, Try.ntmps16
        go_wp2_with fail
        refine (HW1.out _).mono ?_
        rintro e w' ⟨rfl, rfl⟩
        rw [HWE.out]
        have HI1 := Lib.hid (HIN.out wE HT.out.low)
        go_wp2_with fail
        refine HI1.out.mono ?_
        rintro e w1 ⟨rfl, b1⟩
        have HT1 := Lib.hid (HT.out.below b1)
        clear b1 HI1 x0 x1 n0 n1 nf0 nf1
        have x0 := HT1.out.c0
        have x1 := HT1.out.c1
        have n0 := HT1.out.b.c0
        have n1 := HT1.out.b.c1
        have nf0 := HT1.out.b.f 0
        have nf1 := HT1.out.b.f 1
        go_wp2_with fail
        refine (HW2.out _).mono ?_
        rintro e w' ⟨rfl, rfl⟩
        go_wp2_with fail
        refine bodyPost_cellE (V := .agg #[.slice A0 lm c0, .slice A lr c]) rfl rfl ?_ rfl ?_
        · go_simp
        · rw [HE.out]
          have hb := twoB_set HT1.out (.slice A0 lm c0) (.slice A lr c)
          exact ⟨_, rfl, HSV.out _ hb, hb, ⟨_, _, _, _, rfl, rfl, .inl rfl⟩⟩
    · have HE : Hid (putL s k n = (s, 4)) := by
        rw [HP.out, if_neg (fun h => h HK.out), if_pos (fun h => hst ⟨h.1, h.2.1⟩)]; rfl
      clear HP
      have HW1 : Hid (∀ W, Calls Try.prog 44 #[.int .i64 n, .int .i64 1000000] W fun e W' => e = .returned (.bool false) ∧ W = W') := fun W => by have := within_any n 1000000 (by omega) W; rw [decide_eq_false hst] at this; exact this
      clear hst
      go_enter Try.func16, Try.ntmps16
      go_wp2_with fail
      refine (HW1.out _).mono ?_
      rintro e w' ⟨rfl, rfl⟩
      go_wp2_with fail
      refine bodyPost_cellE (V := .agg #[.slice A0 lm c0, .slice A lr c]) rfl rfl ?_ rfl ?_
      · go_simp
      · rw [HE.out]
        have hb := HB2.out
        exact ⟨_, rfl, HSV.out _ hb, hb, ⟨_, _, _, _, rfl, rfl, .inl rfl⟩⟩
  · have HE : Hid (putL s k n = (s, 11)) := by rw [HP.out, if_pos hk]; rfl
    have hk1 : ((k.size : Int) != 32) = true := by simp; omega
    have hk2 : (k.size != 32) = true := by simp [hk]
    clear HP hk
    go_enter Try.func16, Try.ntmps16
    go_wp2_with fail
    refine bodyPost_cellE (V := .agg #[.slice A0 lm c0, .slice A lr c]) rfl rfl ?_ rfl ?_
    · go_simp
    · rw [HE.out]
      have hb := HB2.out
      exact ⟨_, rfl, HSV.out _ hb, hb, ⟨_, _, _, _, rfl, rfl, .inl rfl⟩⟩
end Go.Proofs.Yteidlngffikboaa
/- Here ends the text LsmPut; here begins LsmBox. -/
namespace Go.Proofs.Yteidlngffikboaa
open Go.RowKit
set_option linter.unusedVariables false
set_option linter.unusedSimpArgs false
theorem RunsN.offB {w W' : World} {v : Value} {l : List (List Cnt)} {B : Nat} (h : RunsN w v l) (ht : FreshV (B + 1) v) (hc : ∀ o x, w.cell? ⟨B, o, none⟩ = some x → ∃ A n c, x = .slice A n c) (hk : ∀ k, k ≠ B → W'.heap[k]? = w.heap[k]?) (hs : w.heap.size ≤ W'.heap.size) : RunsN W' v l := by
  obtain ⟨⟨A, c, h1, h2, h3, h4⟩, h5⟩ := h
  refine ⟨⟨A, c, h1, h2, h3, fun hl => ?_⟩, h5⟩
  obtain ⟨b, off, e1, e2, e3⟩ := h4 hl
  have hnb : b ≠ B := fun e => by
    have := ht b off l.length c (by rw [h1, e1])
    omega
  refine ⟨b, off, e1, Nat.lt_of_lt_of_le e2 hs, fun i hi => ?_⟩
  obtain ⟨u, k1, k2⟩ := e3 i hi
  exact ⟨u, (World.cell?_of_block (hk b hnb)).trans k1, k2.off hc hk hs⟩
/-- block B holds counts, as a struct -/
structure BoxL (w : World) (B : Nat) (vm vr : Value) (s : CntS) (W : World) : Prop where
  blk : W.heap[B]? = some (.cells #[vm, vr] 25)
  rows : LsmN W (LsmV vm vr) s
  top : FreshV (B + 1) vr
  low : Below w.heap.size w W
  le : w.heap.size ≤ B
theorem BoxL.c0 {w : World} {B : Nat} {vm vr : Value} {s : CntS} {W : World} (h : BoxL w B vm vr s W) : W.cell? ⟨B, 0, none⟩ = some vm := by unfold World.cell?; rw [h.blk]; rfl
theorem BoxL.c1 {w : World} {B : Nat} {vm vr : Value} {s : CntS} {W : World} (h : BoxL w B vm vr s W) : W.cell? ⟨B, 1, none⟩ = some vr := by unfold World.cell?; rw [h.blk]; rfl
theorem BoxL.f {w : World} {B : Nat} {vm vr : Value} {s : CntS} {W : World} (h : BoxL w B vm vr s W) (o : Nat) : W.frozen? ⟨B, o, none⟩ = false := by simp [World.frozen?, h.blk]
theorem BoxL.lt {w : World} {B : Nat} {vm vr : Value} {s : CntS} {W : World} (h : BoxL w B vm vr s W) : B < W.heap.size := (Array.getElem?_eq_some_iff.1 h.blk).1
theorem BoxL.below {w : World} {B : Nat} {vm vr : Value} {s : CntS} {W W' : World} (h : BoxL w B vm vr s W) (hb : Below W.heap.size W W') : BoxL w B vm vr s W' :=
  ⟨(hb.block _ h.lt).trans h.blk, h.rows.below hb (Nat.le_refl _), h.top, h.low.trans (hb.mono h.low.size), h.le⟩
theorem set2_blk {W : World} {B : Nat} {x y x' y' : Value} (h : W.heap[B]? = some (.cells #[x, y] 25)) : ((W.setCell ⟨B, 0, none⟩ x').setCell ⟨B, 1, none⟩ y').heap[B]? = some (.cells #[x', y'] 25) := by
  have h1 : (W.setCell ⟨B, 0, none⟩ x').heap[B]? = some (.cells #[x', y] 25) := by
    obtain ⟨hlt, hk⟩ := Array.getElem?_eq_some_iff.1 h
    show (W.heap.modify B _)[B]? = _
    rw [Array.getElem?_eq_getElem (by rw [Array.size_modify]; exact hlt), Array.getElem_modify_self, hk]
    rfl
  obtain ⟨hlt, hk⟩ := Array.getElem?_eq_some_iff.1 h1
  show ((W.setCell ⟨B, 0, none⟩ x').heap.modify B _)[B]? = _
  rw [Array.getElem?_eq_getElem (by rw [Array.size_modify]; exact hlt), Array.getElem_modify_self, hk]
  rfl
theorem BoxL.shapes {w : World} {B : Nat} {vm vr : Value} {s : CntS} {W : World} (h : BoxL w B vm vr s W) : ∃ A n c A' n' c', vm = .slice A n c ∧ vr = .slice A' n' c' := by
  obtain ⟨c1, c2, e5, k1, k2⟩ := h.rows
  have e6 : vm = c1 ∧ vr = c2 := by unfold LsmV at e5; injection e5 with e5; injection e5 with e5; injection e5 with e6 e5; injection e5 with e5; exact ⟨e6, e5⟩
  obtain ⟨rfl, rfl⟩ := e6
  obtain ⟨A1, c1, e, _⟩ := k1.1.shape
  obtain ⟨A2, c2, e', _⟩ := k2.shape
  exact ⟨_, _, _, _, _, _, e, e'⟩
/-- a call's counts are stored into the box -/
theorem BoxL.store {w : World} {B : Nat} {vm vr : Value} {s s' : CntS} {W W' : World} {v' : Value} (h : BoxL w B vm vr s W) (hb : Below W.heap.size W W') (hr : LsmN W' v' s') (hf : FreshS W.heap.size (LsmV vm vr) v') :
    ∃ vm' vr', v' = LsmV vm' vr' ∧ BoxL w B vm' vr' s' ((W'.setCell ⟨B, 0, none⟩ vm').setCell ⟨B, 1, none⟩ vr') := by
  obtain ⟨a1, a2, vm', vr', e1, rfl, hf2⟩ := hf
  have e2 : vr = a2 := by unfold LsmV at e1; injection e1 with e1; injection e1 with e1; injection e1 with _ e1; injection e1
  subst e2
  have h' := h.below hb
  have hfr : FreshV (B + 1) vr' := by
    rcases hf2 with rfl | hf2
    · exact h.top
    · exact hf2.mono h.lt
  obtain ⟨b1, b2, e3, hr1, hr2⟩ := hr
  have e4 : vm' = b1 ∧ vr' = b2 := by unfold LsmV at e3; injection e3 with e3; injection e3 with e3; injection e3 with e4 e3; injection e3 with e3; exact ⟨e4, e3⟩
  obtain ⟨rfl, rfl⟩ := e4
  obtain ⟨c1, c2, e5, k1, k2⟩ := h'.rows
  have e6 : vm = c1 ∧ vr = c2 := by unfold LsmV at e5; injection e5 with e5; injection e5 with e5; injection e5 with e6 e5; injection e5 with e5; exact ⟨e6, e5⟩
  obtain ⟨rfl, rfl⟩ := e6
  have hsl : ∀ o x, W'.cell? ⟨B, o, none⟩ = some x → ∃ A n c, x = .slice A n c := by
    intro o x hx
    obtain ⟨A1, c1, e, _⟩ := k1.1.shape
    obtain ⟨A2, c2, e', _⟩ := k2.shape
    unfold World.cell? at hx
    rw [h'.blk] at hx
    match o, hx with
    | 0, hx => simp at hx; exact ⟨_, _, _, hx.symm.trans e⟩
    | 1, hx => simp at hx; exact ⟨_, _, _, hx.symm.trans e'⟩
    | o + 2, hx => simp at hx
  refine ⟨vm', vr', rfl, set2_blk h'.blk, ⟨_, _, rfl, hr1.off hsl (fun k hk => set2_keep _ _ _ _ k hk) (by rw [set2_size]; exact Nat.le_refl _), hr2.offB hfr hsl (fun k hk => set2_keep _ _ _ _ k hk) (by rw [set2_size]; exact Nat.le_refl _)⟩, hfr, ?_, h.le⟩
  exact (h'.low.setCell (p := ⟨B, 0, none⟩) h.le _).setCell (p := ⟨B, 1, none⟩) h.le _
theorem boxL_new (w W : World) (hb : Below w.heap.size w W) : BoxL w W.heap.size (.slice none 0 0) (.slice none 0 0) ([], []) (W.alloc (.cells #[.slice none 0 0, .slice none 0 0] 25)) :=
  ⟨World.alloc_heap_new W _, ⟨_, _, rfl, CntN.nil _, runsN_nil _⟩, freshV_nil _ _ _, hb.alloc hb.size _, hb.size⟩
/-- counts stay fit behind a change -/
theorem putL_ok {s : CntS} (ok : okS s) (k : ByteArray) (n : Int) : okS (putL s k n).1 ∧ sizeS (putL s k n).1 ≤ sizeS s + 1 ∧ (putL s k n).1.2.length ≤ s.2.length + 1 := by
  unfold putL
  split
  · exact ⟨ok, by dsimp only; omega, by dsimp only; omega⟩
  · rename_i h1
    split
    · exact ⟨ok, by dsimp only; omega, by dsimp only; omega⟩
    · rename_i h2
      have h2' := Decidable.not_not.1 h2
      have hm := memL_ok ok.1 (Decidable.not_not.1 h1) h2'.2.2
      have hl := memL_len ok.1 k n
      split
      · exact ⟨⟨hm, ok.2⟩, by unfold sizeS; dsimp only; omega, by dsimp only; omega⟩
      · split
        · exact ⟨ok, by dsimp only; omega, by dsimp only; omega⟩
        · obtain ⟨c1, c2, c3⟩ := comeP_ok ok.2 hm
          exact ⟨⟨okR_nil, c1⟩, by unfold sizeS; dsimp only [List.length_nil]; omega, by dsimp only; omega⟩
theorem okS_nil : okS ([], []) := ⟨okR_nil, by simp, trivial⟩
end Go.Proofs.Yteidlngffikboaa

