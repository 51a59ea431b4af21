/- Walks: Pack and Put of chapter 38, of the document and of the program (printed by gen-lsm-put.py). -/
import Derived.Test.YteidlngffikboaaLsmPAll
import Derived.Test.YteidlngffikboaaLsmCome
import Derived.Test.YteidlngffikboaaLsmR4
import Derived.Test.YteidlngffikboaaLsmR4
namespace Go.Proofs.Yteidlngffikboaa
open Go.RowKit
set_option linter.unusedVariables false
set_option linter.unusedSimpArgs false
def packL (s : CntS) : CntS := if rowB (allL s) 1048576 = true then (if allL s = [] then ([], []) else ([], [allL s])) else s
theorem new_runsN (w : World) (u : Value) (l : List Cnt) (h : CntN w u l) (b : Nat) (hb : b = w.heap.size) : RunsN (w.alloc (.cells #[u] 22)) (.slice (some ⟨b, 0, none⟩) 1 1) [l] :=
  ⟨new_runs w u l h b hb, fun n c e => by cases e⟩
theorem allL_len (s : CntS) : (allL s).length ≤ sizeS s := by
  unfold allL
  have h1 := tabL_len (rOf (allK s.1 s.2)) (getL s.1 s.2)
  have h2 := rOf_len (allK s.1 s.2)
  have h3 : (allK s.1 s.2).length = s.1.length + total s.2 := by unfold allK; rw [List.length_append, keysC_len, flat_len]
  unfold sizeS; omega
theorem twoB_set {w : World} {vm vr : Value} {W : World} (h : TwoB w vm vr W) (x y : Value) : Below w.heap.size w ((W.setCell ⟨w.heap.size + 1, 0, none⟩ x).setCell ⟨w.heap.size + 1, 1, none⟩ y) := set2_below h.low x y
theorem runsN_nil (w : World) : RunsN w (.slice none 0 0) [] := ⟨⟨none, 0, rfl, Nat.le_refl _, Nat.zero_le _, fun h => absurd h (Nat.lt_irrefl _)⟩, fun n c e => by cases e; rfl⟩
set_option maxRecDepth 20000 in
set_option maxHeartbeats 2000000 in
theorem rpack_any (w : World) (v : Value) (s : CntS) (hs : LsmN w v s) (ok : okS s) (hl : sizeS s ≤ 1000000) (hn : s.2.length ≤ 100) :
    Calls Try.prog 21 #[v] w fun e w' => ∃ v', e = .returned v' ∧ LsmN w' v' (packL s) ∧ Below w.heap.size w w' := by
  have HLEN := Lib.hid (allL_len s)
  have HS := Lib.hid hs
  have hs0 := hs
  obtain ⟨vm, vr, rfl, hm, hr⟩ := hs0
  obtain ⟨wE, hwE⟩ : ∃ wE, wE = (w.alloc (.cells #[vm, vr] 25)).alloc (.cells #[.slice none 0 0, .slice none 0 0] 25) := ⟨_, rfl⟩
  have HT : Hid (TwoB w vm vr wE) := by rw [hwE]; exact twoB_new w vm vr
  have HWE := Lib.hid hwE.symm
  have HA := Lib.hid (rAll_any wE (LsmV vm vr) s (hs.below HT.out.low (Nat.le_refl _)) ok hl hn)
  have x0 := HT.out.c0
  have x1 := HT.out.c1
  obtain ⟨A0, c0, rfl, z0⟩ := hm.1.shape
  obtain ⟨A, c, rfl, z1, z2⟩ := hr.shape
  have HLN := Lib.hid hl
  clear hwE z0 hm hr z1 z2 ok hl hs
  obtain ⟨all, hall⟩ : ∃ all, all = allL s := ⟨_, rfl⟩
  rw [← hall] at HA HLEN
  have HPK : Hid (packL s = if rowB all 1048576 = true then (if all = [] then ([], []) else ([], [all])) else s) := by rw [hall]; rfl
  clear hall
  have HSV : Hid (∀ W, Below w.heap.size w W → LsmN W (LsmV (.slice A0 s.1.length c0) (.slice A s.2.length c)) s) := fun W hb => HS.out.below hb (Nat.le_refl _)
  unfold LsmV at HA HSV
  unfold LsmV
  generalize s.1.length = lm at *
  generalize s.2.length = lr at *
  clear HS
  go_enter Try.func21, Try.ntmps21
  go_wp2_with fail
  rw [HWE.out]
  go_wp2_with fail
  refine HA.out.mono ?_
  rintro e w1 ⟨v1, rfl, hC1, b1⟩
  have HC1 := Lib.hid hC1
  have HT1 := Lib.hid (HT.out.below b1)
  have HROW := Lib.hid (rrow_any w1 v1 all 1048576 hC1.1 (by have := HLEN.out; have := HLN.out; omega))
  obtain ⟨A1, c1, rfl, z3⟩ := hC1.1.shape
  clear hC1 b1 HA x0 x1 z3
  cases hb : rowB all 1048576 with
  | false =>
    rw [hb] at HROW HPK
    have HE : Hid (packL s = s) := by rw [HPK.out]; rfl
    clear HPK
    go_wp2_with fail
    refine HROW.out.mono ?_
    rintro e w2 ⟨rfl, b2⟩
    have HT2 := Lib.hid (HT1.out.below b2)
    clear b2 HROW
    have x0 := HT2.out.c0
    have x1 := HT2.out.c1
    have n0 := HT2.out.b.c0
    have n1 := HT2.out.b.c1
    have nf0 := HT2.out.b.f 0
    have nf1 := HT2.out.b.f 1
    go_wp2_with fail
    refine bodyPost_cell1 (V := .agg #[.slice A0 lm c0, .slice A lr c]) rfl rfl ?_ rfl ?_
    · go_simp
    · rw [HE.out]
      have hb := twoB_set HT2.out (.slice A0 lm c0) (.slice A lr c)
      exact ⟨_, rfl, HSV.out _ hb, hb⟩
  | true =>
    rw [hb] at HROW HPK
    by_cases hne : all = []
    · have HE : Hid (packL s = ([], [])) := by rw [HPK.out, if_pos rfl, if_pos hne]; rfl
      subst hne
      clear HPK
      go_wp2_with fail
      refine HROW.out.mono ?_
      rintro e w2 ⟨rfl, b2⟩
      have HT2 := Lib.hid (HT1.out.below b2)
      clear b2 HROW
      have n0 := HT2.out.b.c0
      have n1 := HT2.out.b.c1
      have nf0 := HT2.out.b.f 0
      have nf1 := HT2.out.b.f 1
      go_wp2_with fail
      refine bodyPost_cell1 (V := .agg #[.slice none 0 0, .slice none 0 0]) rfl rfl ?_ rfl ?_
      · go_simp
      · rw [HE.out]
        have hb := twoB_set HT2.out (.slice none 0 0) (.slice none 0 0)
        exact ⟨_, rfl, ⟨_, _, rfl, CntN.nil _, runsN_nil _⟩, hb⟩
    · have HE : Hid (packL s = ([], [all])) := by rw [HPK.out, if_pos rfl, if_neg hne]; rfl
      have HNE := Lib.hid hne
      have hml : 1 ≤ all.length := by
        rcases all with _ | ⟨z, m⟩
        · exact absurd rfl hne
        · simp
      have hmz : ((all.length : Int) == 0) = false := by rw [beq_eq_false_iff_ne]; omega
      have hmz2 : (all.length == 0) = false := by rw [beq_eq_false_iff_ne]; omega
      clear HPK hne
      go_wp2_with fail
      refine HROW.out.mono ?_
      rintro e w2 ⟨rfl, b2⟩
      have HT2 := Lib.hid (HT1.out.below b2)
      have HC2 := Lib.hid (HC1.out.below b2 (Nat.le_refl _))
      clear b2 HROW
      have n0 := HT2.out.b.c0
      have n1 := HT2.out.b.c1
      have nf0 := HT2.out.b.f 0
      have nf1 := HT2.out.b.f 1
      have hlt2 := HT2.out.lt
      go_wp2_with fail
      refine bodyPost_cell1 (V := .agg #[.slice none 0 0, .slice (some ⟨w2.heap.size, 0, none⟩) 1 1]) rfl rfl ?_ rfl ?_
      · go_simp
      · rw [HE.out]
        have hb := twoB_set HT2.out (.slice none 0 0) (.slice (some ⟨w2.heap.size, 0, none⟩) 1 1)
        exact ⟨_, rfl, ⟨_, _, rfl, CntN.nil _, new_runsN _ _ all (HC2.out.off (fun o x hx => ⟨none, 0, 0, HT2.out.b.cells o x hx⟩) (fun k hk => set2_keep _ _ _ _ k hk) (by rw [set2_size]; exact Nat.le_refl _)) _ (by rw [set2_size])⟩, hb.alloc hb.size _⟩
set_option maxRecDepth 20000 in
set_option maxHeartbeats 2000000 in
theorem ppack_any (w : World) (v : Value) (s : CntS) (hs : LsmN w v s) (ok : okS s) (hl : sizeS s ≤ 1000000) (hn : s.2.length ≤ 100) :
    Calls Try.prog 19 #[v] w fun e w' => ∃ v', e = .returned v' ∧ LsmN w' v' (packL s) ∧ Below w.heap.size w w' ∧ FreshS w.heap.size v v' := by
  have HLEN := Lib.hid (allL_len s)
  have HS := Lib.hid hs
  have hs0 := hs
  obtain ⟨vm, vr, rfl, hm, hr⟩ := hs0
  obtain ⟨wE, hwE⟩ : ∃ wE, wE = (w.alloc (.cells #[vm, vr] 25)).alloc (.cells #[.slice none 0 0, .slice none 0 0] 25) := ⟨_, rfl⟩
  have HT : Hid (TwoB w vm vr wE) := by rw [hwE]; exact twoB_new w vm vr
  have HWE := Lib.hid hwE.symm
  have HA := Lib.hid (pAll_any wE (LsmV vm vr) s (hs.below HT.out.low (Nat.le_refl _)) ok hl hn)
  have x0 := HT.out.c0
  have x1 := HT.out.c1
  obtain ⟨A0, c0, rfl, z0⟩ := hm.1.shape
  obtain ⟨A, c, rfl, z1, z2⟩ := hr.shape
  have HLN := Lib.hid hl
  clear hwE z0 hm hr z1 z2 ok hl hs
  obtain ⟨all, hall⟩ : ∃ all, all = allL s := ⟨_, rfl⟩
  rw [← hall] at HA HLEN
  have HPK : Hid (packL s = if rowB all 1048576 = true then (if all = [] then ([], []) else ([], [all])) else s) := by rw [hall]; rfl
  clear hall
  have HSV : Hid (∀ W, Below w.heap.size w W → LsmN W (LsmV (.slice A0 s.1.length c0) (.slice A s.2.length c)) s) := fun W hb => HS.out.below hb (Nat.le_refl _)
  unfold LsmV at HA HSV
  unfold LsmV
  generalize s.1.length = lm at *
  generalize s.2.length = lr at *
  clear HS
  go_enter Try.func19, Try.ntmps19
  go_wp2_with fail
  rw [HWE.out]
  go_wp2_with fail
  refine HA.out.mono ?_
  rintro e w1 ⟨v1, rfl, hC1, b1⟩
  have HC1 := Lib.hid hC1
  have HT1 := Lib.hid (HT.out.below b1)
  have HROW := Lib.hid (pfit_any w1 v1 all 1048576 hC1.1 (by have := HLEN.out; have := HLN.out; omega))
  obtain ⟨A1, c1, rfl, z3⟩ := hC1.1.shape
  clear hC1 b1 HA x0 x1 z3
  cases hb : rowB all 1048576 with
  | false =>
    rw [hb] at HROW HPK
    have HE : Hid (packL s = s) := by rw [HPK.out]; rfl
    clear HPK
    go_wp2_with fail
    refine HROW.out.mono ?_
    rintro e w2 ⟨rfl, b2⟩
    have HT2 := Lib.hid (HT1.out.below b2)
    clear b2 HROW
    have x0 := HT2.out.c0
    have x1 := HT2.out.c1
    have n0 := HT2.out.b.c0
    have n1 := HT2.out.b.c1
    have nf0 := HT2.out.b.f 0
    have nf1 := HT2.out.b.f 1
    go_wp2_with fail
    refine bodyPost_cell1 (V := .agg #[.slice A0 lm c0, .slice A lr c]) rfl rfl ?_ rfl ?_
    · go_simp
    · rw [HE.out]
      have hb := twoB_set HT2.out (.slice A0 lm c0) (.slice A lr c)
      exact ⟨_, rfl, HSV.out _ hb, hb, ⟨_, _, _, _, rfl, rfl, .inl rfl⟩⟩
  | true =>
    rw [hb] at HROW HPK
    by_cases hne : all = []
    · have HE : Hid (packL s = ([], [])) := by rw [HPK.out, if_pos rfl, if_pos hne]; rfl
      subst hne
      clear HPK
      go_wp2_with fail
      refine HROW.out.mono ?_
      rintro e w2 ⟨rfl, b2⟩
      have HT2 := Lib.hid (HT1.out.below b2)
      clear b2 HROW
      have n0 := HT2.out.b.c0
      have n1 := HT2.out.b.c1
      have nf0 := HT2.out.b.f 0
      have nf1 := HT2.out.b.f 1
      go_wp2_with fail
      refine bodyPost_cell1 (V := .agg #[.slice none 0 0, .slice none 0 0]) rfl rfl ?_ rfl ?_
      · go_simp
      · rw [HE.out]
        have hb := twoB_set HT2.out (.slice none 0 0) (.slice none 0 0)
        exact ⟨_, rfl, ⟨_, _, rfl, CntN.nil _, runsN_nil _⟩, hb, ⟨_, _, _, _, rfl, rfl, .inr (freshV_nil _ _ _)⟩⟩
    · have HE : Hid (packL s = ([], [all])) := by rw [HPK.out, if_pos rfl, if_neg hne]; rfl
      have HNE := Lib.hid hne
      have hml : 1 ≤ all.length := by
        rcases all with _ | ⟨z, m⟩
        · exact absurd rfl hne
        · simp
      have hmz : ((all.length : Int) == 0) = false := by rw [beq_eq_false_iff_ne]; omega
      have hmz2 : (all.length == 0) = false := by rw [beq_eq_false_iff_ne]; omega
      clear HPK hne
      go_wp2_with fail
      refine HROW.out.mono ?_
      rintro e w2 ⟨rfl, b2⟩
      have HT2 := Lib.hid (HT1.out.below b2)
      have HC2 := Lib.hid (HC1.out.below b2 (Nat.le_refl _))
      clear b2 HROW
      have n0 := HT2.out.b.c0
      have n1 := HT2.out.b.c1
      have nf0 := HT2.out.b.f 0
      have nf1 := HT2.out.b.f 1
      have hlt2 := HT2.out.lt
      go_wp2_with fail
      refine bodyPost_cell1 (V := .agg #[.slice none 0 0, .slice (some ⟨w2.heap.size, 0, none⟩) 1 1]) rfl rfl ?_ rfl ?_
      · go_simp
      · rw [HE.out]
        have hb := twoB_set HT2.out (.slice none 0 0) (.slice (some ⟨w2.heap.size, 0, none⟩) 1 1)
        exact ⟨_, rfl, ⟨_, _, rfl, CntN.nil _, new_runsN _ _ all (HC2.out.off (fun o x hx => ⟨none, 0, 0, HT2.out.b.cells o x hx⟩) (fun k hk => set2_keep _ _ _ _ k hk) (by rw [set2_size]; exact Nat.le_refl _)) _ (by rw [set2_size])⟩, hb.alloc hb.size _, ⟨_, _, _, _, rfl, rfl, .inr (fun b off n c e => by cases e; exact HT2.out.low.size)⟩⟩
end Go.Proofs.Yteidlngffikboaa
