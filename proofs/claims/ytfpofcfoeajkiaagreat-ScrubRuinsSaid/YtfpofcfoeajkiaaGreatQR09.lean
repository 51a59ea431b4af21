/- Texts of this claim's author, packed: ScrFit, ScrSame. Conditions: none. -/
import Derived.Test.YtfpofcfoeajkiaaGreatQR08
import Derived.Test.YtfpofcfoeajkiaaGreatQR01
import Derived.WalkMore
import Derived.Test.YtfpofcfoeajkiaaGreatQR03
import Derived.Test.YtfpofcfoeajkiaaGreatQR07
import Derived.Laws.StructEq
/- few and Fit, of the program and of the document; the law's few. -/
namespace Go.Proofs.YtfpofcfoeajkiaaGreat
open Go.RowKit
set_option linter.unusedVariables false
set_option linter.unusedSimpArgs false
theorem pfew_any (n : Int) (w : World) : Calls Tryz.prog 32 #[.int .i64 n] w fun e w' => e = .returned (.bool (fewK n)) ∧ w = w' := by
  unfold fewK
  by_cases h0 : 0 < n
  · by_cases h1 : n ≤ 16
    · rw [decide_eq_true h0, decide_eq_true h1]
      have d0 : decide (0 < n) = true := decide_eq_true h0
      have d1 : decide (n ≤ 16) = true := decide_eq_true h1
      go_enter Tryz.func32, Tryz.ntmps32
      go_wp2
      go_ret
      exact ⟨rfl, rfl⟩
    · rw [decide_eq_true h0, decide_eq_false h1]
      have d0 : decide (0 < n) = true := decide_eq_true h0
      have d1 : decide (n ≤ 16) = false := decide_eq_false h1
      go_enter Tryz.func32, Tryz.ntmps32
      go_wp2
      go_ret
      exact ⟨rfl, rfl⟩
  · rw [decide_eq_false h0, Bool.false_and]
    have d0 : decide (0 < n) = false := decide_eq_false h0
    go_enter Tryz.func32, Tryz.ntmps32
    go_wp2
    go_ret
    exact ⟨rfl, rfl⟩
theorem rfew_any (n : Int) (w : World) : Calls Tryz.prog 56 #[.int .i64 n] w fun e w' => e = .returned (.bool (fewK n)) ∧ w = w' := by
  unfold fewK
  rw [show decide (0 < n) = decide (1 ≤ n) from decide_eq_decide.2 (by omega)]
  by_cases h0 : 1 ≤ n
  · by_cases h1 : n ≤ 16
    · rw [decide_eq_true h0, decide_eq_true h1]
      have d0 : decide (1 ≤ n) = true := decide_eq_true h0
      have d1 : decide (n ≤ 16) = true := decide_eq_true h1
      go_enter Tryz.func56, Tryz.ntmps56
      go_wp2
      go_ret
      exact ⟨rfl, rfl⟩
    · rw [decide_eq_true h0, decide_eq_false h1]
      have d0 : decide (1 ≤ n) = true := decide_eq_true h0
      have d1 : decide (n ≤ 16) = false := decide_eq_false h1
      go_enter Tryz.func56, Tryz.ntmps56
      go_wp2
      go_ret
      exact ⟨rfl, rfl⟩
  · rw [decide_eq_false h0, Bool.false_and]
    have d0 : decide (1 ≤ n) = false := decide_eq_false h0
    go_enter Tryz.func56, Tryz.ntmps56
    go_wp2
    go_ret
    exact ⟨rfl, rfl⟩
set_option maxRecDepth 20000 in
set_option maxHeartbeats 4000000 in
theorem pfit_any (w : World) (K P Z : Int) (v : Value) (l : List Shd) (h : ShdB w v l) (hl : l.length ≤ 100000) (hsz : ∀ x ∈ l, x.2.2.size ≤ 1000000) :
    Calls Tryz.prog 23 #[.agg #[.int .i64 K, .int .i64 P, .int .i64 Z, v]] w fun e w' => e = .returned (.bool (fitW K P Z l)) ∧ Below w.heap.size w w' := by
  obtain ⟨A, c, rfl, h1, h2, h3⟩ := h
  have hc9 : c ≤ 9223372036854775807 := by unfold maxLen at h2; omega
  obtain ⟨n, hn⟩ : ∃ n, n = l.length := ⟨_, rfl⟩
  have HN := Lib.hid hn
  have H3 := Lib.hid h3
  have HSZ := Lib.hid hsz
  rw [← hn] at h1 hl ⊢
  clear h3 hsz hn
  obtain ⟨wE, hwE⟩ : ∃ wE, wE = w.alloc (.cells #[.int .i64 K, .int .i64 P, .int .i64 Z, .slice A n c] 24) := ⟨_, rfl⟩
  have HWE := Lib.hid hwE.symm
  have LOW : Hid (Below w.heap.size w wE) := by rw [hwE]; exact (Below.refl _ _).alloc (Nat.le_refl _) _
  have HBX : Hid (wE.heap[w.heap.size]? = some (.cells #[.int .i64 K, .int .i64 P, .int .i64 Z, .slice A n c] 24)) := by unfold Hid; rw [hwE]; exact World.alloc_heap_new w _
  have HLT : Hid (w.heap.size < wE.heap.size) := by unfold Hid; rw [hwE]; simp
  have HC : Hid (∀ W, Below wE.heap.size wE W → W.cell? ⟨w.heap.size, 0, none⟩ = some (.int .i64 K) ∧ W.cell? ⟨w.heap.size, 1, none⟩ = some (.int .i64 P) ∧ W.cell? ⟨w.heap.size, 2, none⟩ = some (.int .i64 Z) ∧ W.cell? ⟨w.heap.size, 3, none⟩ = some (.slice A n c)) := fun W hb => by
    have hk := (hb.block w.heap.size HLT.out).trans HBX.out
    refine ⟨?_, ?_, ?_, ?_⟩ <;> (unfold World.cell?; rw [hk]; rfl)
  obtain ⟨x0, x1, x2, x3⟩ := HC.out wE (Below.refl _ _)
  have HK := Lib.hid (fun w' => pfew_any K w')
  have HP := Lib.hid (fun w' => pfew_any P w')
  clear hwE
  cases hK : fewK K with
  | false =>
    have HE : Hid (fitW K P Z l = false) := by unfold Hid fitW; rw [hK]; rfl
    rw [hK] at HK
    clear hK HP
    go_enter Tryz.func23, Tryz.ntmps23
    go_wp2_with fail
    rw [HWE.out]
    refine (HK.out _).mono ?_
    rintro e w' ⟨rfl, rfl⟩
    go_wp2_with fail
    go_ret
    exact ⟨(congrArg (fun b => Ending.returned (Value.bool b)) HE.out).symm, LOW.out⟩
  | true =>
    rw [hK] at HK
    cases hP : fewK P with
    | false =>
      have HE : Hid (fitW K P Z l = false) := by unfold Hid fitW; rw [hK, hP]; rfl
      rw [hP] at HP
      clear hK hP
      go_enter Tryz.func23, Tryz.ntmps23
      go_wp2_with fail
      rw [HWE.out]
      refine (HK.out _).mono ?_
      rintro e w' ⟨rfl, rfl⟩
      go_wp2_with fail
      refine (HP.out _).mono ?_
      rintro e w' ⟨rfl, rfl⟩
      go_wp2_with fail
      go_ret
      exact ⟨(congrArg (fun b => Ending.returned (Value.bool b)) HE.out).symm, LOW.out⟩
    | true =>
      rw [hP] at HP
      have hk1 : 0 < K ∧ K ≤ 16 := by unfold fewK at hK; simpa using hK
      have hp1 : 0 < P ∧ P ≤ 16 := by unfold fewK at hP; simpa using hP
      obtain ⟨hk1, hk2⟩ := hk1
      obtain ⟨hp1, hp2⟩ := hp1
      by_cases hz0 : Z < 0
      · have HE : Hid (fitW K P Z l = false) := by unfold Hid fitW; rw [hK, hP, decide_eq_false (show ¬ (0 ≤ Z ∧ Z ≤ 65536) by omega)]; rfl
        have d0 : decide (Z < 0) = true := decide_eq_true hz0
        clear hK hP hz0
        go_enter Tryz.func23, Tryz.ntmps23
        go_wp2_with fail
        rw [HWE.out]
        refine (HK.out _).mono ?_
        rintro e w' ⟨rfl, rfl⟩
        go_wp2_with fail
        refine (HP.out _).mono ?_
        rintro e w' ⟨rfl, rfl⟩
        go_wp2_with fail
        go_ret
        exact ⟨(congrArg (fun b => Ending.returned (Value.bool b)) HE.out).symm, LOW.out⟩
      · have d0 : decide (Z < 0) = false := decide_eq_false hz0
        by_cases hz1 : 65536 < Z
        · have HE : Hid (fitW K P Z l = false) := by unfold Hid fitW; rw [hK, hP, decide_eq_false (show ¬ (0 ≤ Z ∧ Z ≤ 65536) by omega)]; rfl
          have d1 : decide (65536 < Z) = true := decide_eq_true hz1
          clear hK hP hz0 hz1
          go_enter Tryz.func23, Tryz.ntmps23
          go_wp2_with fail
          rw [HWE.out]
          refine (HK.out _).mono ?_
          rintro e w' ⟨rfl, rfl⟩
          go_wp2_with fail
          refine (HP.out _).mono ?_
          rintro e w' ⟨rfl, rfl⟩
          go_wp2_with fail
          go_ret
          exact ⟨(congrArg (fun b => Ending.returned (Value.bool b)) HE.out).symm, LOW.out⟩
        · have d1 : decide (65536 < Z) = false := decide_eq_false hz1
          by_cases hkp : (n : Int) = K + P
          · have d2 : ((n : Int) != K + P) = false := by simp [hkp]
            have HE : Hid (fitW K P Z l = fitL 0 (l.drop 0)) := by unfold Hid fitW; rw [hK, hP, decide_eq_true (show 0 ≤ Z ∧ Z ≤ 65536 by omega), decide_eq_true (show (l.length : Int) = K + P by rw [← HN.out]; exact hkp), List.drop_zero]; rfl
            clear hK hP hz0 hz1 hkp
            go_enter Tryz.func23, Tryz.ntmps23
            go_wp2_with fail
            rw [HWE.out]
            refine (HK.out _).mono ?_
            rintro e w' ⟨rfl, rfl⟩
            go_wp2_with fail
            refine (HP.out _).mono ?_
            rintro e w' ⟨rfl, rfl⟩
            go_wp2_with fail
            clear x0 x1 x2 x3
            go_loopw [39] (fun a wr => ∃ j : Nat, j ≤ n ∧ a = .int .i64 j ∧ Hid (fitW K P Z l = fitL j (l.drop j)) ∧ Hid (Below wE.heap.size wE wr)) (fun a _ => n - (intOf a).toNat)
            case atStart => exact ⟨0, Nat.zero_le _, rfl, HE, Below.refl _ _⟩
            case round =>
              obtain ⟨j, hj, rfl, HF, HB⟩ := hrel
              by_cases hlt : j < n
              · have hlt' : (j : Int) < n := by omega
                obtain ⟨b, off, rfl, hbw, hcl⟩ := H3.out (by have := HN.out; omega)
                have hml : j < l.length := by have := HN.out; omega
                have hci := hcl j hml
                have hkb := (HB.out.mono (B' := w.heap.size) LOW.out.size).block b hbw
                have hkb2 := hkb.trans (LOW.out.block b hbw)
                have e0 := (World.cell?_of_block hkb2).trans hci.1
                have e1 := (World.cell?_of_block hkb2).trans hci.2.1
                have e2 := (World.cell?_of_block hkb2).trans hci.2.2
                obtain ⟨y0, y1, y2, y3⟩ := HC.out wr HB.out
                have hst := fitL_step l j hml
                have hss := HSZ.out l[j] (List.getElem_mem hml)
                generalize l[j] = x at *
                obtain ⟨xn, xd, xs⟩ := x
                dsimp only at e0 e1 e2 hst hss
                have HST := Lib.hid hst
                have HBR : Hid (Below wE.heap.size wE (wr.alloc (.cells #[.int .i64 xn, .string xd, .string xs] 46))) := HB.out.alloc HB.out.size _
                have LOWr := Lib.hid (LOW.out.trans (HB.out.mono LOW.out.size))
                have LOWa := Lib.hid (LOW.out.trans (HBR.out.mono LOW.out.size))
                clear hci hkb hkb2 hcl hst hbw hml
                by_cases hx : xn = (j : Int)
                · have hx1 : (xn != (j : Int)) = false := by simp [hx]
                  by_cases hs : xs.size = 32
                  · have hs1 : ((xs.size : Int) != 32) = false := by simp [hs]
                    have hs2 : (xs.size != 32) = false := by simp [hs]
                    have HF2 : Hid (fitW K P Z l = fitL (j + 1) (l.drop (j + 1))) := by unfold Hid; rw [HF.out, HST.out, decide_eq_true hx, decide_eq_true hs]; rfl
                    clear hx hs
                    go_wp2_with fail
                    go_roundw
                    case rel => exact ⟨j + 1, by omega, by go_num, HF2, HBR⟩
                    case measure => simp [intOf]; omega
                  · have hs1 : ((xs.size : Int) != 32) = true := by simp; omega
                    have hs2 : (xs.size != 32) = true := by simpa using hs
                    have HF2 : Hid (fitW K P Z l = false) := by unfold Hid; rw [HF.out, HST.out, decide_eq_true hx, decide_eq_false hs]; rfl
                    clear hx hs
                    go_wp2_with fail
                    go_ret
                    exact ⟨(congrArg (fun b => Ending.returned (Value.bool b)) HF2.out).symm, LOWa.out⟩
                · have hx1 : (xn != (j : Int)) = true := by simpa using hx
                  have HF2 : Hid (fitW K P Z l = false) := by unfold Hid; rw [HF.out, HST.out, decide_eq_false hx]; rfl
                  clear hx
                  go_wp2_with fail
                  go_ret
                  exact ⟨(congrArg (fun b => Ending.returned (Value.bool b)) HF2.out).symm, LOWa.out⟩
              · obtain rfl : j = n := by omega
                have HF2 : Hid (fitW K P Z l = true) := by unfold Hid; rw [HF.out, HN.out, List.drop_length]; rfl
                have LOWr := Lib.hid (LOW.out.trans (HB.out.mono LOW.out.size))
                obtain ⟨y0, y1, y2, y3⟩ := HC.out wr HB.out
                go_wp2_with fail
                go_ret
                exact ⟨(congrArg (fun b => Ending.returned (Value.bool b)) HF2.out).symm, LOWr.out⟩
          · have d2 : ((n : Int) != K + P) = true := by simpa using hkp
            have HE : Hid (fitW K P Z l = false) := by unfold Hid fitW; rw [hK, hP, decide_eq_false (show ¬ (l.length : Int) = K + P by rw [← HN.out]; exact hkp)]; simp
            clear hK hP hz0 hz1 hkp
            go_enter Tryz.func23, Tryz.ntmps23
            go_wp2_with fail
            rw [HWE.out]
            refine (HK.out _).mono ?_
            rintro e w' ⟨rfl, rfl⟩
            go_wp2_with fail
            refine (HP.out _).mono ?_
            rintro e w' ⟨rfl, rfl⟩
            go_wp2_with fail
            go_ret
            exact ⟨(congrArg (fun b => Ending.returned (Value.bool b)) HE.out).symm, LOW.out⟩
set_option maxRecDepth 20000 in
set_option maxHeartbeats 4000000 in
theorem rfit_any (w : World) (K P Z : Int) (v : Value) (l : List Shd) (h : ShdB w v l) (hl : l.length ≤ 100000) (hsz : ∀ x ∈ l, x.2.2.size ≤ 1000000) :
    Calls Tryz.prog 29 #[.agg #[.int .i64 K, .int .i64 P, .int .i64 Z, v]] w fun e w' => e = .returned (.bool (fitW K P Z l)) ∧ Below w.heap.size w w' := by
  obtain ⟨A, c, rfl, h1, h2, h3⟩ := h
  have hc9 : c ≤ 9223372036854775807 := by unfold maxLen at h2; omega
  obtain ⟨n, hn⟩ : ∃ n, n = l.length := ⟨_, rfl⟩
  have HN := Lib.hid hn
  have H3 := Lib.hid h3
  have HSZ := Lib.hid hsz
  rw [← hn] at h1 hl ⊢
  clear h3 hsz hn
  obtain ⟨wE, hwE⟩ : ∃ wE, wE = w.alloc (.cells #[.int .i64 K, .int .i64 P, .int .i64 Z, .slice A n c] 24) := ⟨_, rfl⟩
  have HWE := Lib.hid hwE.symm
  have LOW : Hid (Below w.heap.size w wE) := by rw [hwE]; exact (Below.refl _ _).alloc (Nat.le_refl _) _
  have HBX : Hid (wE.heap[w.heap.size]? = some (.cells #[.int .i64 K, .int .i64 P, .int .i64 Z, .slice A n c] 24)) := by unfold Hid; rw [hwE]; exact World.alloc_heap_new w _
  have HLT : Hid (w.heap.size < wE.heap.size) := by unfold Hid; rw [hwE]; simp
  have HC : Hid (∀ W, Below wE.heap.size wE W → W.cell? ⟨w.heap.size, 0, none⟩ = some (.int .i64 K) ∧ W.cell? ⟨w.heap.size, 1, none⟩ = some (.int .i64 P) ∧ W.cell? ⟨w.heap.size, 2, none⟩ = some (.int .i64 Z) ∧ W.cell? ⟨w.heap.size, 3, none⟩ = some (.slice A n c)) := fun W hb => by
    have hk := (hb.block w.heap.size HLT.out).trans HBX.out
    refine ⟨?_, ?_, ?_, ?_⟩ <;> (unfold World.cell?; rw [hk]; rfl)
  obtain ⟨x0, x1, x2, x3⟩ := HC.out wE (Below.refl _ _)
  have HK := Lib.hid (fun w' => rfew_any K w')
  have HP := Lib.hid (fun w' => rfew_any P w')
  clear hwE
  cases hK : fewK K with
  | false =>
    have HE : Hid (fitW K P Z l = false) := by unfold Hid fitW; rw [hK]; rfl
    rw [hK] at HK
    clear hK HP
    go_enter Tryz.func29, Tryz.ntmps29
    go_wp2_with fail
    rw [HWE.out]
    refine (HK.out _).mono ?_
    rintro e w' ⟨rfl, rfl⟩
    go_wp2_with fail
    go_ret
    exact ⟨(congrArg (fun b => Ending.returned (Value.bool b)) HE.out).symm, LOW.out⟩
  | true =>
    rw [hK] at HK
    cases hP : fewK P with
    | false =>
      have HE : Hid (fitW K P Z l = false) := by unfold Hid fitW; rw [hK, hP]; rfl
      rw [hP] at HP
      clear hK hP
      go_enter Tryz.func29, Tryz.ntmps29
      go_wp2_with fail
      rw [HWE.out]
      refine (HK.out _).mono ?_
      rintro e w' ⟨rfl, rfl⟩
      go_wp2_with fail
      refine (HP.out _).mono ?_
      rintro e w' ⟨rfl, rfl⟩
      go_wp2_with fail
      go_ret
      exact ⟨(congrArg (fun b => Ending.returned (Value.bool b)) HE.out).symm, LOW.out⟩
    | true =>
      rw [hP] at HP
      have hk1 : 0 < K ∧ K ≤ 16 := by unfold fewK at hK; simpa using hK
      have hp1 : 0 < P ∧ P ≤ 16 := by unfold fewK at hP; simpa using hP
      obtain ⟨hk1, hk2⟩ := hk1
      obtain ⟨hp1, hp2⟩ := hp1
      by_cases hz0 : Z < 0
      · have HE : Hid (fitW K P Z l = false) := by unfold Hid fitW; rw [hK, hP, decide_eq_false (show ¬ (0 ≤ Z ∧ Z ≤ 65536) by omega)]; rfl
        have d0 : decide (Z < 0) = true := decide_eq_true hz0
        clear hK hP hz0
        go_enter Tryz.func29, Tryz.ntmps29
        go_wp2_with fail
        rw [HWE.out]
        refine (HK.out _).mono ?_
        rintro e w' ⟨rfl, rfl⟩
        go_wp2_with fail
        refine (HP.out _).mono ?_
        rintro e w' ⟨rfl, rfl⟩
        go_wp2_with fail
        go_ret
        exact ⟨(congrArg (fun b => Ending.returned (Value.bool b)) HE.out).symm, LOW.out⟩
      · have d0 : decide (Z < 0) = false := decide_eq_false hz0
        by_cases hz1 : 65536 < Z
        · have HE : Hid (fitW K P Z l = false) := by unfold Hid fitW; rw [hK, hP, decide_eq_false (show ¬ (0 ≤ Z ∧ Z ≤ 65536) by omega)]; rfl
          have d1 : decide (65536 < Z) = true := decide_eq_true hz1
          clear hK hP hz0 hz1
          go_enter Tryz.func29, Tryz.ntmps29
          go_wp2_with fail
          rw [HWE.out]
          refine (HK.out _).mono ?_
          rintro e w' ⟨rfl, rfl⟩
          go_wp2_with fail
          refine (HP.out _).mono ?_
          rintro e w' ⟨rfl, rfl⟩
          go_wp2_with fail
          go_ret
          exact ⟨(congrArg (fun b => Ending.returned (Value.bool b)) HE.out).symm, LOW.out⟩
        · have d1 : decide (65536 < Z) = false := decide_eq_false hz1
          by_cases hkp : (n : Int) = K + P
          · have d2 : ((n : Int) != K + P) = false := by simp [hkp]
            have HE : Hid (fitW K P Z l = fitL 0 (l.drop 0)) := by unfold Hid fitW; rw [hK, hP, decide_eq_true (show 0 ≤ Z ∧ Z ≤ 65536 by omega), decide_eq_true (show (l.length : Int) = K + P by rw [← HN.out]; exact hkp), List.drop_zero]; rfl
            clear hK hP hz0 hz1 hkp
            go_enter Tryz.func29, Tryz.ntmps29
            go_wp2_with fail
            rw [HWE.out]
            refine (HK.out _).mono ?_
            rintro e w' ⟨rfl, rfl⟩
            go_wp2_with fail
            refine (HP.out _).mono ?_
            rintro e w' ⟨rfl, rfl⟩
            go_wp2_with fail
            clear x0 x1 x2 x3
            go_loopw [3] (fun a wr => ∃ j : Nat, j ≤ n ∧ a = .int .i64 j ∧ Hid (fitW K P Z l = fitL j (l.drop j)) ∧ Hid (Below wE.heap.size wE wr)) (fun a _ => n - (intOf a).toNat)
            case atStart => exact ⟨0, Nat.zero_le _, rfl, HE, Below.refl _ _⟩
            case round =>
              obtain ⟨j, hj, rfl, HF, HB⟩ := hrel
              by_cases hlt : j < n
              · have hlt' : (j : Int) < n := by omega
                obtain ⟨b, off, rfl, hbw, hcl⟩ := H3.out (by have := HN.out; omega)
                have hml : j < l.length := by have := HN.out; omega
                have hci := hcl j hml
                have hkb := (HB.out.mono (B' := w.heap.size) LOW.out.size).block b hbw
                have hkb2 := hkb.trans (LOW.out.block b hbw)
                have e0 := (World.cell?_of_block hkb2).trans hci.1
                have e1 := (World.cell?_of_block hkb2).trans hci.2.1
                have e2 := (World.cell?_of_block hkb2).trans hci.2.2
                obtain ⟨y0, y1, y2, y3⟩ := HC.out wr HB.out
                have hst := fitL_step l j hml
                have hss := HSZ.out l[j] (List.getElem_mem hml)
                generalize l[j] = x at *
                obtain ⟨xn, xd, xs⟩ := x
                dsimp only at e0 e1 e2 hst hss
                have HST := Lib.hid hst
                have LOWr := Lib.hid (LOW.out.trans (HB.out.mono LOW.out.size))
                clear hci hkb hkb2 hcl hst hbw hml
                by_cases hx : xn = (j : Int)
                · have hx1 : (xn != (j : Int)) = false := by simp [hx]
                  by_cases hs : xs.size = 32
                  · have hs1 : ((xs.size : Int) != 32) = false := by simp [hs]
                    have hs2 : (xs.size != 32) = false := by simp [hs]
                    have HF2 : Hid (fitW K P Z l = fitL (j + 1) (l.drop (j + 1))) := by unfold Hid; rw [HF.out, HST.out, decide_eq_true hx, decide_eq_true hs]; rfl
                    clear hx hs
                    go_wp2_with fail
                    go_roundw
                    case rel => exact ⟨j + 1, by omega, by go_num, HF2, HB⟩
                    case measure => simp [intOf]; omega
                  · have hs1 : ((xs.size : Int) != 32) = true := by simp; omega
                    have hs2 : (xs.size != 32) = true := by simpa using hs
                    have HF2 : Hid (fitW K P Z l = false) := by unfold Hid; rw [HF.out, HST.out, decide_eq_true hx, decide_eq_false hs]; rfl
                    clear hx hs
                    go_wp2_with fail
                    go_ret
                    exact ⟨(congrArg (fun b => Ending.returned (Value.bool b)) HF2.out).symm, LOWr.out⟩
                · have hx1 : (xn != (j : Int)) = true := by simpa using hx
                  have HF2 : Hid (fitW K P Z l = false) := by unfold Hid; rw [HF.out, HST.out, decide_eq_false hx]; rfl
                  clear hx
                  go_wp2_with fail
                  go_ret
                  exact ⟨(congrArg (fun b => Ending.returned (Value.bool b)) HF2.out).symm, LOWr.out⟩
              · obtain rfl : j = n := by omega
                have HF2 : Hid (fitW K P Z l = true) := by unfold Hid; rw [HF.out, HN.out, List.drop_length]; rfl
                have LOWr := Lib.hid (LOW.out.trans (HB.out.mono LOW.out.size))
                obtain ⟨y0, y1, y2, y3⟩ := HC.out wr HB.out
                go_wp2_with fail
                go_ret
                exact ⟨(congrArg (fun b => Ending.returned (Value.bool b)) HF2.out).symm, LOWr.out⟩
          · have d2 : ((n : Int) != K + P) = true := by simpa using hkp
            have HE : Hid (fitW K P Z l = false) := by unfold Hid fitW; rw [hK, hP, decide_eq_false (show ¬ (l.length : Int) = K + P by rw [← HN.out]; exact hkp)]; simp
            clear hK hP hz0 hz1 hkp
            go_enter Tryz.func29, Tryz.ntmps29
            go_wp2_with fail
            rw [HWE.out]
            refine (HK.out _).mono ?_
            rintro e w' ⟨rfl, rfl⟩
            go_wp2_with fail
            refine (HP.out _).mono ?_
            rintro e w' ⟨rfl, rfl⟩
            go_wp2_with fail
            go_ret
            exact ⟨(congrArg (fun b => Ending.returned (Value.bool b)) HE.out).symm, LOW.out⟩
end Go.Proofs.YtfpofcfoeajkiaaGreat
/- The law's few; the document's Same of a ward with itself; numbers and sums. -/
namespace Go.Proofs.YtfpofcfoeajkiaaGreat
open Go.RowKit
set_option linter.unusedVariables false
set_option linter.unusedSimpArgs false
/-- a ward in its block -/
theorem ward_cells {W : World} {B : Nat} {K P Z : Int} {v : Value} (h : W.heap[B]? = some (.cells #[.int .i64 K, .int .i64 P, .int .i64 Z, v] 24)) : W.cell? ⟨B, 0, none⟩ = some (.int .i64 K) ∧ W.cell? ⟨B, 1, none⟩ = some (.int .i64 P) ∧ W.cell? ⟨B, 2, none⟩ = some (.int .i64 Z) ∧ W.cell? ⟨B, 3, none⟩ = some v := by
  refine ⟨?_, ?_, ?_, ?_⟩ <;> (unfold World.cell?; rw [h]; rfl)
set_option maxRecDepth 20000 in
set_option maxHeartbeats 4000000 in
theorem lfew_any (w : World) (K P Z : Int) (v : Value) (l : List Shd) (h : ShdB w v l) (hsz : ∀ x ∈ l, x.2.1.size ≤ 140737488351232 ∧ x.2.2.size ≤ 140737488351232) :
    Calls Tryz.prog 5 #[.agg #[.int .i64 K, .int .i64 P, .int .i64 Z, v]] w fun e w' => e = .returned (.bool (decide (l.length ≤ 34) && fewS l)) ∧ Below w.heap.size w w' := by
  obtain ⟨A, c, rfl, h1, h2, h3⟩ := h
  have hc9 : c ≤ 9223372036854775807 := by unfold maxLen at h2; omega
  obtain ⟨n, hn⟩ : ∃ n, n = l.length := ⟨_, rfl⟩
  have HN := Lib.hid hn
  have H3 := Lib.hid h3
  have HSZ := Lib.hid hsz
  rw [← hn] at h1 ⊢
  clear h3 hsz hn
  obtain ⟨wE, hwE⟩ : ∃ wE, wE = w.alloc (.cells #[.int .i64 K, .int .i64 P, .int .i64 Z, .slice A n c] 24) := ⟨_, rfl⟩
  have HWE := Lib.hid hwE.symm
  have LOW : Hid (Below w.heap.size w wE) := by rw [hwE]; exact (Below.refl _ _).alloc (Nat.le_refl _) _
  have hbx : wE.heap[w.heap.size]? = some (.cells #[.int .i64 K, .int .i64 P, .int .i64 Z, .slice A n c] 24) := by rw [hwE]; exact World.alloc_heap_new w _
  obtain ⟨x0, x1, x2, x3⟩ := ward_cells hbx
  clear hwE hbx
  by_cases h34 : n ≤ 34
  · have d0 : decide ((34 : Int) < (n : Int)) = false := by rw [decide_eq_false_iff_not]; omega
    have HE : Hid ((decide (n ≤ 34) && fewS l) = fewS (l.drop 0)) := by unfold Hid; rw [decide_eq_true h34, List.drop_zero]; rfl
    go_enter Tryz.func5, Tryz.ntmps5
    go_wp2_with fail
    rw [HWE.out]
    go_wp2_with fail
    clear x0 x1 x2 x3
    go_loopw [12] (fun a wr => ∃ j : Nat, j ≤ n ∧ a = .int .i64 j ∧ Hid ((decide (n ≤ 34) && fewS l) = fewS (l.drop j)) ∧ Hid (Below wE.heap.size wE wr)) (fun a _ => n - (intOf a).toNat)
    case atStart => exact ⟨0, Nat.zero_le _, rfl, HE, Below.refl _ _⟩
    case round =>
      obtain ⟨j, hj, rfl, HF, HB⟩ := hrel
      by_cases hlt : j < n
      · have hlt' : (j : Int) < n := by omega
        obtain ⟨b, off, rfl, hbw, hcl⟩ := H3.out (by have := HN.out; omega)
        have hml : j < l.length := by have := HN.out; omega
        have hci := hcl j hml
        have hkb := (HB.out.mono (B' := w.heap.size) LOW.out.size).block b hbw
        have hkb2 := hkb.trans (LOW.out.block b hbw)
        have e0 := (World.cell?_of_block hkb2).trans hci.1
        have e1 := (World.cell?_of_block hkb2).trans hci.2.1
        have e2 := (World.cell?_of_block hkb2).trans hci.2.2
        have hst := fewS_step l j hml
        obtain ⟨hs1, hs2⟩ := HSZ.out l[j] (List.getElem_mem hml)
        generalize l[j] = x at *
        obtain ⟨xn, xd, xs⟩ := x
        dsimp only at e0 e1 e2 hst hs1 hs2
        have HST := Lib.hid hst
        have HBR : Hid (Below wE.heap.size wE (wr.alloc (.cells #[.int .i64 xn, .string xd, .string xs] 46))) := HB.out.alloc HB.out.size _
        have LOWa := Lib.hid (LOW.out.trans (HBR.out.mono LOW.out.size))
        clear hci hkb hkb2 hcl hst hbw hml
        by_cases hd : xd.size ≤ 300
        · have d1 : decide ((300 : Int) < (xd.size : Int)) = false := by rw [decide_eq_false_iff_not]; omega
          by_cases hs : xs.size ≤ 100
          · have d2 : decide ((100 : Int) < (xs.size : Int)) = false := by rw [decide_eq_false_iff_not]; omega
            have HF2 : Hid ((decide (n ≤ 34) && fewS l) = fewS (l.drop (j + 1))) := by unfold Hid; rw [HF.out, HST.out, decide_eq_true hd, decide_eq_true hs]; rfl
            go_wp2_with fail
            go_roundw
            case rel => exact ⟨j + 1, by omega, by go_num, HF2, HBR⟩
            case measure => simp [intOf]; omega
          · have d2 : decide ((100 : Int) < (xs.size : Int)) = true := by rw [decide_eq_true_iff]; omega
            have HF2 : Hid ((decide (n ≤ 34) && fewS l) = false) := by unfold Hid; rw [HF.out, HST.out, decide_eq_true hd, decide_eq_false hs]; rfl
            go_wp2_with fail
            go_ret
            exact ⟨(congrArg (fun b => Ending.returned (Value.bool b)) HF2.out).symm, LOWa.out⟩
        · have d1 : decide ((300 : Int) < (xd.size : Int)) = true := by rw [decide_eq_true_iff]; omega
          have HF2 : Hid ((decide (n ≤ 34) && fewS l) = false) := by unfold Hid; rw [HF.out, HST.out, decide_eq_false hd]; rfl
          go_wp2_with fail
          go_ret
          exact ⟨(congrArg (fun b => Ending.returned (Value.bool b)) HF2.out).symm, LOWa.out⟩
      · obtain rfl : j = n := by omega
        have HF2 : Hid ((decide (j ≤ 34) && fewS l) = true) := by unfold Hid; rw [HF.out, HN.out, List.drop_length]; rfl
        have LOWr := Lib.hid (LOW.out.trans (HB.out.mono LOW.out.size))
        go_wp2_with fail
        go_ret
        exact ⟨(congrArg (fun b => Ending.returned (Value.bool b)) HF2.out).symm, LOWr.out⟩
  · have d0 : decide ((34 : Int) < (n : Int)) = true := by rw [decide_eq_true_iff]; omega
    have HE : Hid ((decide (n ≤ 34) && fewS l) = false) := by unfold Hid; rw [decide_eq_false h34]; rfl
    go_enter Tryz.func5, Tryz.ntmps5
    go_wp2_with fail
    rw [HWE.out]
    go_wp2_with fail
    go_ret
    exact ⟨(congrArg (fun b => Ending.returned (Value.bool b)) HE.out).symm, LOW.out⟩
theorem shd_neq (x : Shd) (w : World) : (binOp .neq 46 (.agg #[.int .i64 x.1, .string x.2.1, .string x.2.2]) (.agg #[.int .i64 x.1, .string x.2.1, .string x.2.2])).run Tryz.prog w = .ok (.bool false) w := by
  have u3 := Tryz.underlying3
  have u4 := Tryz.underlying9
  have hS : Tryz.prog.underlying 46 = some (.struct (Tryz.prog.fieldsOf 46)) := by kernel_rfl
  have hp : Tryz.prog.stoodInHeld 46 = false := by kernel_rfl
  have a3 := Tryz.isAgg3
  have z3 := Tryz.sizeOf3
  have a4 := Tryz.isAgg9
  have z4 := Tryz.sizeOf9
  rw [run_neq_struct, show (10000 : Nat) = 9999 + 1 from rfl, run_equalIn_agg w 9999 46 _ _ hS hp]
  simp only [Program.fieldsOf, Tryz.underlying46]
  go_simp
theorem shd_guard (op : BinOp) (p q : Operand) (x y : Shd) (w : World) : (eqGuard op 46 p q (.agg #[.int .i64 x.1, .string x.2.1, .string x.2.2]) (.agg #[.int .i64 y.1, .string y.2.1, .string y.2.2])).run Tryz.prog w = .ok () w := run_eqGuard_agg _ _ _ _ _ _ _ (by kernel_rfl)
set_option maxRecDepth 20000 in
set_option maxHeartbeats 4000000 in
theorem rsame_self (w : World) (K P Z : Int) (va vb : Value) (l : List Shd) (ha : ShdB w va l) (hb : ShdB w vb l) :
    Calls Tryz.prog 11 #[.agg #[.int .i64 K, .int .i64 P, .int .i64 Z, va], .agg #[.int .i64 K, .int .i64 P, .int .i64 Z, vb]] w fun e w' => e = .returned (.bool true) ∧ Below w.heap.size w w' := by
  obtain ⟨A, ca, rfl, h1, h2, h3⟩ := ha
  obtain ⟨A2, cb, rfl, g1, g2, g3⟩ := hb
  have hc9 : ca ≤ 9223372036854775807 := by unfold maxLen at h2; omega
  have hc8 : cb ≤ 9223372036854775807 := by unfold maxLen at g2; omega
  obtain ⟨n, hn⟩ : ∃ n, n = l.length := ⟨_, rfl⟩
  have HN := Lib.hid hn
  have HA := Lib.hid h3
  have HB0 := Lib.hid g3
  rw [← hn] at h1 g1 ⊢
  clear h3 g3 hn
  obtain ⟨wE, hwE⟩ : ∃ wE, wE = (w.alloc (.cells #[.int .i64 K, .int .i64 P, .int .i64 Z, .slice A n ca] 24)).alloc (.cells #[.int .i64 K, .int .i64 P, .int .i64 Z, .slice A2 n cb] 24) := ⟨_, rfl⟩
  have HWE := Lib.hid hwE.symm
  have LOW : Hid (Below w.heap.size w wE) := by rw [hwE]; exact ((Below.refl _ _).alloc (Nat.le_refl _) _).alloc (by simp) _
  have hbx : wE.heap[w.heap.size]? = some (.cells #[.int .i64 K, .int .i64 P, .int .i64 Z, .slice A n ca] 24) := by rw [hwE]; exact (Below.heap_alloc _ _ _ (by simp)).trans (World.alloc_heap_new w _)
  have hby : wE.heap[w.heap.size + 1]? = some (.cells #[.int .i64 K, .int .i64 P, .int .i64 Z, .slice A2 n cb] 24) := by
    rw [hwE]
    have h := World.alloc_heap_new (w.alloc (.cells #[.int .i64 K, .int .i64 P, .int .i64 Z, .slice A n ca] 24)) (.cells #[.int .i64 K, .int .i64 P, .int .i64 Z, .slice A2 n cb] 24)
    rwa [World.size_alloc] at h
  have HX : Hid (∀ W, Below wE.heap.size wE W → (W.cell? ⟨w.heap.size, 0, none⟩ = some (.int .i64 K) ∧ W.cell? ⟨w.heap.size, 1, none⟩ = some (.int .i64 P) ∧ W.cell? ⟨w.heap.size, 2, none⟩ = some (.int .i64 Z) ∧ W.cell? ⟨w.heap.size, 3, none⟩ = some (.slice A n ca)) ∧ (W.cell? ⟨w.heap.size + 1, 0, none⟩ = some (.int .i64 K) ∧ W.cell? ⟨w.heap.size + 1, 1, none⟩ = some (.int .i64 P) ∧ W.cell? ⟨w.heap.size + 1, 2, none⟩ = some (.int .i64 Z) ∧ W.cell? ⟨w.heap.size + 1, 3, none⟩ = some (.slice A2 n cb))) := fun W hb =>
    ⟨ward_cells ((hb.block _ (Array.getElem?_eq_some_iff.1 hbx).1).trans hbx), ward_cells ((hb.block _ (Array.getElem?_eq_some_iff.1 hby).1).trans hby)⟩
  obtain ⟨⟨x0, x1, x2, x3⟩, y0, y1, y2, y3⟩ := HX.out wE (Below.refl _ _)
  clear hwE hbx hby
  have k1 : (K != K) = false := by simp
  have k2 : (P != P) = false := by simp
  have k3 : (Z != Z) = false := by simp
  have k4 : ((n : Int) != (n : Int)) = false := by simp
  go_enter Tryz.func11, Tryz.ntmps11
  go_wp2_with fail
  rw [HWE.out]
  go_wp2_with fail
  clear x0 x1 x2 x3 y0 y1 y2 y3
  go_loopw [5] (fun a wr => ∃ j : Nat, j ≤ n ∧ a = .int .i64 j ∧ Hid (Below wE.heap.size wE wr)) (fun a _ => n - (intOf a).toNat)
  case atStart => exact ⟨0, Nat.zero_le _, rfl, Below.refl _ _⟩
  case round =>
    obtain ⟨j, hj, rfl, HB⟩ := hrel
    obtain ⟨⟨x0, x1, x2, x3⟩, y0, y1, y2, y3⟩ := HX.out wr HB.out
    by_cases hlt : j < n
    · have hlt' : (j : Int) < n := by omega
      obtain ⟨b, off, rfl, hbw, hcl⟩ := HA.out (by have := HN.out; omega)
      obtain ⟨b2, off2, rfl, hbw2, hcl2⟩ := HB0.out (by have := HN.out; omega)
      have hml : j < l.length := by have := HN.out; omega
      have hci := hcl j hml
      have hci2 := hcl2 j hml
      have hkb := ((HB.out.mono (B' := w.heap.size) LOW.out.size).block b hbw).trans (LOW.out.block b hbw)
      have hkb2 := ((HB.out.mono (B' := w.heap.size) LOW.out.size).block b2 hbw2).trans (LOW.out.block b2 hbw2)
      have e0 := (World.cell?_of_block hkb).trans hci.1
      have e1 := (World.cell?_of_block hkb).trans hci.2.1
      have e2 := (World.cell?_of_block hkb).trans hci.2.2
      have f0 := (World.cell?_of_block hkb2).trans hci2.1
      have f1 := (World.cell?_of_block hkb2).trans hci2.2.1
      have f2 := (World.cell?_of_block hkb2).trans hci2.2.2
      have hng := fun W => shd_neq l[j] W
      have hgd := fun op p q W => shd_guard op p q l[j] l[j] W
      generalize l[j] = x at *
      obtain ⟨xn, xd, xs⟩ := x
      dsimp only at e0 e1 e2 f0 f1 f2 hng hgd
      clear hci hci2 hkb hkb2 hcl hcl2 hbw hbw2 hml
      go_wp2_with fail
      go_quiet (fail)
      go_wp2_with fail
      go_roundw
      case rel => exact ⟨j + 1, by omega, by go_num, Below.drewN HB.out _⟩
      case measure => simp [intOf]; omega
    · obtain rfl : j = n := by omega
      have LOWr := Lib.hid (LOW.out.trans (HB.out.mono LOW.out.size))
      go_wp2_with fail
      go_ret
      exact ⟨rfl, LOWr.out⟩
theorem number_any (n : Nat) (hn : n ≤ 1000000000) (w : World) : Calls Tryz.prog 25 #[.int .i64 n] w fun e w' => e = .returned (.string ⟨(vPut n).toArray⟩) ∧ Below w.heap.size w w' := by
  have HP := Lib.hid (fun w => put_any n (by omega) w)
  go_enter Tryz.func25, Tryz.ntmps25
  go_wp2_with fail
  refine (HP.out _).mono ?_
  rintro e w1 ⟨rfl, b1⟩
  have HB := Lib.hid b1
  clear b1
  go_wp2_with fail
  go_ret
  exact ⟨rfl, HB.out⟩
def sumsL (l : List Shd) : List UInt8 := l.flatMap fun x => x.2.2.data.toList
theorem sumsL_take (l : List Shd) (j : Nat) (h : j < l.length) : sumsL (l.take (j + 1)) = sumsL (l.take j) ++ l[j].2.2.data.toList := by
  unfold sumsL; rw [List.take_succ_eq_append_getElem h, List.flatMap_append, List.flatMap_singleton]
theorem sumsL_len : ∀ {l : List Shd}, (∀ x ∈ l, x.2.2.size = 32) → (sumsL l).length = 32 * l.length
  | [], _ => rfl
  | x :: l, h => by
    have h1 := h x (by simp)
    have h2 := sumsL_len (l := l) (fun y hy => h y (by simp [hy]))
    show (x.2.2.data.toList ++ sumsL l).length = _
    rw [List.length_append, h2]
    have : x.2.2.data.toList.length = x.2.2.size := by simp
    rw [this, h1, List.length_cons]; omega
theorem isBld_belowS {w w' : World} {b : Nat} {l : List UInt8} (h : isBld w b l) (hb : Below w.heap.size w w') : isBld w' b l := by
  have hlt := isBld_lt h
  have hg : w.grownBy w' none := ⟨hb.os, hb.tape, hb.output, hb.size, fun k hk _ => hb.block k hk⟩
  have go : ∀ p, Lib.BuilderAt 93 5 b b p (Lib.byteCells l) w → Lib.BuilderAt 93 5 b b p (Lib.byteCells l) w' := by
    rintro p ⟨hB, v, hbk, hown, hne⟩
    exact ⟨hB, v, by rw [hb.block b hlt]; exact hbk, hown.kept hg (by
      by_cases e : v.ownBlock = none
      · exact .inl e
      · exact .inr e), hne⟩
  rcases h with h | h
  · exact Or.inl (go _ h)
  · exact Or.inr (go _ h)
set_option maxRecDepth 20000 in
set_option maxHeartbeats 4000000 in
theorem sums_any (w : World) (K P Z : Int) (v : Value) (l : List Shd) (h : ShdB w v l) (hl : l.length ≤ 1000) (h0 : l ≠ []) (hsz : ∀ x ∈ l, x.2.2.size = 32) :
    Calls Tryz.prog 26 #[.agg #[.int .i64 K, .int .i64 P, .int .i64 Z, v]] w fun e w' => e = .returned (.string ⟨(sumsL l).toArray⟩) ∧ Below w.heap.size w w' := by
  obtain ⟨A, c, rfl, h1, h2, h3⟩ := h
  have hc9 : c ≤ 9223372036854775807 := by unfold maxLen at h2; omega
  have HNE : Hid (sumsL l ≠ []) := by
    intro e
    have := sumsL_len hsz
    rw [e] at this
    have h4 : 0 < l.length := List.length_pos_iff.2 h0
    simp at this; omega
  have HLN : Hid (∀ j, (sumsL (l.take j)).length ≤ 32000) := fun j => by
    rw [sumsL_len (fun x hx => hsz x (List.mem_of_mem_take hx)), List.length_take]; omega
  obtain ⟨n, hn⟩ : ∃ n, n = l.length := ⟨_, rfl⟩
  have HN := Lib.hid hn
  have H3 := Lib.hid h3
  have HSZ := Lib.hid hsz
  rw [← hn] at h1 hl ⊢
  clear h3 hsz hn h0
  obtain ⟨b0, hb0⟩ : ∃ b0, b0 = w.heap.size + 1 := ⟨_, rfl⟩
  obtain ⟨wE, hwE⟩ : ∃ wE, wE = (w.alloc (.cells #[.int .i64 K, .int .i64 P, .int .i64 Z, .slice A n c] 24)).alloc (.cells #[.pointer none, .slice none 0 0] 93) := ⟨_, rfl⟩
  have HWE := Lib.hid hwE.symm
  have LOW : Hid (Below w.heap.size w wE) := by rw [hwE]; exact ((Below.refl _ _).alloc (Nat.le_refl _) _).alloc (by simp) _
  have hbx : wE.heap[w.heap.size]? = some (.cells #[.int .i64 K, .int .i64 P, .int .i64 Z, .slice A n c] 24) := by rw [hwE]; exact (Below.heap_alloc _ _ _ (by simp)).trans (World.alloc_heap_new w _)
  have HBD : Hid (isBld wE b0 []) := by
    unfold Hid; rw [hwE, hb0]
    have h := isBld_fresh (w.alloc (.cells #[.int .i64 K, .int .i64 P, .int .i64 Z, .slice A n c] 24))
    rwa [World.size_alloc] at h
  have HSZE : Hid (wE.heap.size = b0 + 1) := by unfold Hid; rw [hwE, hb0]; simp
  obtain ⟨x0, x1, x2, x3⟩ := ward_cells hbx
  have HB0 := Lib.hid hb0
  clear hwE hbx
  go_enter Tryz.func26, Tryz.ntmps26
  go_wp2_with fail
  rw [HWE.out]
  rw [← hb0]
  clear hb0
  go_wp2_with fail
  clear x0 x1 x2 x3
  go_loopw [9] (fun a wr => ∃ j : Nat, j ≤ n ∧ a = .int .i64 j ∧ Hid (isBld wr b0 (sumsL (l.take j))) ∧ Hid (Below b0 wE wr)) (fun a _ => n - (intOf a).toNat)
  case atStart => exact ⟨0, Nat.zero_le _, rfl, HBD, Below.refl _ _⟩
  case round =>
    obtain ⟨j, hj, rfl, HBl, HBr⟩ := hrel
    have hbr : b0 ≤ wr.heap.size := by have := HBr.out.size; have := HSZE.out; omega
    by_cases hlt : j < n
    · have hlt' : (j : Int) < n := by omega
      obtain ⟨b, off, rfl, hbw, hcl⟩ := H3.out (by have := HN.out; omega)
      have hml : j < l.length := by have := HN.out; omega
      have hci := hcl j hml
      have hkb := (HBr.out.block b (by have := HB0.out; omega)).trans (LOW.out.block b hbw)
      have e0 := (World.cell?_of_block hkb).trans hci.1
      have e1 := (World.cell?_of_block hkb).trans hci.2.1
      have e2 := (World.cell?_of_block hkb).trans hci.2.2
      have HST := Lib.hid (sumsL_take l j hml)
      have hss := HSZ.out l[j] (List.getElem_mem hml)
      generalize l[j] = x at *
      obtain ⟨xn, xd, xs⟩ := x
      dsimp only at e0 e1 e2 hss
      have HSS := Lib.hid hss
      have ha : Below wr.heap.size wr (wr.alloc (.cells #[.int .i64 xn, .string xd, .string xs] 46)) := (Below.refl _ _).alloc (Nat.le_refl _) _
      have HW := Lib.hid (bldText_ok b0 _ xs _ (isBld_belowS HBl.out ha) (by have := HLN.out j; omega) (Nat.le_trans hbr ha.size))
      have HBa := Lib.hid (HBr.out.trans (ha.mono hbr))
      clear hci hkb hcl hbw hml hss ha
      go_wp2_with fail
      refine HW.out.mono ?_
      rintro e w2 ⟨rfl, i2, b2⟩
      have HB2 := Lib.hid (HBa.out.trans b2)
      have HI2 : Hid (isBld w2 b0 (sumsL (l.take (j + 1)))) := by unfold Hid; rw [HST.out]; exact i2
      clear i2 b2
      go_wp2_with fail
      go_roundw
      case rel => exact ⟨j + 1, by omega, by go_num, HI2, HB2⟩
      case measure => simp [intOf]; omega
    · obtain rfl : j = n := by omega
      have HI : Hid (isBld wr b0 (sumsL l)) := by have := HBl.out; rwa [HN.out, List.take_length] at this
      have HW := Lib.hid (bldString_keep b0 _ wr HI.out HNE.out)
      have HLW : Hid (∀ W, Below b0 wE W → Below w.heap.size w W) := fun W hb => LOW.out.trans (hb.mono (by have := HB0.out; omega))
      clear hlt hj
      go_wp2_with fail
      refine HW.out.mono ?_
      rintro e w2 ⟨rfl, b2, _⟩
      have HB2 := Lib.hid (HLW.out _ (HBr.out.trans b2))
      clear b2
      go_wp2_with fail
      go_ret
      exact ⟨rfl, HB2.out⟩
end Go.Proofs.YtfpofcfoeajkiaaGreat
