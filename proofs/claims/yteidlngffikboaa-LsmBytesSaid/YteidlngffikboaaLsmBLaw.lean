/- LsmBytes: the law's walk (printed by gen-lsm-blaw.py). -/
import Derived.Test.YteidlngffikboaaLsmPl3
import Derived.Test.YteidlngffikboaaLsmAwake
import Derived.Test.YteidlngffikboaaLsmSame
import Derived.Test.YteidlngffikboaaLsmRead
namespace Go.Proofs.Yteidlngffikboaa
open Go.RowKit
set_option linter.unusedVariables false
set_option linter.unusedSimpArgs false
set_option maxRecDepth 20000 in
set_option maxHeartbeats 8000000 in
theorem bytes_core (w : World) (vl : Value) (l : CntS) (s : ByteArray) (hl : LsmN w vl l) (ql : ∀ r ∈ l.2, r.length ≤ 140737488351232) (hs : s.size ≤ 140737488351232) :
    Calls Try.prog 3 #[vl, .string s] w fun e w' => e = .returned (.bool true) ∧ Below w.heap.size w w' := by
  obtain ⟨A1, c1, A2, c2, rfl⟩ := hl.shapes
  obtain ⟨wE, hwE⟩ : ∃ wE, wE = w.alloc (.cells #[.slice A1 l.1.length c1, .slice A2 l.2.length c2] 25) := ⟨_, rfl⟩
  have HWE := Lib.hid hwE.symm
  have LOW : Hid (Below w.heap.size w wE) := by rw [hwE]; exact (Below.refl _ _).alloc (Nat.le_refl _) _
  have HL : Hid (BoxV w.heap.size (.slice A1 l.1.length c1) (.slice A2 l.2.length c2) l wE) := by rw [hwE]; exact boxV_new w _ _ l hl
  have HF := Lib.hid (few_any wE _ l HL.out.rows ql)
  have l0 := HL.out.c0
  have l1 := HL.out.c1
  clear hwE hl ql
  unfold LsmV at HF ⊢
  generalize hn1 : l.1.length = n1 at *
  generalize hn2 : l.2.length = n2 at *
  cases hf : fewB l with
  | false =>
    rw [hf] at HF
    clear hf
    go_enter Try.func3, Try.ntmps3
    go_wp2_with fail
    rw [HWE.out]
    go_wp2_with fail
    refine HF.out.mono ?_
    rintro e w1 ⟨rfl, b1⟩
    have HL1 := Lib.hid (HL.out.below b1)
    have LOW1 := Lib.hid (LOW.out.trans (b1.mono LOW.out.size))
    clear b1 l0 l1 HF
    go_wp2_with fail
    refine (awake_any _).mono ?_
    rintro e wz ⟨rfl, bz⟩
    have HZ := Lib.hid (LOW1.out.trans (bz.mono LOW1.out.size))
    clear bz
    go_wp2_with fail
    go_ret
    exact ⟨rfl, HZ.out⟩
  | true =>
    rw [hf] at HF
    by_cases h5 : 5000 < s.size
    · have h5i : decide ((5000 : Int) < (s.size : Int)) = true := by rw [decide_eq_true_iff]; omega
      clear hf
      go_enter Try.func3, Try.ntmps3
      go_wp2_with fail
      rw [HWE.out]
      go_wp2_with fail
      refine HF.out.mono ?_
      rintro e w1 ⟨rfl, b1⟩
      have HL1 := Lib.hid (HL.out.below b1)
      have LOW1 := Lib.hid (LOW.out.trans (b1.mono LOW.out.size))
      clear b1 l0 l1 HF
      go_wp2_with fail
      refine (awake_any _).mono ?_
      rintro e wz ⟨rfl, bz⟩
      have HZ := Lib.hid (LOW1.out.trans (bz.mono LOW1.out.size))
      clear bz
      go_wp2_with fail
      go_ret
      exact ⟨rfl, HZ.out⟩
    · have h5i : decide ((5000 : Int) < (s.size : Int)) = false := by rw [decide_eq_false_iff_not]; omega
      obtain ⟨hz1, hz2⟩ := fewB_le hf
      have hsl : s.data.toList.length = s.size := by simp
      have HPR := Lib.hid (fun w' => pread_any w' s (by omega) (fun x hx => formL_small (by omega) hx))
      have HRR := Lib.hid (fun w' => rread_any w' s (by omega) (fun x hx => formL_small (by omega) hx))
      have HBK : Hid (∀ x, readL s.data.toList = some x → Bs (writeL x) = s ∧ sizeS x ≤ 1500 ∧ x.2.length ≤ 1000) := fun x hx => by
        obtain ⟨_, h2, h3⟩ := readL_some hx
        have := formL_small (by omega) h3
        exact ⟨by rw [h2], this.1, this.2⟩
      have HWP : Hid (∀ w' v, LsmN w' v l → Calls Try.prog 10 #[v] w' fun e w'' => e = .returned (.string (Bs (writeL l))) ∧ Below w'.heap.size w' w'') := fun w' v hv => pwrite_any w' v l hv (by omega) (by omega)
      have HWR : Hid (∀ w' v, LsmN w' v l → Calls Try.prog 12 #[v] w' fun e w'' => e = .returned (.string (Bs (writeL l))) ∧ Below w'.heap.size w' w'') := fun w' v hv => rwrite_any w' v l hv (by omega) (by omega)
      have HTT : Hid ((Bs (writeL l)).size ≤ 1000000 ∧ ∀ x, formL (Bs (writeL l)).data.toList = some x → sizeS x ≤ 1500 ∧ x.2.length ≤ 1000) := by
        rw [bs_size, bs_list]
        cases hft : fitB l with
        | false =>
          have e : writeL l = [] := by unfold writeL; rw [if_neg (by rw [hft]; simp)]
          rw [e]
          exact ⟨by simp, fun x hx => formL_small (by simp) hx⟩
        | true =>
          have e : writeL l = bytesS l := by unfold writeL; rw [if_pos hft]
          have ok := (fitB_ok (by omega)).1 hft
          have hfo := formL_there ok.1 (by omega)
          have hrf := rows_fit ok.1 (by omega)
          have hbl : (bytesS l).length ≤ 70000 * (l.1 :: l.2).length := by
            have := outC_len (l.1 :: l.2) (fun r h => (wrapT_len (hrf r h).1 (hrf r h).2).1) (l.1 :: l.2).length
            unfold outC at this
            rwa [List.take_length] at this
          rw [List.length_cons] at hbl
          rw [e]
          refine ⟨by have := ok.2.2; omega, fun x hx => ?_⟩
          rw [hfo] at hx
          cases hx
          exact ⟨by omega, by omega⟩
      have HPT := Lib.hid (fun w' => pread_any w' (Bs (writeL l)) HTT.out.1 HTT.out.2)
      have HEM : Hid (fitB l = false → Bs (writeL l) = ByteArray.empty ∧ readL (Bs (writeL l)).data.toList = none) := fun h => by
        have e : writeL l = [] := by unfold writeL; rw [if_neg (by rw [h]; simp)]
        rw [bs_list, e]
        exact ⟨rfl, readL_none (formL_bad (.inr rfl))⟩
      have HNE : Hid (fitB l = true → ((Bs (writeL l)).toList == ([] : List UInt8)) = false ∧ readL (Bs (writeL l)).data.toList = some l) := fun h => by
        rw [bs_list, ByteArray.toList_eq, bs_list]
        refine ⟨?_, readL_there h (by omega)⟩
        have e : writeL l = bytesS l := by unfold writeL; rw [if_pos h]
        have ok := (fitB_ok (by omega)).1 h
        have hrf := rows_fit ok.1 (by omega)
        have h1 := rowT_len (okR_good ok.1.1) (by have := (hrf l.1 (by simp)).2; omega)
        have := bytesS_ne (s := l) (by have := (hrf l.1 (by simp)).2; omega)
        rw [e]
        simpa using this
      clear HTT hf hsl
      generalize Bs (writeL l) = t at *
      generalize readL s.data.toList = RR at *
      cases RR with
      | none =>
        rw [Option.isSome_none, if_neg (by simp), Option.getD_none] at HPR HRR
        cases hft : fitB l with
        | true =>
          obtain ⟨x, hx⟩ : ∃ x : CntS, x = ([], []) := ⟨_, rfl⟩
          rw [← hx] at HPR HRR
          clear hx
          clear HBK
          obtain ⟨hne, hrt⟩ := HNE.out hft
          rw [hrt] at HPT
          clear HNE HEM hrt hft
          rw [Option.isSome_some, if_pos rfl, Option.getD_some] at HPT
          go_enter Try.func3, Try.ntmps3
          go_wp2_with fail
          rw [HWE.out]
          go_wp2_with fail
          refine HF.out.mono ?_
          rintro e w1 ⟨rfl, b1⟩
          have L_w1 := Lib.hid (HL.out.below b1)
          have LOW_w1 := Lib.hid (LOW.out.trans (b1.mono LOW.out.size))
          clear b1 l0 l1 HF
          have HSX := Lib.hid (fun w' va vb => rSame_any w' va vb x x)
          rw [(sameB_iff x x).2 rfl] at HSX
          have HSL := Lib.hid (fun w' va vb => rSame_any w' va vb l l)
          rw [(sameB_iff l l).2 rfl] at HSL
          go_wp2_with fail
          refine (HPR.out _).mono ?_
          rintro e r1 ⟨va, vb, rfl, hA, hfa, b2⟩
          have L_r1 := Lib.hid (L_w1.out.below b2)
          have LOW_r1 := Lib.hid (LOW_w1.out.trans (b2.mono LOW_w1.out.size))
          clear b2 L_w1 LOW_w1
          obtain ⟨XA1, xc1, XB1, xd1, hsh⟩ := hA.shapes
          unfold LsmV at hsh
          injection hsh with hsh
          injection hsh with hsh
          injection hsh with h1 hsh
          injection hsh with h2 hsh
          subst h1 h2
          clear hsh hfa
          obtain ⟨q1, hq1⟩ : ∃ q, q = r1.alloc (.cells #[.slice XA1 x.1.length xc1, .slice XB1 x.2.length xd1] 25) := ⟨_, rfl⟩
          have Wq1 := Lib.hid hq1.symm
          have bq : Below r1.heap.size r1 q1 := by rw [hq1]; exact (Below.refl _ _).alloc (Nat.le_refl _) _
          have P_q1 : Hid (BoxV r1.heap.size (.slice XA1 x.1.length xc1) (.slice XB1 x.2.length xd1) x q1) := by rw [hq1]; exact boxV_new r1 _ _ x hA
          clear hA hq1
          have L_q1 := Lib.hid (L_r1.out.below bq)
          have LOW_q1 := Lib.hid (LOW_r1.out.trans (bq.mono LOW_r1.out.size))
          clear bq L_r1 LOW_r1
          unfold LsmV
          go_wp2_with fail
          rw [Wq1.out]
          refine (HRR.out _).mono ?_
          rintro e r2 ⟨va, vb, rfl, hA, hfa, b2⟩
          have L_r2 := Lib.hid (L_q1.out.below b2)
          have P_r2 := Lib.hid (P_q1.out.below b2)
          have LOW_r2 := Lib.hid (LOW_q1.out.trans (b2.mono LOW_q1.out.size))
          clear b2 L_q1 P_q1 LOW_q1
          obtain ⟨XA2, xc2, XB2, xd2, hsh⟩ := hA.shapes
          unfold LsmV at hsh
          injection hsh with hsh
          injection hsh with hsh
          injection hsh with h1 hsh
          injection hsh with h2 hsh
          subst h1 h2
          clear hsh hfa
          obtain ⟨q2, hq2⟩ : ∃ q, q = r2.alloc (.cells #[.slice XA2 x.1.length xc2, .slice XB2 x.2.length xd2] 25) := ⟨_, rfl⟩
          have Wq2 := Lib.hid hq2.symm
          have bq : Below r2.heap.size r2 q2 := by rw [hq2]; exact (Below.refl _ _).alloc (Nat.le_refl _) _
          have R_q2 : Hid (BoxV r2.heap.size (.slice XA2 x.1.length xc2) (.slice XB2 x.2.length xd2) x q2) := by rw [hq2]; exact boxV_new r2 _ _ x hA
          clear hA hq2
          have L_q2 := Lib.hid (L_r2.out.below bq)
          have P_q2 := Lib.hid (P_r2.out.below bq)
          have LOW_q2 := Lib.hid (LOW_r2.out.trans (bq.mono LOW_r2.out.size))
          clear bq L_r2 P_r2 LOW_r2
          unfold LsmV
          have CW := Lib.hid (HWP.out q2 _ L_q2.out.rows)
          unfold LsmV at CW
          have l0 := L_q2.out.c0
          have l1 := L_q2.out.c1
          have p0 := P_q2.out.c0
          have p1 := P_q2.out.c1
          have r0 := R_q2.out.c0
          have r1 := R_q2.out.c1
          rw [← Wq2.out] at l0 l1 p0 p1 r0 r1
          go_wp2_with fail
          rw [Wq2.out]
          refine CW.out.mono ?_
          rintro e w5 ⟨rfl, b2⟩
          clear l0 l1 p0 p1 r0 r1
          have L_w5 := Lib.hid (L_q2.out.below b2)
          have P_w5 := Lib.hid (P_q2.out.below b2)
          have R_w5 := Lib.hid (R_q2.out.below b2)
          have LOW_w5 := Lib.hid (LOW_q2.out.trans (b2.mono LOW_q2.out.size))
          clear b2 L_q2 P_q2 R_q2 LOW_q2
          have l0 := L_w5.out.c0
          have l1 := L_w5.out.c1
          have p0 := P_w5.out.c0
          have p1 := P_w5.out.c1
          have r0 := R_w5.out.c0
          have r1 := R_w5.out.c1
          clear CW
          have CS := Lib.hid (HSX.out w5 _ _ P_w5.out.rows R_w5.out.rows)
          unfold LsmV at CS
          go_wp2_with fail
          refine CS.out.mono ?_
          rintro e w6 ⟨rfl, b2⟩
          clear l0 l1 p0 p1 r0 r1
          have L_w6 := Lib.hid (L_w5.out.below b2)
          have P_w6 := Lib.hid (P_w5.out.below b2)
          have R_w6 := Lib.hid (R_w5.out.below b2)
          have LOW_w6 := Lib.hid (LOW_w5.out.trans (b2.mono LOW_w5.out.size))
          clear b2 L_w5 P_w5 R_w5 LOW_w5
          have l0 := L_w6.out.c0
          have l1 := L_w6.out.c1
          have p0 := P_w6.out.c0
          have p1 := P_w6.out.c1
          have r0 := R_w6.out.c0
          have r1 := R_w6.out.c1
          clear CS
          have CR := Lib.hid (HWR.out w6 _ L_w6.out.rows)
          unfold LsmV at CR
          go_wp2_with fail
          refine CR.out.mono ?_
          rintro e w7 ⟨rfl, b2⟩
          clear l0 l1 p0 p1 r0 r1
          have L_w7 := Lib.hid (L_w6.out.below b2)
          have P_w7 := Lib.hid (P_w6.out.below b2)
          have R_w7 := Lib.hid (R_w6.out.below b2)
          have LOW_w7 := Lib.hid (LOW_w6.out.trans (b2.mono LOW_w6.out.size))
          clear b2 L_w6 P_w6 R_w6 LOW_w6
          have l0 := L_w7.out.c0
          have l1 := L_w7.out.c1
          have p0 := P_w7.out.c0
          have p1 := P_w7.out.c1
          have r0 := R_w7.out.c0
          have r1 := R_w7.out.c1
          clear CR
          go_wp2_with fail
          refine (HPT.out _).mono ?_
          rintro e r3 ⟨va, vb, rfl, hA, hfa, b2⟩
          clear l0 l1 p0 p1 r0 r1
          have L_r3 := Lib.hid (L_w7.out.below b2)
          have P_r3 := Lib.hid (P_w7.out.below b2)
          have R_r3 := Lib.hid (R_w7.out.below b2)
          have LOW_r3 := Lib.hid (LOW_w7.out.trans (b2.mono LOW_w7.out.size))
          clear b2 L_w7 P_w7 R_w7 LOW_w7
          obtain ⟨XA3, xc3, XB3, xd3, hsh⟩ := hA.shapes
          rw [hn1, hn2] at hsh
          unfold LsmV at hsh
          injection hsh with hsh
          injection hsh with hsh
          injection hsh with h1 hsh
          injection hsh with h2 hsh
          subst h1 h2
          clear hsh hfa
          obtain ⟨q3, hq3⟩ : ∃ q, q = r3.alloc (.cells #[.slice XA3 n1 xc3, .slice XB3 n2 xd3] 25) := ⟨_, rfl⟩
          have Wq3 := Lib.hid hq3.symm
          have bq : Below r3.heap.size r3 q3 := by rw [hq3]; exact (Below.refl _ _).alloc (Nat.le_refl _) _
          have T_q3 : Hid (BoxV r3.heap.size (.slice XA3 n1 xc3) (.slice XB3 n2 xd3) l q3) := by rw [hq3]; exact boxV_new r3 _ _ l hA
          clear hA hq3
          have L_q3 := Lib.hid (L_r3.out.below bq)
          have P_q3 := Lib.hid (P_r3.out.below bq)
          have R_q3 := Lib.hid (R_r3.out.below bq)
          have LOW_q3 := Lib.hid (LOW_r3.out.trans (bq.mono LOW_r3.out.size))
          clear bq L_r3 P_r3 R_r3 LOW_r3
          unfold LsmV
          have CT := Lib.hid (HSL.out q3 _ _ T_q3.out.rows L_q3.out.rows)
          unfold LsmV at CT
          have l0 := L_q3.out.c0
          have l1 := L_q3.out.c1
          have p0 := P_q3.out.c0
          have p1 := P_q3.out.c1
          have r0 := R_q3.out.c0
          have r1 := R_q3.out.c1
          have t0 := T_q3.out.c0
          have t1 := T_q3.out.c1
          rw [← Wq3.out] at l0 l1 p0 p1 r0 r1 t0 t1
          go_wp2_with fail
          rw [Wq3.out]
          refine CT.out.mono ?_
          rintro e w11 ⟨rfl, b2⟩
          clear l0 l1 p0 p1 r0 r1 t0 t1
          have L_w11 := Lib.hid (L_q3.out.below b2)
          have P_w11 := Lib.hid (P_q3.out.below b2)
          have R_w11 := Lib.hid (R_q3.out.below b2)
          have T_w11 := Lib.hid (T_q3.out.below b2)
          have LOW_w11 := Lib.hid (LOW_q3.out.trans (b2.mono LOW_q3.out.size))
          clear b2 L_q3 P_q3 R_q3 T_q3 LOW_q3
          have l0 := L_w11.out.c0
          have l1 := L_w11.out.c1
          have p0 := P_w11.out.c0
          have p1 := P_w11.out.c1
          have r0 := R_w11.out.c0
          have r1 := R_w11.out.c1
          have t0 := T_w11.out.c0
          have t1 := T_w11.out.c1
          clear CT
          go_wp2_with fail
          refine (awake_any _).mono ?_
          rintro e wz ⟨rfl, bz⟩
          have HZ := Lib.hid (LOW_w11.out.trans (bz.mono LOW_w11.out.size))
          clear bz
          go_wp2_with fail
          go_ret
          exact ⟨rfl, HZ.out⟩
        | false =>
          obtain ⟨x, hx⟩ : ∃ x : CntS, x = ([], []) := ⟨_, rfl⟩
          rw [← hx] at HPR HRR
          clear hx
          clear HBK
          obtain ⟨he, hrt⟩ := HEM.out hft
          rw [hrt] at HPT
          subst he
          clear HNE HEM hft hrt
          rw [Option.isSome_none, if_neg (by simp), Option.getD_none] at HPT
          obtain ⟨l9, hl9⟩ : ∃ x : CntS, x = ([], []) := ⟨_, rfl⟩
          rw [← hl9] at HPT
          clear hl9
          go_enter Try.func3, Try.ntmps3
          go_wp2_with fail
          rw [HWE.out]
          go_wp2_with fail
          refine HF.out.mono ?_
          rintro e w1 ⟨rfl, b1⟩
          have L_w1 := Lib.hid (HL.out.below b1)
          have LOW_w1 := Lib.hid (LOW.out.trans (b1.mono LOW.out.size))
          clear b1 l0 l1 HF
          have HSX := Lib.hid (fun w' va vb => rSame_any w' va vb x x)
          rw [(sameB_iff x x).2 rfl] at HSX
          go_wp2_with fail
          refine (HPR.out _).mono ?_
          rintro e r1 ⟨va, vb, rfl, hA, hfa, b2⟩
          have L_r1 := Lib.hid (L_w1.out.below b2)
          have LOW_r1 := Lib.hid (LOW_w1.out.trans (b2.mono LOW_w1.out.size))
          clear b2 L_w1 LOW_w1
          obtain ⟨XA1, xc1, XB1, xd1, hsh⟩ := hA.shapes
          unfold LsmV at hsh
          injection hsh with hsh
          injection hsh with hsh
          injection hsh with h1 hsh
          injection hsh with h2 hsh
          subst h1 h2
          clear hsh hfa
          obtain ⟨q1, hq1⟩ : ∃ q, q = r1.alloc (.cells #[.slice XA1 x.1.length xc1, .slice XB1 x.2.length xd1] 25) := ⟨_, rfl⟩
          have Wq1 := Lib.hid hq1.symm
          have bq : Below r1.heap.size r1 q1 := by rw [hq1]; exact (Below.refl _ _).alloc (Nat.le_refl _) _
          have P_q1 : Hid (BoxV r1.heap.size (.slice XA1 x.1.length xc1) (.slice XB1 x.2.length xd1) x q1) := by rw [hq1]; exact boxV_new r1 _ _ x hA
          clear hA hq1
          have L_q1 := Lib.hid (L_r1.out.below bq)
          have LOW_q1 := Lib.hid (LOW_r1.out.trans (bq.mono LOW_r1.out.size))
          clear bq L_r1 LOW_r1
          unfold LsmV
          go_wp2_with fail
          rw [Wq1.out]
          refine (HRR.out _).mono ?_
          rintro e r2 ⟨va, vb, rfl, hA, hfa, b2⟩
          have L_r2 := Lib.hid (L_q1.out.below b2)
          have P_r2 := Lib.hid (P_q1.out.below b2)
          have LOW_r2 := Lib.hid (LOW_q1.out.trans (b2.mono LOW_q1.out.size))
          clear b2 L_q1 P_q1 LOW_q1
          obtain ⟨XA2, xc2, XB2, xd2, hsh⟩ := hA.shapes
          unfold LsmV at hsh
          injection hsh with hsh
          injection hsh with hsh
          injection hsh with h1 hsh
          injection hsh with h2 hsh
          subst h1 h2
          clear hsh hfa
          obtain ⟨q2, hq2⟩ : ∃ q, q = r2.alloc (.cells #[.slice XA2 x.1.length xc2, .slice XB2 x.2.length xd2] 25) := ⟨_, rfl⟩
          have Wq2 := Lib.hid hq2.symm
          have bq : Below r2.heap.size r2 q2 := by rw [hq2]; exact (Below.refl _ _).alloc (Nat.le_refl _) _
          have R_q2 : Hid (BoxV r2.heap.size (.slice XA2 x.1.length xc2) (.slice XB2 x.2.length xd2) x q2) := by rw [hq2]; exact boxV_new r2 _ _ x hA
          clear hA hq2
          have L_q2 := Lib.hid (L_r2.out.below bq)
          have P_q2 := Lib.hid (P_r2.out.below bq)
          have LOW_q2 := Lib.hid (LOW_r2.out.trans (bq.mono LOW_r2.out.size))
          clear bq L_r2 P_r2 LOW_r2
          unfold LsmV
          have CW := Lib.hid (HWP.out q2 _ L_q2.out.rows)
          unfold LsmV at CW
          have l0 := L_q2.out.c0
          have l1 := L_q2.out.c1
          have p0 := P_q2.out.c0
          have p1 := P_q2.out.c1
          have r0 := R_q2.out.c0
          have r1 := R_q2.out.c1
          rw [← Wq2.out] at l0 l1 p0 p1 r0 r1
          go_wp2_with fail
          rw [Wq2.out]
          refine CW.out.mono ?_
          rintro e w5 ⟨rfl, b2⟩
          clear l0 l1 p0 p1 r0 r1
          have L_w5 := Lib.hid (L_q2.out.below b2)
          have P_w5 := Lib.hid (P_q2.out.below b2)
          have R_w5 := Lib.hid (R_q2.out.below b2)
          have LOW_w5 := Lib.hid (LOW_q2.out.trans (b2.mono LOW_q2.out.size))
          clear b2 L_q2 P_q2 R_q2 LOW_q2
          have l0 := L_w5.out.c0
          have l1 := L_w5.out.c1
          have p0 := P_w5.out.c0
          have p1 := P_w5.out.c1
          have r0 := R_w5.out.c0
          have r1 := R_w5.out.c1
          clear CW
          have CS := Lib.hid (HSX.out w5 _ _ P_w5.out.rows R_w5.out.rows)
          unfold LsmV at CS
          go_wp2_with fail
          refine CS.out.mono ?_
          rintro e w6 ⟨rfl, b2⟩
          clear l0 l1 p0 p1 r0 r1
          have L_w6 := Lib.hid (L_w5.out.below b2)
          have P_w6 := Lib.hid (P_w5.out.below b2)
          have R_w6 := Lib.hid (R_w5.out.below b2)
          have LOW_w6 := Lib.hid (LOW_w5.out.trans (b2.mono LOW_w5.out.size))
          clear b2 L_w5 P_w5 R_w5 LOW_w5
          have l0 := L_w6.out.c0
          have l1 := L_w6.out.c1
          have p0 := P_w6.out.c0
          have p1 := P_w6.out.c1
          have r0 := R_w6.out.c0
          have r1 := R_w6.out.c1
          clear CS
          have CR := Lib.hid (HWR.out w6 _ L_w6.out.rows)
          unfold LsmV at CR
          go_wp2_with fail
          refine CR.out.mono ?_
          rintro e w7 ⟨rfl, b2⟩
          clear l0 l1 p0 p1 r0 r1
          have L_w7 := Lib.hid (L_w6.out.below b2)
          have P_w7 := Lib.hid (P_w6.out.below b2)
          have R_w7 := Lib.hid (R_w6.out.below b2)
          have LOW_w7 := Lib.hid (LOW_w6.out.trans (b2.mono LOW_w6.out.size))
          clear b2 L_w6 P_w6 R_w6 LOW_w6
          have l0 := L_w7.out.c0
          have l1 := L_w7.out.c1
          have p0 := P_w7.out.c0
          have p1 := P_w7.out.c1
          have r0 := R_w7.out.c0
          have r1 := R_w7.out.c1
          clear CR
          go_wp2_with fail
          refine (HPT.out _).mono ?_
          rintro e r3 ⟨va, vb, rfl, hA, hfa, b2⟩
          clear l0 l1 p0 p1 r0 r1
          have L_r3 := Lib.hid (L_w7.out.below b2)
          have P_r3 := Lib.hid (P_w7.out.below b2)
          have R_r3 := Lib.hid (R_w7.out.below b2)
          have LOW_r3 := Lib.hid (LOW_w7.out.trans (b2.mono LOW_w7.out.size))
          clear b2 L_w7 P_w7 R_w7 LOW_w7
          obtain ⟨XA3, xc3, XB3, xd3, hsh⟩ := hA.shapes
          unfold LsmV at hsh
          injection hsh with hsh
          injection hsh with hsh
          injection hsh with h1 hsh
          injection hsh with h2 hsh
          subst h1 h2
          clear hsh hfa
          obtain ⟨q3, hq3⟩ : ∃ q, q = r3.alloc (.cells #[.slice XA3 l9.1.length xc3, .slice XB3 l9.2.length xd3] 25) := ⟨_, rfl⟩
          have Wq3 := Lib.hid hq3.symm
          have bq : Below r3.heap.size r3 q3 := by rw [hq3]; exact (Below.refl _ _).alloc (Nat.le_refl _) _
          have T_q3 : Hid (BoxV r3.heap.size (.slice XA3 l9.1.length xc3) (.slice XB3 l9.2.length xd3) l9 q3) := by rw [hq3]; exact boxV_new r3 _ _ l9 hA
          clear hA hq3
          have L_q3 := Lib.hid (L_r3.out.below bq)
          have P_q3 := Lib.hid (P_r3.out.below bq)
          have R_q3 := Lib.hid (R_r3.out.below bq)
          have LOW_q3 := Lib.hid (LOW_r3.out.trans (bq.mono LOW_r3.out.size))
          clear bq L_r3 P_r3 R_r3 LOW_r3
          unfold LsmV
          go_wp2_with fail
          rw [Wq3.out]
          refine (awake_any _).mono ?_
          rintro e wz ⟨rfl, bz⟩
          have HZ := Lib.hid (LOW_q3.out.trans (bz.mono LOW_q3.out.size))
          clear bz
          go_wp2_with fail
          go_ret
          exact ⟨rfl, HZ.out⟩
      | some x =>
        rw [Option.isSome_some, if_pos rfl, Option.getD_some] at HPR HRR
        cases hft : fitB l with
        | true =>
          obtain ⟨hbk1, hbk2, hbk3⟩ := HBK.out x rfl
          have HWX : Hid (∀ w' v, LsmN w' v x → Calls Try.prog 10 #[v] w' fun e w'' => e = .returned (.string s) ∧ Below w'.heap.size w' w'') := fun w' v hv => by rw [← hbk1]; exact pwrite_any w' v x hv hbk2 hbk3
          clear hbk1 hbk2 hbk3
          clear HBK
          obtain ⟨hne, hrt⟩ := HNE.out hft
          rw [hrt] at HPT
          clear HNE HEM hrt hft
          rw [Option.isSome_some, if_pos rfl, Option.getD_some] at HPT
          go_enter Try.func3, Try.ntmps3
          go_wp2_with fail
          rw [HWE.out]
          go_wp2_with fail
          refine HF.out.mono ?_
          rintro e w1 ⟨rfl, b1⟩
          have L_w1 := Lib.hid (HL.out.below b1)
          have LOW_w1 := Lib.hid (LOW.out.trans (b1.mono LOW.out.size))
          clear b1 l0 l1 HF
          have HSX := Lib.hid (fun w' va vb => rSame_any w' va vb x x)
          rw [(sameB_iff x x).2 rfl] at HSX
          have HSL := Lib.hid (fun w' va vb => rSame_any w' va vb l l)
          rw [(sameB_iff l l).2 rfl] at HSL
          go_wp2_with fail
          refine (HPR.out _).mono ?_
          rintro e r1 ⟨va, vb, rfl, hA, hfa, b2⟩
          have L_r1 := Lib.hid (L_w1.out.below b2)
          have LOW_r1 := Lib.hid (LOW_w1.out.trans (b2.mono LOW_w1.out.size))
          clear b2 L_w1 LOW_w1
          obtain ⟨XA1, xc1, XB1, xd1, hsh⟩ := hA.shapes
          unfold LsmV at hsh
          injection hsh with hsh
          injection hsh with hsh
          injection hsh with h1 hsh
          injection hsh with h2 hsh
          subst h1 h2
          clear hsh hfa
          obtain ⟨q1, hq1⟩ : ∃ q, q = r1.alloc (.cells #[.slice XA1 x.1.length xc1, .slice XB1 x.2.length xd1] 25) := ⟨_, rfl⟩
          have Wq1 := Lib.hid hq1.symm
          have bq : Below r1.heap.size r1 q1 := by rw [hq1]; exact (Below.refl _ _).alloc (Nat.le_refl _) _
          have P_q1 : Hid (BoxV r1.heap.size (.slice XA1 x.1.length xc1) (.slice XB1 x.2.length xd1) x q1) := by rw [hq1]; exact boxV_new r1 _ _ x hA
          clear hA hq1
          have L_q1 := Lib.hid (L_r1.out.below bq)
          have LOW_q1 := Lib.hid (LOW_r1.out.trans (bq.mono LOW_r1.out.size))
          clear bq L_r1 LOW_r1
          unfold LsmV
          go_wp2_with fail
          rw [Wq1.out]
          refine (HRR.out _).mono ?_
          rintro e r2 ⟨va, vb, rfl, hA, hfa, b2⟩
          have L_r2 := Lib.hid (L_q1.out.below b2)
          have P_r2 := Lib.hid (P_q1.out.below b2)
          have LOW_r2 := Lib.hid (LOW_q1.out.trans (b2.mono LOW_q1.out.size))
          clear b2 L_q1 P_q1 LOW_q1
          obtain ⟨XA2, xc2, XB2, xd2, hsh⟩ := hA.shapes
          unfold LsmV at hsh
          injection hsh with hsh
          injection hsh with hsh
          injection hsh with h1 hsh
          injection hsh with h2 hsh
          subst h1 h2
          clear hsh hfa
          obtain ⟨q2, hq2⟩ : ∃ q, q = r2.alloc (.cells #[.slice XA2 x.1.length xc2, .slice XB2 x.2.length xd2] 25) := ⟨_, rfl⟩
          have Wq2 := Lib.hid hq2.symm
          have bq : Below r2.heap.size r2 q2 := by rw [hq2]; exact (Below.refl _ _).alloc (Nat.le_refl _) _
          have R_q2 : Hid (BoxV r2.heap.size (.slice XA2 x.1.length xc2) (.slice XB2 x.2.length xd2) x q2) := by rw [hq2]; exact boxV_new r2 _ _ x hA
          clear hA hq2
          have L_q2 := Lib.hid (L_r2.out.below bq)
          have P_q2 := Lib.hid (P_r2.out.below bq)
          have LOW_q2 := Lib.hid (LOW_r2.out.trans (bq.mono LOW_r2.out.size))
          clear bq L_r2 P_r2 LOW_r2
          unfold LsmV
          have CW := Lib.hid (HWP.out q2 _ L_q2.out.rows)
          unfold LsmV at CW
          have l0 := L_q2.out.c0
          have l1 := L_q2.out.c1
          have p0 := P_q2.out.c0
          have p1 := P_q2.out.c1
          have r0 := R_q2.out.c0
          have r1 := R_q2.out.c1
          rw [← Wq2.out] at l0 l1 p0 p1 r0 r1
          go_wp2_with fail
          rw [Wq2.out]
          refine CW.out.mono ?_
          rintro e w5 ⟨rfl, b2⟩
          clear l0 l1 p0 p1 r0 r1
          have L_w5 := Lib.hid (L_q2.out.below b2)
          have P_w5 := Lib.hid (P_q2.out.below b2)
          have R_w5 := Lib.hid (R_q2.out.below b2)
          have LOW_w5 := Lib.hid (LOW_q2.out.trans (b2.mono LOW_q2.out.size))
          clear b2 L_q2 P_q2 R_q2 LOW_q2
          have l0 := L_w5.out.c0
          have l1 := L_w5.out.c1
          have p0 := P_w5.out.c0
          have p1 := P_w5.out.c1
          have r0 := R_w5.out.c0
          have r1 := R_w5.out.c1
          clear CW
          have CS := Lib.hid (HSX.out w5 _ _ P_w5.out.rows R_w5.out.rows)
          unfold LsmV at CS
          go_wp2_with fail
          refine CS.out.mono ?_
          rintro e w6 ⟨rfl, b2⟩
          clear l0 l1 p0 p1 r0 r1
          have L_w6 := Lib.hid (L_w5.out.below b2)
          have P_w6 := Lib.hid (P_w5.out.below b2)
          have R_w6 := Lib.hid (R_w5.out.below b2)
          have LOW_w6 := Lib.hid (LOW_w5.out.trans (b2.mono LOW_w5.out.size))
          clear b2 L_w5 P_w5 R_w5 LOW_w5
          have l0 := L_w6.out.c0
          have l1 := L_w6.out.c1
          have p0 := P_w6.out.c0
          have p1 := P_w6.out.c1
          have r0 := R_w6.out.c0
          have r1 := R_w6.out.c1
          clear CS
          have CR := Lib.hid (HWR.out w6 _ L_w6.out.rows)
          unfold LsmV at CR
          go_wp2_with fail
          refine CR.out.mono ?_
          rintro e w7 ⟨rfl, b2⟩
          clear l0 l1 p0 p1 r0 r1
          have L_w7 := Lib.hid (L_w6.out.below b2)
          have P_w7 := Lib.hid (P_w6.out.below b2)
          have R_w7 := Lib.hid (R_w6.out.below b2)
          have LOW_w7 := Lib.hid (LOW_w6.out.trans (b2.mono LOW_w6.out.size))
          clear b2 L_w6 P_w6 R_w6 LOW_w6
          have l0 := L_w7.out.c0
          have l1 := L_w7.out.c1
          have p0 := P_w7.out.c0
          have p1 := P_w7.out.c1
          have r0 := R_w7.out.c0
          have r1 := R_w7.out.c1
          clear CR
          have CX := Lib.hid (HWX.out w7 _ P_w7.out.rows)
          unfold LsmV at CX
          go_wp2_with fail
          refine CX.out.mono ?_
          rintro e w8 ⟨rfl, b2⟩
          clear l0 l1 p0 p1 r0 r1
          have L_w8 := Lib.hid (L_w7.out.below b2)
          have P_w8 := Lib.hid (P_w7.out.below b2)
          have R_w8 := Lib.hid (R_w7.out.below b2)
          have LOW_w8 := Lib.hid (LOW_w7.out.trans (b2.mono LOW_w7.out.size))
          clear b2 L_w7 P_w7 R_w7 LOW_w7
          have l0 := L_w8.out.c0
          have l1 := L_w8.out.c1
          have p0 := P_w8.out.c0
          have p1 := P_w8.out.c1
          have r0 := R_w8.out.c0
          have r1 := R_w8.out.c1
          clear CX
          go_wp2_with fail
          refine (HPT.out _).mono ?_
          rintro e r3 ⟨va, vb, rfl, hA, hfa, b2⟩
          clear l0 l1 p0 p1 r0 r1
          have L_r3 := Lib.hid (L_w8.out.below b2)
          have P_r3 := Lib.hid (P_w8.out.below b2)
          have R_r3 := Lib.hid (R_w8.out.below b2)
          have LOW_r3 := Lib.hid (LOW_w8.out.trans (b2.mono LOW_w8.out.size))
          clear b2 L_w8 P_w8 R_w8 LOW_w8
          obtain ⟨XA3, xc3, XB3, xd3, hsh⟩ := hA.shapes
          rw [hn1, hn2] at hsh
          unfold LsmV at hsh
          injection hsh with hsh
          injection hsh with hsh
          injection hsh with h1 hsh
          injection hsh with h2 hsh
          subst h1 h2
          clear hsh hfa
          obtain ⟨q3, hq3⟩ : ∃ q, q = r3.alloc (.cells #[.slice XA3 n1 xc3, .slice XB3 n2 xd3] 25) := ⟨_, rfl⟩
          have Wq3 := Lib.hid hq3.symm
          have bq : Below r3.heap.size r3 q3 := by rw [hq3]; exact (Below.refl _ _).alloc (Nat.le_refl _) _
          have T_q3 : Hid (BoxV r3.heap.size (.slice XA3 n1 xc3) (.slice XB3 n2 xd3) l q3) := by rw [hq3]; exact boxV_new r3 _ _ l hA
          clear hA hq3
          have L_q3 := Lib.hid (L_r3.out.below bq)
          have P_q3 := Lib.hid (P_r3.out.below bq)
          have R_q3 := Lib.hid (R_r3.out.below bq)
          have LOW_q3 := Lib.hid (LOW_r3.out.trans (bq.mono LOW_r3.out.size))
          clear bq L_r3 P_r3 R_r3 LOW_r3
          unfold LsmV
          have CT := Lib.hid (HSL.out q3 _ _ T_q3.out.rows L_q3.out.rows)
          unfold LsmV at CT
          have l0 := L_q3.out.c0
          have l1 := L_q3.out.c1
          have p0 := P_q3.out.c0
          have p1 := P_q3.out.c1
          have r0 := R_q3.out.c0
          have r1 := R_q3.out.c1
          have t0 := T_q3.out.c0
          have t1 := T_q3.out.c1
          rw [← Wq3.out] at l0 l1 p0 p1 r0 r1 t0 t1
          go_wp2_with fail
          rw [Wq3.out]
          refine CT.out.mono ?_
          rintro e w11 ⟨rfl, b2⟩
          clear l0 l1 p0 p1 r0 r1 t0 t1
          have L_w11 := Lib.hid (L_q3.out.below b2)
          have P_w11 := Lib.hid (P_q3.out.below b2)
          have R_w11 := Lib.hid (R_q3.out.below b2)
          have T_w11 := Lib.hid (T_q3.out.below b2)
          have LOW_w11 := Lib.hid (LOW_q3.out.trans (b2.mono LOW_q3.out.size))
          clear b2 L_q3 P_q3 R_q3 T_q3 LOW_q3
          have l0 := L_w11.out.c0
          have l1 := L_w11.out.c1
          have p0 := P_w11.out.c0
          have p1 := P_w11.out.c1
          have r0 := R_w11.out.c0
          have r1 := R_w11.out.c1
          have t0 := T_w11.out.c0
          have t1 := T_w11.out.c1
          clear CT
          go_wp2_with fail
          refine (awake_any _).mono ?_
          rintro e wz ⟨rfl, bz⟩
          have HZ := Lib.hid (LOW_w11.out.trans (bz.mono LOW_w11.out.size))
          clear bz
          go_wp2_with fail
          go_ret
          exact ⟨rfl, HZ.out⟩
        | false =>
          obtain ⟨hbk1, hbk2, hbk3⟩ := HBK.out x rfl
          have HWX : Hid (∀ w' v, LsmN w' v x → Calls Try.prog 10 #[v] w' fun e w'' => e = .returned (.string s) ∧ Below w'.heap.size w' w'') := fun w' v hv => by rw [← hbk1]; exact pwrite_any w' v x hv hbk2 hbk3
          clear hbk1 hbk2 hbk3
          clear HBK
          obtain ⟨he, hrt⟩ := HEM.out hft
          rw [hrt] at HPT
          subst he
          clear HNE HEM hft hrt
          rw [Option.isSome_none, if_neg (by simp), Option.getD_none] at HPT
          obtain ⟨l9, hl9⟩ : ∃ x : CntS, x = ([], []) := ⟨_, rfl⟩
          rw [← hl9] at HPT
          clear hl9
          go_enter Try.func3, Try.ntmps3
          go_wp2_with fail
          rw [HWE.out]
          go_wp2_with fail
          refine HF.out.mono ?_
          rintro e w1 ⟨rfl, b1⟩
          have L_w1 := Lib.hid (HL.out.below b1)
          have LOW_w1 := Lib.hid (LOW.out.trans (b1.mono LOW.out.size))
          clear b1 l0 l1 HF
          have HSX := Lib.hid (fun w' va vb => rSame_any w' va vb x x)
          rw [(sameB_iff x x).2 rfl] at HSX
          go_wp2_with fail
          refine (HPR.out _).mono ?_
          rintro e r1 ⟨va, vb, rfl, hA, hfa, b2⟩
          have L_r1 := Lib.hid (L_w1.out.below b2)
          have LOW_r1 := Lib.hid (LOW_w1.out.trans (b2.mono LOW_w1.out.size))
          clear b2 L_w1 LOW_w1
          obtain ⟨XA1, xc1, XB1, xd1, hsh⟩ := hA.shapes
          unfold LsmV at hsh
          injection hsh with hsh
          injection hsh with hsh
          injection hsh with h1 hsh
          injection hsh with h2 hsh
          subst h1 h2
          clear hsh hfa
          obtain ⟨q1, hq1⟩ : ∃ q, q = r1.alloc (.cells #[.slice XA1 x.1.length xc1, .slice XB1 x.2.length xd1] 25) := ⟨_, rfl⟩
          have Wq1 := Lib.hid hq1.symm
          have bq : Below r1.heap.size r1 q1 := by rw [hq1]; exact (Below.refl _ _).alloc (Nat.le_refl _) _
          have P_q1 : Hid (BoxV r1.heap.size (.slice XA1 x.1.length xc1) (.slice XB1 x.2.length xd1) x q1) := by rw [hq1]; exact boxV_new r1 _ _ x hA
          clear hA hq1
          have L_q1 := Lib.hid (L_r1.out.below bq)
          have LOW_q1 := Lib.hid (LOW_r1.out.trans (bq.mono LOW_r1.out.size))
          clear bq L_r1 LOW_r1
          unfold LsmV
          go_wp2_with fail
          rw [Wq1.out]
          refine (HRR.out _).mono ?_
          rintro e r2 ⟨va, vb, rfl, hA, hfa, b2⟩
          have L_r2 := Lib.hid (L_q1.out.below b2)
          have P_r2 := Lib.hid (P_q1.out.below b2)
          have LOW_r2 := Lib.hid (LOW_q1.out.trans (b2.mono LOW_q1.out.size))
          clear b2 L_q1 P_q1 LOW_q1
          obtain ⟨XA2, xc2, XB2, xd2, hsh⟩ := hA.shapes
          unfold LsmV at hsh
          injection hsh with hsh
          injection hsh with hsh
          injection hsh with h1 hsh
          injection hsh with h2 hsh
          subst h1 h2
          clear hsh hfa
          obtain ⟨q2, hq2⟩ : ∃ q, q = r2.alloc (.cells #[.slice XA2 x.1.length xc2, .slice XB2 x.2.length xd2] 25) := ⟨_, rfl⟩
          have Wq2 := Lib.hid hq2.symm
          have bq : Below r2.heap.size r2 q2 := by rw [hq2]; exact (Below.refl _ _).alloc (Nat.le_refl _) _
          have R_q2 : Hid (BoxV r2.heap.size (.slice XA2 x.1.length xc2) (.slice XB2 x.2.length xd2) x q2) := by rw [hq2]; exact boxV_new r2 _ _ x hA
          clear hA hq2
          have L_q2 := Lib.hid (L_r2.out.below bq)
          have P_q2 := Lib.hid (P_r2.out.below bq)
          have LOW_q2 := Lib.hid (LOW_r2.out.trans (bq.mono LOW_r2.out.size))
          clear bq L_r2 P_r2 LOW_r2
          unfold LsmV
          have CW := Lib.hid (HWP.out q2 _ L_q2.out.rows)
          unfold LsmV at CW
          have l0 := L_q2.out.c0
          have l1 := L_q2.out.c1
          have p0 := P_q2.out.c0
          have p1 := P_q2.out.c1
          have r0 := R_q2.out.c0
          have r1 := R_q2.out.c1
          rw [← Wq2.out] at l0 l1 p0 p1 r0 r1
          go_wp2_with fail
          rw [Wq2.out]
          refine CW.out.mono ?_
          rintro e w5 ⟨rfl, b2⟩
          clear l0 l1 p0 p1 r0 r1
          have L_w5 := Lib.hid (L_q2.out.below b2)
          have P_w5 := Lib.hid (P_q2.out.below b2)
          have R_w5 := Lib.hid (R_q2.out.below b2)
          have LOW_w5 := Lib.hid (LOW_q2.out.trans (b2.mono LOW_q2.out.size))
          clear b2 L_q2 P_q2 R_q2 LOW_q2
          have l0 := L_w5.out.c0
          have l1 := L_w5.out.c1
          have p0 := P_w5.out.c0
          have p1 := P_w5.out.c1
          have r0 := R_w5.out.c0
          have r1 := R_w5.out.c1
          clear CW
          have CS := Lib.hid (HSX.out w5 _ _ P_w5.out.rows R_w5.out.rows)
          unfold LsmV at CS
          go_wp2_with fail
          refine CS.out.mono ?_
          rintro e w6 ⟨rfl, b2⟩
          clear l0 l1 p0 p1 r0 r1
          have L_w6 := Lib.hid (L_w5.out.below b2)
          have P_w6 := Lib.hid (P_w5.out.below b2)
          have R_w6 := Lib.hid (R_w5.out.below b2)
          have LOW_w6 := Lib.hid (LOW_w5.out.trans (b2.mono LOW_w5.out.size))
          clear b2 L_w5 P_w5 R_w5 LOW_w5
          have l0 := L_w6.out.c0
          have l1 := L_w6.out.c1
          have p0 := P_w6.out.c0
          have p1 := P_w6.out.c1
          have r0 := R_w6.out.c0
          have r1 := R_w6.out.c1
          clear CS
          have CR := Lib.hid (HWR.out w6 _ L_w6.out.rows)
          unfold LsmV at CR
          go_wp2_with fail
          refine CR.out.mono ?_
          rintro e w7 ⟨rfl, b2⟩
          clear l0 l1 p0 p1 r0 r1
          have L_w7 := Lib.hid (L_w6.out.below b2)
          have P_w7 := Lib.hid (P_w6.out.below b2)
          have R_w7 := Lib.hid (R_w6.out.below b2)
          have LOW_w7 := Lib.hid (LOW_w6.out.trans (b2.mono LOW_w6.out.size))
          clear b2 L_w6 P_w6 R_w6 LOW_w6
          have l0 := L_w7.out.c0
          have l1 := L_w7.out.c1
          have p0 := P_w7.out.c0
          have p1 := P_w7.out.c1
          have r0 := R_w7.out.c0
          have r1 := R_w7.out.c1
          clear CR
          have CX := Lib.hid (HWX.out w7 _ P_w7.out.rows)
          unfold LsmV at CX
          go_wp2_with fail
          refine CX.out.mono ?_
          rintro e w8 ⟨rfl, b2⟩
          clear l0 l1 p0 p1 r0 r1
          have L_w8 := Lib.hid (L_w7.out.below b2)
          have P_w8 := Lib.hid (P_w7.out.below b2)
          have R_w8 := Lib.hid (R_w7.out.below b2)
          have LOW_w8 := Lib.hid (LOW_w7.out.trans (b2.mono LOW_w7.out.size))
          clear b2 L_w7 P_w7 R_w7 LOW_w7
          have l0 := L_w8.out.c0
          have l1 := L_w8.out.c1
          have p0 := P_w8.out.c0
          have p1 := P_w8.out.c1
          have r0 := R_w8.out.c0
          have r1 := R_w8.out.c1
          clear CX
          go_wp2_with fail
          refine (HPT.out _).mono ?_
          rintro e r3 ⟨va, vb, rfl, hA, hfa, b2⟩
          clear l0 l1 p0 p1 r0 r1
          have L_r3 := Lib.hid (L_w8.out.below b2)
          have P_r3 := Lib.hid (P_w8.out.below b2)
          have R_r3 := Lib.hid (R_w8.out.below b2)
          have LOW_r3 := Lib.hid (LOW_w8.out.trans (b2.mono LOW_w8.out.size))
          clear b2 L_w8 P_w8 R_w8 LOW_w8
          obtain ⟨XA3, xc3, XB3, xd3, hsh⟩ := hA.shapes
          unfold LsmV at hsh
          injection hsh with hsh
          injection hsh with hsh
          injection hsh with h1 hsh
          injection hsh with h2 hsh
          subst h1 h2
          clear hsh hfa
          obtain ⟨q3, hq3⟩ : ∃ q, q = r3.alloc (.cells #[.slice XA3 l9.1.length xc3, .slice XB3 l9.2.length xd3] 25) := ⟨_, rfl⟩
          have Wq3 := Lib.hid hq3.symm
          have bq : Below r3.heap.size r3 q3 := by rw [hq3]; exact (Below.refl _ _).alloc (Nat.le_refl _) _
          have T_q3 : Hid (BoxV r3.heap.size (.slice XA3 l9.1.length xc3) (.slice XB3 l9.2.length xd3) l9 q3) := by rw [hq3]; exact boxV_new r3 _ _ l9 hA
          clear hA hq3
          have L_q3 := Lib.hid (L_r3.out.below bq)
          have P_q3 := Lib.hid (P_r3.out.below bq)
          have R_q3 := Lib.hid (R_r3.out.below bq)
          have LOW_q3 := Lib.hid (LOW_r3.out.trans (bq.mono LOW_r3.out.size))
          clear bq L_r3 P_r3 R_r3 LOW_r3
          unfold LsmV
          go_wp2_with fail
          rw [Wq3.out]
          refine (awake_any _).mono ?_
          rintro e wz ⟨rfl, bz⟩
          have HZ := Lib.hid (LOW_q3.out.trans (bz.mono LOW_q3.out.size))
          clear bz
          go_wp2_with fail
          go_ret
          exact ⟨rfl, HZ.out⟩
end Go.Proofs.Yteidlngffikboaa
