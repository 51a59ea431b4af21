/- GfRows, GfBack: for every two lists of texts the call returns true. Conditions: none. -/
import Derived.Test.YtdgnhnhmcobfkaaGfRInv
import Derived.Test.YtdgnhnhmcobfkaaGfPlain
import Derived.Test.YtdgnhnhmcobfkaaArgs
namespace Go.Proofs.Ytdgnhnhmcobfkaa
open Go.RowKit
set_option linter.unusedVariables false
set_option linter.unusedSimpArgs false
set_option maxRecDepth 20000 in
set_option maxHeartbeats 2000000 in
theorem rinvert_no (w : World) (va : Value) (m : List ByteArray) (ha : StrsB w va m) (hsq : sqOk m = false) :
    Calls Try.prog 23 #[va] w fun e w' => e = .returned (.tuple #[.slice none 0 0, .bool false]) ∧ ∃ n, w' = w.drewN n := by
  have HSQ := Lib.hid (square_no w va m ha hsq)
  clear ha hsq
  go_enter Try.func23, Try.ntmps23
  go_wp2_with fail
  refine HSQ.out.mono ?_
  rintro e w1 ⟨rfl, n1, rfl⟩
  go_wp2_with fail
  go_ret2
  exact ⟨rfl, n1, rfl⟩
theorem mrinvert_any (w : World) (va : Value) (m : List ByteArray) (ha : StrsB w va m) :
    Calls Try.prog 23 #[va] w fun e w' => ∃ v, e = .returned (.tuple #[v, .bool (invOk m)]) ∧ StrsN w' v (invL m) ∧ Below w.heap.size w w' := by
  unfold invOk invL
  cases hok : sqOk m with
  | true =>
    rw [if_pos rfl, Bool.true_and]
    exact rinvert_ok w va m ha hok
  | false =>
    refine (rinvert_no w va m ha hok).mono ?_
    rintro e w' ⟨rfl, n, rfl⟩
    exact ⟨_, rfl, by rw [if_neg (by simp)]; exact strsN_nil _, Below.drewN (Below.refl _ _) _⟩
def sameB (a b : List ByteArray) : Bool := decide (a = b)
theorem sameB_self (a : List ByteArray) : sameB a a = true := by simp [sameB]
theorem str_beq_ne {a b : ByteArray} (h : a ≠ b) : (a.toList == b.toList) = false := by
  rw [beq_eq_false_iff_ne]; intro e; apply h; apply ByteArray.ext; rw [ByteArray.toList_eq, ByteArray.toList_eq] at e; exact Array.toList_inj.1 e
theorem str_beq_self (a : ByteArray) : (a.toList == a.toList) = true := by simp
set_option maxRecDepth 20000 in
set_option maxHeartbeats 1000000 in
theorem same_any (w : World) (va vb : Value) (la lb : List ByteArray) (ha : StrsB w va la) (hb : StrsB w vb lb) :
    Calls Try.prog 24 #[va, vb] w fun e w' => e = .returned (.bool (sameB la lb)) ∧ ∃ n, w' = w.drewN n := by
  by_cases hl : la.length = lb.length
  · by_cases h0 : la.length = 0
    · have h0' : lb.length = 0 := by omega
      have ea := List.length_eq_zero_iff.1 h0
      have eb := List.length_eq_zero_iff.1 h0'
      subst ea; subst eb
      have HS : Hid (sameB [] [] = true) := sameB_self _
      obtain ⟨A, c, rfl, hc⟩ := ha.nil
      obtain ⟨A', c', rfl, hc'⟩ := hb.nil
      clear hl h0 h0' ha hb
      go_enter Try.func24, Try.ntmps24
      go_wp2
      refine wp_loop_rounds 1 ?_
      rw [rounds_succ]
      go_wp2
      go_ret
      exact ⟨by rw [HS.out]; rfl, 0, rfl⟩
    · obtain ⟨b, off, c, rfl, hc1, hc2, hlt, hca⟩ := ha.at (by omega)
      obtain ⟨b', off', c', rfl, hc1', hc2', hlt', hcb⟩ := hb.at (by omega)
      have HA := Lib.hid hca; clear hca
      have HB := Lib.hid hcb; clear hcb
      have hz : ((la.length : Int) != (lb.length : Int)) = false := by rw [bne_eq_false_iff_eq]; omega
      have HL := Lib.hid hl
      have hl1 : la.length ≤ lb.length := by omega
      have hl2 : lb.length ≤ la.length := by omega
      clear ha hb h0 hl
      have hm : la.length ≤ 9223372036854775807 := by unfold maxLen at hc2; omega
      clear hc1 hc2 hc1' hc2'
      go_enter Try.func24, Try.ntmps24
      go_wp2
      go_loopw [5] (fun i wr => ∃ k : Nat, k ≤ la.length ∧ i = .int .i64 k ∧ Hid (la.take k = lb.take k) ∧ Hid (∃ m, wr = w.drewN m)) (fun i _ => la.length - (intOf i).toNat)
      case atStart => exact ⟨0, Nat.zero_le _, rfl, rfl, 0, rfl⟩
      case round =>
        obtain ⟨k, hk, rfl, HT, HW⟩ := hrel
        by_cases hlt2 : k < la.length
        · have hlt3 : k < lb.length := by omega
          have e1 : wr.cell? ⟨b, off + k, none⟩ = some (.string la[k]) := by obtain ⟨m, rfl⟩ := HW.out; exact HA.out k hlt2
          have e2 : wr.cell? ⟨b', off' + k, none⟩ = some (.string lb[k]) := by obtain ⟨m, rfl⟩ := HW.out; exact HB.out k hlt3
          by_cases hq : la[k] = lb[k]
          · have HT2 : Hid (la.take (k + 1) = lb.take (k + 1)) := by
              unfold Hid; rw [take_succ_list _ _ hlt2, take_succ_list _ _ hlt3, HT.out, hq]
            rw [← hq] at e2
            have hs := str_beq_self la[k]
            generalize la[k] = x at *
            clear hq
            go_wp2_with fail
            go_quiet (fail)
            go_wp2_with fail
            go_roundw
            case rel => exact ⟨k + 1, by omega, by go_num, HT2, by obtain ⟨m, rfl⟩ := HW.out; exact ⟨_, World.drewN_drewN _ _ _⟩⟩
            case measure => simp [intOf]; omega
          · have HS : Hid (sameB la lb = false) := by
              unfold Hid sameB; rw [decide_eq_false_iff_not]; intro e; exact hq (by subst e; rfl)
            have hs := str_beq_ne hq
            generalize la[k] = x at *
            generalize lb[k] = y at *
            clear hq
            go_wp2_with fail
            go_quiet (fail)
            go_wp2_with fail
            go_ret
            exact ⟨by rw [HS.out]; rfl, by obtain ⟨m, rfl⟩ := HW.out; exact ⟨_, World.drewN_drewN _ _ _⟩⟩
        · have HS : Hid (sameB la lb = true) := by
            unfold Hid sameB
            rw [decide_eq_true_iff]
            have h := HT.out
            rw [List.take_of_length_le (by omega), List.take_of_length_le (by omega)] at h
            exact h
          go_wp2_with fail
          go_ret
          exact ⟨by rw [HS.out]; rfl, HW.out⟩
  · have HS : Hid (sameB la lb = false) := by
      unfold Hid sameB; rw [decide_eq_false_iff_not]; intro e; exact hl (by rw [e])
    obtain ⟨A, c, rfl, hc1, hc2⟩ := ha.len
    obtain ⟨A', c', rfl, hc1', hc2'⟩ := hb.len
    have hz : ((la.length : Int) != (lb.length : Int)) = true := by rw [bne_iff_ne]; omega
    clear ha hb hl
    go_enter Try.func24, Try.ntmps24
    go_wp2
    go_ret
    exact ⟨by rw [HS.out]; rfl, 0, rfl⟩
theorem same_self (w : World) (va vb : Value) (l : List ByteArray) (ha : StrsB w va l) (hb : StrsB w vb l) :
    Calls Try.prog 24 #[va, vb] w fun e w' => e = .returned (.bool true) ∧ ∃ n, w' = w.drewN n := by
  have h := same_any w va vb l l ha hb
  rw [sameB_self] at h
  exact h
set_option maxRecDepth 20000 in
set_option maxHeartbeats 4000000 in
theorem gfRows_any (W : World) (va vb : Value) (m l : List ByteArray) (ha : StrsB W va m) (hb : StrsB W vb l) :
    Calls Try.prog 5 #[va, vb] W fun e w' => e = .returned (.bool true) ∧ Below W.heap.size W w' := by
  have HFa := Lib.hid (few_any W va m ha)
  have HFb := Lib.hid (few_any W vb l hb)
  cases hfa : fewL m with
  | false =>
    rw [hfa] at HFa
    clear hfa ha hb HFb
    go_enter Try.func5, Try.ntmps5
    go_wp2_with fail
    refine HFa.out.mono ?_
    rintro e w' ⟨rfl, rfl⟩
    go_wp2_with fail
    refine (gfAwake_any _).mono ?_
    rintro e w' ⟨rfl, rfl⟩
    go_wp2
    go_ret
    exact ⟨rfl, Below.refl _ _⟩
  | true =>
    rw [hfa] at HFa
    cases hfb : fewL l with
    | false =>
      rw [hfb] at HFb
      clear hfa hfb ha hb
      go_enter Try.func5, Try.ntmps5
      go_wp2_with fail
      refine HFa.out.mono ?_
      rintro e w' ⟨rfl, rfl⟩
      go_wp2_with fail
      refine HFb.out.mono ?_
      rintro e w' ⟨rfl, rfl⟩
      go_wp2_with fail
      refine (gfAwake_any _).mono ?_
      rintro e w' ⟨rfl, rfl⟩
      go_wp2
      go_ret
      exact ⟨rfl, Below.refl _ _⟩
    | true =>
      rw [hfb] at HFb
      have hsz : firstN l ≤ 1000000000 := few_first hfb
      have HA := Lib.hid ha
      have HBs := Lib.hid hb
      clear hfa hfb ha hb
      have HSZ := Lib.hid hsz; clear hsz
      go_enter Try.func5, Try.ntmps5
      go_wp2_with fail
      refine HFa.out.mono ?_
      rintro e w' ⟨rfl, rfl⟩
      go_wp2_with fail
      refine HFb.out.mono ?_
      rintro e w' ⟨rfl, rfl⟩
      clear HFa HFb
      go_wp2_with fail
      refine (mtimes_any _ va vb m l HA.out HBs.out HSZ.out).mono ?_
      rintro e w1 ⟨v1, rfl, s1, b1⟩
      have HW := Lib.hid b1
      have H1 := Lib.hid s1.1
      clear s1 b1
      go_wp2_with fail
      refine (mrtimes_any _ va vb m l (HA.out.below HW.out (Nat.le_refl _)) (HBs.out.below HW.out (Nat.le_refl _)) HSZ.out).mono ?_
      rintro e w2 ⟨v2, rfl, s2, b2⟩
      replace HW := Lib.hid (HW.out.trans (b2.mono HW.out.size))
      replace H1 := Lib.hid (H1.out.below b2 (Nat.le_refl _))
      have H2 := Lib.hid s2.1
      clear s2 b2
      generalize timesOk m l = ok1 at *
      generalize timesL m l = L1 at *
      go_wp2_with fail
      refine (minvert_any _ va m (HA.out.below HW.out (Nat.le_refl _))).mono ?_
      rintro e w3 ⟨v3, rfl, s3, b3⟩
      replace HW := Lib.hid (HW.out.trans (b3.mono HW.out.size))
      replace H1 := Lib.hid (H1.out.below b3 (Nat.le_refl _))
      replace H2 := Lib.hid (H2.out.below b3 (Nat.le_refl _))
      have H3 := Lib.hid s3.1
      clear s3 b3
      go_wp2_with fail
      refine (mrinvert_any _ va m (HA.out.below HW.out (Nat.le_refl _))).mono ?_
      rintro e w4 ⟨v4, rfl, s4, b4⟩
      replace HW := Lib.hid (HW.out.trans (b4.mono HW.out.size))
      replace H1 := Lib.hid (H1.out.below b4 (Nat.le_refl _))
      replace H2 := Lib.hid (H2.out.below b4 (Nat.le_refl _))
      replace H3 := Lib.hid (H3.out.below b4 (Nat.le_refl _))
      have H4 := Lib.hid s4.1
      clear s4 b4
      generalize invOk m = ok2 at *
      generalize invL m = L2 at *
      go_wp2_with fail
      refine (same_self _ _ _ _ H1.out H2.out).mono ?_
      rintro e w' ⟨rfl, n', rfl⟩
      replace HW := Lib.hid (Below.drewN HW.out n')
      go_wp2_with fail
      refine (same_self _ _ _ _ (H3.out.drewN _) (H4.out.drewN _)).mono ?_
      rintro e w' ⟨rfl, n', rfl⟩
      replace HW := Lib.hid (Below.drewN HW.out n')
      go_wp2_with fail
      refine (gfAwake_any _).mono ?_
      rintro e w' ⟨rfl, rfl⟩
      go_wp2
      go_ret
      exact ⟨rfl, by first | exact HW.out | (have h := HW.out; (repeat rw [World.drewN_drewN] at h); exact h)⟩
set_option maxRecDepth 20000 in
set_option maxHeartbeats 4000000 in
theorem gfBack_any (W : World) (va vb : Value) (m l : List ByteArray) (ha : StrsB W va m) (hb : StrsB W vb l) :
    Calls Try.prog 6 #[va, vb] W fun e w' => e = .returned (.bool true) ∧ Below W.heap.size W w' := by
  have HFa := Lib.hid (few_any W va m ha)
  have HFb := Lib.hid (few_any W vb l hb)
  cases hfa : fewL m with
  | false =>
    rw [hfa] at HFa
    clear hfa ha hb HFb
    go_enter Try.func6, Try.ntmps6
    go_wp2_with fail
    refine HFa.out.mono ?_
    rintro e w' ⟨rfl, rfl⟩
    go_wp2_with fail
    refine (gfAwake_any _).mono ?_
    rintro e w' ⟨rfl, rfl⟩
    go_wp2
    go_ret
    exact ⟨rfl, Below.refl _ _⟩
  | true =>
    rw [hfa] at HFa
    cases hfb : fewL l with
    | false =>
      rw [hfb] at HFb
      clear hfa hfb ha hb
      go_enter Try.func6, Try.ntmps6
      go_wp2_with fail
      refine HFa.out.mono ?_
      rintro e w' ⟨rfl, rfl⟩
      go_wp2_with fail
      refine HFb.out.mono ?_
      rintro e w' ⟨rfl, rfl⟩
      go_wp2_with fail
      refine (gfAwake_any _).mono ?_
      rintro e w' ⟨rfl, rfl⟩
      go_wp2
      go_ret
      exact ⟨rfl, Below.refl _ _⟩
    | true =>
      rw [hfb] at HFb
      have hsz : firstN l ≤ 1000000000 := few_first hfb
      have HA := Lib.hid ha
      have HBs := Lib.hid hb
      clear hfa hfb ha hb
      have HSZ := Lib.hid hsz; clear hsz
      cases hok : invOk m with
      | false =>
        have HL := Lib.hid (invL_no hok)
        go_enter Try.func6, Try.ntmps6
        go_wp2_with fail
        refine HFa.out.mono ?_
        rintro e w' ⟨rfl, rfl⟩
        go_wp2_with fail
        refine HFb.out.mono ?_
        rintro e w' ⟨rfl, rfl⟩
        clear HFa HFb
        go_wp2_with fail
        refine (minvert_any _ va m HA.out).mono ?_
        rintro e w1 ⟨v1, rfl, s1, b1⟩
        have HW := Lib.hid b1
        rw [hok]
        have H1 := Lib.hid s1.1
        clear s1 b1
        rw [HL.out] at H1
        clear hok
        go_wp2_with fail
        refine (mtimes_any _ va vb m l (HA.out.below HW.out (Nat.le_refl _)) (HBs.out.below HW.out (Nat.le_refl _)) HSZ.out).mono ?_
        rintro e w2 ⟨v2, rfl, s2, b2⟩
        replace HW := Lib.hid (HW.out.trans (b2.mono HW.out.size))
        replace H1 := Lib.hid (H1.out.below b2 (Nat.le_refl _))
        clear s2 b2
        obtain ⟨A1, c1, rfl, hc1⟩ := H1.out.nil
        go_wp2_with fail
        refine (gfAwake_any _).mono ?_
        rintro e w' ⟨rfl, rfl⟩
        go_wp2
        go_ret
        exact ⟨rfl, by first | exact HW.out | (have h := HW.out; (repeat rw [World.drewN_drewN] at h); exact h)⟩
      | true =>
        have HB1 := Lib.hid (back_inv hok)
        cases hti : timesOk m l with
        | false =>
          go_enter Try.func6, Try.ntmps6
          go_wp2_with fail
          refine HFa.out.mono ?_
          rintro e w' ⟨rfl, rfl⟩
          go_wp2_with fail
          refine HFb.out.mono ?_
          rintro e w' ⟨rfl, rfl⟩
          clear HFa HFb
          go_wp2_with fail
          refine (minvert_any _ va m HA.out).mono ?_
          rintro e w1 ⟨v1, rfl, s1, b1⟩
          have HW := Lib.hid b1
          rw [hok]
          have H1 := Lib.hid s1.1
          clear s1 b1
          go_wp2_with fail
          refine (mtimes_any _ va vb m l (HA.out.below HW.out (Nat.le_refl _)) (HBs.out.below HW.out (Nat.le_refl _)) HSZ.out).mono ?_
          rintro e w2 ⟨v2, rfl, s2, b2⟩
          replace HW := Lib.hid (HW.out.trans (b2.mono HW.out.size))
          replace H1 := Lib.hid (H1.out.below b2 (Nat.le_refl _))
          have H2 := Lib.hid s2.1
          clear s2 b2
          rw [hti]
          go_wp2_with fail
          refine (minvert_any _ v1 (invL m) H1.out).mono ?_
          rintro e w3 ⟨v3, rfl, s3, b3⟩
          replace HW := Lib.hid (HW.out.trans (b3.mono HW.out.size))
          replace H1 := Lib.hid (H1.out.below b3 (Nat.le_refl _))
          replace H2 := Lib.hid (H2.out.below b3 (Nat.le_refl _))
          have H3 := Lib.hid s3.1
          clear s3 b3
          rw [HB1.out.1]
          rw [HB1.out.2] at H3
          go_wp2_with fail
          refine (same_self _ _ _ _ H3.out (HA.out.below HW.out (Nat.le_refl _))).mono ?_
          rintro e w' ⟨rfl, n', rfl⟩
          replace HW := Lib.hid (Below.drewN HW.out n')
          go_wp2_with fail
          refine (gfAwake_any _).mono ?_
          rintro e w' ⟨rfl, rfl⟩
          go_wp2
          go_ret
          exact ⟨rfl, by first | exact HW.out | (have h := HW.out; (repeat rw [World.drewN_drewN] at h); exact h)⟩
        | true =>
          have HT := Lib.hid (back_times hok hti)
          have HSZ2 : Hid (firstN (timesL m l) ≤ 1000000000) := by
            have h1 := firstN_times hti
            unfold Hid; have := HSZ.out; omega
          go_enter Try.func6, Try.ntmps6
          go_wp2_with fail
          refine HFa.out.mono ?_
          rintro e w' ⟨rfl, rfl⟩
          go_wp2_with fail
          refine HFb.out.mono ?_
          rintro e w' ⟨rfl, rfl⟩
          clear HFa HFb
          go_wp2_with fail
          refine (minvert_any _ va m HA.out).mono ?_
          rintro e w1 ⟨v1, rfl, s1, b1⟩
          have HW := Lib.hid b1
          rw [hok]
          have H1 := Lib.hid s1.1
          clear s1 b1
          go_wp2_with fail
          refine (mtimes_any _ va vb m l (HA.out.below HW.out (Nat.le_refl _)) (HBs.out.below HW.out (Nat.le_refl _)) HSZ.out).mono ?_
          rintro e w2 ⟨v2, rfl, s2, b2⟩
          replace HW := Lib.hid (HW.out.trans (b2.mono HW.out.size))
          replace H1 := Lib.hid (H1.out.below b2 (Nat.le_refl _))
          have H2 := Lib.hid s2.1
          clear s2 b2
          rw [hti]
          go_wp2_with fail
          refine (minvert_any _ v1 (invL m) H1.out).mono ?_
          rintro e w3 ⟨v3, rfl, s3, b3⟩
          replace HW := Lib.hid (HW.out.trans (b3.mono HW.out.size))
          replace H1 := Lib.hid (H1.out.below b3 (Nat.le_refl _))
          replace H2 := Lib.hid (H2.out.below b3 (Nat.le_refl _))
          have H3 := Lib.hid s3.1
          clear s3 b3
          rw [HB1.out.1]
          rw [HB1.out.2] at H3
          go_wp2_with fail
          refine (same_self _ _ _ _ H3.out (HA.out.below HW.out (Nat.le_refl _))).mono ?_
          rintro e w' ⟨rfl, n', rfl⟩
          replace HW := Lib.hid (Below.drewN HW.out n')
          replace H1 := Lib.hid (H1.out.drewN n')
          replace H2 := Lib.hid (H2.out.drewN n')
          go_wp2_with fail
          refine (mtimes_any _ v1 v2 (invL m) (timesL m l) H1.out H2.out HSZ2.out).mono ?_
          rintro e w4 ⟨v4, rfl, s4, b4⟩
          replace HW := Lib.hid (HW.out.trans (b4.mono HW.out.size))
          have H4 := Lib.hid s4.1
          clear s4 b4
          rw [HT.out.1]
          rw [HT.out.2] at H4
          go_wp2_with fail
          refine (same_self _ _ _ _ H4.out (HBs.out.below HW.out (Nat.le_refl _))).mono ?_
          rintro e w' ⟨rfl, n', rfl⟩
          replace HW := Lib.hid (Below.drewN HW.out n')
          go_wp2_with fail
          refine (gfAwake_any _).mono ?_
          rintro e w' ⟨rfl, rfl⟩
          go_wp2
          go_ret
          exact ⟨rfl, by first | exact HW.out | (have h := HW.out; (repeat rw [World.drewN_drewN] at h); exact h)⟩
theorem gfRows_ok (W : World) (A0 : Option Addr) (n0 c0 : Nat) (x0 : List ByteArray) {P0 : ByteArray → Prop} (w0 : Sl W A0 n0 c0 1 (x0.flatMap EStr) ∧ x0.length = n0 ∧ (A0 = none → c0 = 0) ∧ ∀ y ∈ x0, P0 y) (A1 : Option Addr) (n1 c1 : Nat) (x1 : List ByteArray) {P1 : ByteArray → Prop} (w1 : Sl W A1 n1 c1 1 (x1.flatMap EStr) ∧ x1.length = n1 ∧ (A1 = none → c1 = 0) ∧ ∀ y ∈ x1, P1 y) :
    Calls Try.prog 5 #[.slice A0 n0 c0, .slice A1 n1 c1] W fun e w' => e = .returned (.bool true) ∧ Below W.heap.size W w' :=
  gfRows_any W _ _ x0 x1 (StrsB.of_sl w0.1 w0.2.1) (StrsB.of_sl w1.1 w1.2.1)
theorem gfBack_ok (W : World) (A0 : Option Addr) (n0 c0 : Nat) (x0 : List ByteArray) {P0 : ByteArray → Prop} (w0 : Sl W A0 n0 c0 1 (x0.flatMap EStr) ∧ x0.length = n0 ∧ (A0 = none → c0 = 0) ∧ ∀ y ∈ x0, P0 y) (A1 : Option Addr) (n1 c1 : Nat) (x1 : List ByteArray) {P1 : ByteArray → Prop} (w1 : Sl W A1 n1 c1 1 (x1.flatMap EStr) ∧ x1.length = n1 ∧ (A1 = none → c1 = 0) ∧ ∀ y ∈ x1, P1 y) :
    Calls Try.prog 6 #[.slice A0 n0 c0, .slice A1 n1 c1] W fun e w' => e = .returned (.bool true) ∧ Below W.heap.size W w' :=
  gfBack_any W _ _ x0 x1 (StrsB.of_sl w0.1 w0.2.1) (StrsB.of_sl w1.1 w1.2.1)
end Go.Proofs.Ytdgnhnhmcobfkaa
