/- chapter 36's example; ParityDoes: for every text, all numbers and every list of texts the call returns true. Conditions: none. -/
import Derived.Test.YtdgnhnhmcobfkaaParPick
namespace Go.Proofs.Ytdgnhnhmcobfkaa
open Go.RowKit
set_option linter.unusedVariables false
set_option linter.unusedSimpArgs false
theorem split_abcde : splitL ⟨#[97, 98, 99, 100, 101]⟩ 2 = [⟨#[97, 98, 99]⟩, ⟨#[100, 101, 0]⟩] := by decide +kernel
theorem pick_x : (pickJ [⟨#[]⟩, ⟨#[]⟩, ⟨#[120]⟩] [false, false, true] 3 3).length < 2 := by decide +kernel
set_option maxRecDepth 20000 in
set_option maxHeartbeats 2000000 in
theorem parAwake_any (w : World) : Calls Try.prog 26 #[] w fun e w' => e = .returned (.bool true) ∧ Below w.heap.size w w' := by
  have HS := Lib.hid (split_any ⟨#[97, 98, 99, 100, 101]⟩ 2 w (by decide))
  rw [split_abcde, show splitE 2 = 0 by decide] at HS
  have HM : Hid (∀ w1 : World, Calls Try.prog 27 #[.slice (some ⟨w1.heap.size, 0, none⟩) 3 3, .slice (some ⟨w1.heap.size + 1, 0, none⟩) 3 3, .int .i64 2] ((w1.alloc (.cells #[.string ⟨#[]⟩, .string ⟨#[]⟩, .string ⟨#[120]⟩] 9)).alloc (.cells #[.bool false, .bool false, .bool true] 4)) fun e w' => e = .returned (.tuple #[.slice none 0 0, .int .i64 5]) ∧ Below w1.heap.size w1 w') := fun w1 => by
    have hb : Below w1.heap.size w1 ((w1.alloc (.cells #[.string ⟨#[]⟩, .string ⟨#[]⟩, .string ⟨#[120]⟩] 9)).alloc (.cells #[.bool false, .bool false, .bool true] 4)) := ((Below.refl _ _).alloc (Nat.le_refl _) _).alloc (by simp) _
    refine (mend_none _ _ _ [⟨#[]⟩, ⟨#[]⟩, ⟨#[120]⟩] [false, false, true] 2 ?_ ?_ rfl (by decide) (by decide) (by decide) (by decide) pick_x).mono fun e w' ⟨a, b⟩ => ⟨a, hb.trans (b.mono (by simp; omega))⟩
    · refine ⟨_, 3, rfl, by decide, by unfold maxLen; omega, fun _ => ⟨w1.heap.size, 0, rfl, by simp; omega, fun j hj => ?_⟩⟩
      match j, hj with
      | 0, _ => simp
      | 1, _ => simp
      | 2, _ => simp
    · refine ⟨_, 3, rfl, by decide, by unfold maxLen; omega, fun _ => ⟨w1.heap.size + 1, 0, rfl, by simp, fun j hj => ?_⟩⟩
      match j, hj with
      | 0, _ => simp
      | 1, _ => simp
      | 2, _ => simp
  have hs1 : ((⟨#[97, 98, 99]⟩ : ByteArray).toList == (⟨#[97, 98, 99]⟩ : ByteArray).toList) = true := by simp
  have hs2 : ((⟨#[100, 101, 0]⟩ : ByteArray).toList == (⟨#[100, 101, 0]⟩ : ByteArray).toList) = true := by simp
  go_enter Try.func26, Try.ntmps26
  go_wp2_with fail
  refine HS.out.mono ?_
  rintro e w1 ⟨v1, rfl, s1, b1⟩
  have H1 := Lib.hid s1.1
  have HW := Lib.hid b1
  clear s1 b1 HS
  go_wp2_with fail
  refine (HM.out _).mono ?_
  rintro e w2 ⟨rfl, b2⟩
  obtain ⟨b, off, c, hv, h1, h2, h3, h4⟩ := (H1.out.below b2 (Nat.le_refl _)).at (by simp)
  subst hv
  have e0 : w2.cell? ⟨b, off, none⟩ = some (.string ⟨#[97, 98, 99]⟩) := h4 0 (by simp)
  have e1 : w2.cell? ⟨b, off + 1, none⟩ = some (.string ⟨#[100, 101, 0]⟩) := h4 1 (by simp)
  replace HW := Lib.hid (HW.out.trans (b2.mono HW.out.size))
  clear b2 h4 h1 h2 h3 H1 HM
  go_wp2
  go_ret
  exact ⟨rfl, HW.out⟩
theorem few_cat : ∀ {l : List ByteArray}, allN (fun n => decide (n ≤ 60)) l = true → (catL l).length ≤ 60 * l.length
  | [], _ => by simp [catL]
  | a :: l, h => by
    unfold allN at h
    rw [List.all_cons, Bool.and_eq_true, decide_eq_true_iff] at h
    have ih := few_cat (l := l) h.2
    have ha : a.data.toList.length = a.size := by simp
    simp only [catL, List.map_cons, List.flatten_cons, List.length_append, List.length_cons] at ih ⊢
    have := h.1
    omega
theorem fewP_facts {l : List ByteArray} (h : fewP l = true) : firstN l ≤ 1000000000 ∧ (catL l).length ≤ 1000000000 ∧ l.length ≤ 1000000 := by
  unfold fewP at h
  rw [Bool.and_eq_true, decide_eq_true_iff] at h
  have h2 := few_cat h.2
  refine ⟨?_, by omega, by omega⟩
  cases l with
  | nil => simp [firstN]
  | cons a t =>
    have := allN_get h.2 0 (by simp)
    simp only [decide_eq_true_iff, List.getElem_cons_zero] at this
    show a.size ≤ _
    omega
set_option maxRecDepth 20000 in
set_option maxHeartbeats 4000000 in
theorem parityDoes_any (W : World) (s : ByteArray) (k p : Int) (va : Value) (l : List ByteArray) (size : Int) (ha : StrsB W va l) :
    Calls Try.prog 8 #[.string s, .int .i64 k, .int .i64 p, va, .int .i64 size] W fun e w' => e = .returned (.bool true) ∧ Below W.heap.size W w' := by
  have HF := Lib.hid (pfewP_any W va l ha)
  have HA := Lib.hid ha
  clear ha
  by_cases hs : s.size ≤ 500
  · have hd : decide ((500 : Int) < (s.size : Int)) = false := by simp; omega
    have hs6 : s.size ≤ 1000000 := by omega
    clear hs
    cases hf : fewP l with
    | false =>
      rw [hf] at HF
      clear hf
      go_enter Try.func8, Try.ntmps8
      go_wp2_with fail
      refine HF.out.mono ?_
      rintro e w' ⟨rfl, rfl⟩
      go_wp2_with fail
      refine (parAwake_any _).mono ?_
      rintro e wA ⟨rfl, bA⟩
      go_wp2
      go_ret
      exact ⟨rfl, bA⟩
    | true =>
      rw [hf] at HF
      have HF2 := Lib.hid (fewP_facts hf)
      clear hf
      go_enter Try.func8, Try.ntmps8
      go_wp2_with fail
      refine HF.out.mono ?_
      rintro e w' ⟨rfl, rfl⟩
      clear HF
      go_wp2_with fail
      refine (split_any s k _ hs6).mono ?_
      rintro e w1 ⟨v1, rfl, s1, b1⟩
      have HW := Lib.hid b1
      have H1 := Lib.hid s1.1
      clear s1 b1
      go_wp2_with fail
      refine (rsplit_any s k _ hs6).mono ?_
      rintro e w2 ⟨v2, rfl, s2, b2⟩
      replace H1 := Lib.hid (H1.out.below b2 (Nat.le_refl _))
      replace HW := Lib.hid (HW.out.trans (b2.mono HW.out.size))
      have H2 := Lib.hid s2.1
      clear s2 b2
      generalize splitE k = e1 at *
      generalize splitL s k = L1 at *
      go_wp2_with fail
      refine (join_any _ va l size (HA.out.below HW.out (Nat.le_refl _)) HF2.out.2.1 HF2.out.2.2).mono ?_
      rintro e w3 ⟨rfl, b3⟩
      replace H1 := Lib.hid (H1.out.below b3 (Nat.le_refl _))
      replace H2 := Lib.hid (H2.out.below b3 (Nat.le_refl _))
      replace HW := Lib.hid (HW.out.trans (b3.mono HW.out.size))
      clear b3
      go_wp2_with fail
      refine (rjoin_any _ va l size (HA.out.below HW.out (Nat.le_refl _)) HF2.out.2.1).mono ?_
      rintro e w' ⟨rfl, rfl⟩
      have hjs : ((joinB l size).toList == (joinB l size).toList) = true := by simp
      generalize joinB l size = jb at *
      generalize joinE l size = je at *
      go_wp2_with fail
      refine (make_any _ va l p (HA.out.below HW.out (Nat.le_refl _)) HF2.out.1).mono ?_
      rintro e w4 ⟨v4, rfl, s4, b4⟩
      replace H1 := Lib.hid (H1.out.below b4 (Nat.le_refl _))
      replace H2 := Lib.hid (H2.out.below b4 (Nat.le_refl _))
      replace HW := Lib.hid (HW.out.trans (b4.mono HW.out.size))
      have H4 := Lib.hid s4.1
      clear s4 b4
      go_wp2_with fail
      refine (rmake_any _ va l p (HA.out.below HW.out (Nat.le_refl _)) HF2.out.1).mono ?_
      rintro e w5 ⟨v5, rfl, s5, b5⟩
      replace H1 := Lib.hid (H1.out.below b5 (Nat.le_refl _))
      replace H2 := Lib.hid (H2.out.below b5 (Nat.le_refl _))
      replace H4 := Lib.hid (H4.out.below b5 (Nat.le_refl _))
      replace HW := Lib.hid (HW.out.trans (b5.mono HW.out.size))
      have H5 := Lib.hid s5.1
      clear s5 b5
      generalize makeE l p = e2 at *
      generalize makeL l p = L2 at *
      go_wp2_with fail
      refine (psame_self _ _ _ _ H1.out H2.out).mono ?_
      rintro e w' ⟨rfl, n1, rfl⟩
      replace H4 := Lib.hid (H4.out.drewN n1)
      replace H5 := Lib.hid (H5.out.drewN n1)
      replace HW := Lib.hid (Below.drewN HW.out n1)
      clear H1 H2
      go_wp2_with fail
      refine (psame_self _ _ _ _ H4.out H5.out).mono ?_
      rintro e w' ⟨rfl, n2, rfl⟩
      replace HW := Lib.hid (Below.drewN HW.out n2)
      clear H4 H5
      obtain ⟨wq, hwq⟩ : ∃ wq, wq = (w5.drewN n1).drewN n2 := ⟨_, rfl⟩
      have HWQ := Lib.hid hwq
      rw [← hwq] at HW
      clear hwq
      go_wp2_with fail
      refine (matrix_any k p _).mono ?_
      rintro e w6 ⟨v6, rfl, s6, b6⟩
      have HW6 : Hid (Below W.heap.size W w6) := HW.out.trans (Below.mono (by first | exact (by rw [HWQ.out]; exact b6) | (rw [HWQ.out, World.drewN_drewN]; exact b6)) HW.out.size)
      have H6 := Lib.hid s6.1
      clear s6 b6 HW HWQ
      go_wp2_with fail
      refine (rmatrix_any k p _).mono ?_
      rintro e w7 ⟨v7, rfl, s7, b7⟩
      have HW : Hid (Below W.heap.size W w7) := HW6.out.trans (b7.mono HW6.out.size)
      replace H6 := Lib.hid (H6.out.below b7 (Nat.le_refl _))
      have H7 := Lib.hid s7.1
      clear s7 b7 HW6
      go_wp2_with fail
      refine (psame_self _ _ _ _ H6.out H7.out).mono ?_
      rintro e w' ⟨rfl, n3, rfl⟩
      replace HW := Lib.hid (Below.drewN HW.out n3)
      clear H6 H7
      go_wp2_with fail
      refine (parAwake_any _).mono ?_
      rintro e wA ⟨rfl, bA⟩
      go_wp2
      go_ret
      exact ⟨rfl, HW.out.trans (bA.mono HW.out.size)⟩
  · have hd : decide ((500 : Int) < (s.size : Int)) = true := by simp; omega
    clear hs
    go_enter Try.func8, Try.ntmps8
    go_wp2_with fail
    refine (parAwake_any _).mono ?_
    rintro e wA ⟨rfl, bA⟩
    go_wp2
    go_ret
    exact ⟨rfl, bA⟩
theorem parityDoes_ok (W : World) (x0 : ByteArray) {p0 : Prop} (w0 : p0) (x1 : Int) {p1 : Prop} (w1 : p1) (x2 : Int) {p2 : Prop} (w2 : p2) (A3 : Option Addr) (n3 c3 : Nat) (x3 : List ByteArray) {P3 : ByteArray → Prop} (w3 : Sl W A3 n3 c3 1 (x3.flatMap EStr) ∧ x3.length = n3 ∧ (A3 = none → c3 = 0) ∧ ∀ y ∈ x3, P3 y) (x4 : Int) {p4 : Prop} (w4 : p4) :
    Calls Try.prog 8 #[.string x0, .int .i64 x1, .int .i64 x2, .slice A3 n3 c3, .int .i64 x4] W fun e w' => e = .returned (.bool true) ∧ Below W.heap.size W w' :=
  parityDoes_any W x0 x1 x2 _ x3 x4 (StrsB.of_sl w3.1 w3.2.1)
end Go.Proofs.Ytdgnhnhmcobfkaa
