/- ParityMends: for every list of texts, every list of truths and every number the call returns true. Conditions: none. -/
import Derived.Test.YtdgnhnhmcobfkaaParLaws
import Derived.Test.YtdgnhnhmcobfkaaParRMend2
namespace Go.Proofs.Ytdgnhnhmcobfkaa
open Go.RowKit
set_option linter.unusedVariables false
set_option linter.unusedSimpArgs false
theorem flat_bool (l : List Bool) (i : Nat) : (l.flatMap EBool)[i]? = (l[i]?).map Value.bool := by
  induction l generalizing i with
  | nil => simp
  | cons b t ih =>
    cases i with
    | zero => simp [EBool]
    | succ i => simpa [EBool] using ih i
theorem BoolB.of_sl {w : World} {A : Option Addr} {n c : Nat} {l : List Bool} (h : Sl w A n c 1 (l.flatMap EBool)) (hn : l.length = n) : BoolB w (.slice A n c) l := by
  subst hn
  refine ⟨A, c, rfl, h.le, h.cap, fun hl => ?_⟩
  obtain ⟨b, off, e1, e2, e3⟩ := h.cells hl
  refine ⟨b, off, e1, e2, fun j hj => ?_⟩
  rw [e3 j (by omega), flat_bool]
  simp [hj]
theorem fewP_sizes {l : List ByteArray} (h : fewP l = true) : ∀ x ∈ l, x.size ≤ 1000000000 := by
  unfold fewP allN at h
  rw [Bool.and_eq_true, decide_eq_true_iff, List.all_eq_true] at h
  intro x hx
  have := h.2 x hx
  simp at this; omega
set_option maxRecDepth 20000 in
set_option maxHeartbeats 4000000 in
theorem parityMends_any (W : World) (va vh : Value) (l : List ByteArray) (h : List Bool) (k : Int) (ha : StrsB W va l) (hb : BoolB W vh h) :
    Calls Try.prog 7 #[va, vh, .int .i64 k] W fun e w' => e = .returned (.bool true) ∧ Below W.heap.size W w' := by
  have HF := Lib.hid (pfewP_any W va l ha)
  have HA := Lib.hid ha
  have HBo := Lib.hid hb
  obtain ⟨A2, c2, rfl, h3, h4⟩ := hb.len
  have hlI : h.length ≤ 9223372036854775807 := by unfold maxLen at h4; omega
  clear ha hb h3 h4
  cases hf : fewP l with
  | false =>
    rw [hf] at HF
    clear hf
    go_enter Try.func7, Try.ntmps7
    go_wp2_with fail
    refine HF.out.mono ?_
    rintro e w' ⟨rfl, rfl⟩
    go_wp2_with fail
    refine (parAwake_any _).mono ?_
    rintro e wA ⟨rfl, bA⟩
    go_wp2
    go_ret
    exact ⟨rfl, bA⟩
  | true =>
    rw [hf] at HF
    have HF2 := Lib.hid (fewP_sizes hf)
    clear hf
    by_cases hh : h.length ≤ 60
    · have hd : decide ((60 : Int) < (h.length : Int)) = false := by simp; omega
      go_enter Try.func7, Try.ntmps7
      go_wp2_with fail
      refine HF.out.mono ?_
      rintro e w' ⟨rfl, rfl⟩
      clear HF
      go_wp2_with fail
      refine (mend_any _ va _ l h k HA.out HBo.out HF2.out).mono ?_
      rintro e w1 ⟨v1, rfl, s1, b1⟩
      have HW := Lib.hid b1
      have H1 := Lib.hid s1.1
      clear s1 b1
      go_wp2_with fail
      refine (rmend_any _ va _ l h k (HA.out.below HW.out (Nat.le_refl _)) (HBo.out.below HW.out (Nat.le_refl _)) HF2.out).mono ?_
      rintro e w2 ⟨v2, rfl, s2, b2⟩
      replace H1 := Lib.hid (H1.out.below b2 (Nat.le_refl _))
      replace HW := Lib.hid (HW.out.trans (b2.mono HW.out.size))
      have H2 := Lib.hid s2.1
      clear s2 b2
      generalize mendE l h k = e1 at *
      generalize mendV l h k = L1 at *
      go_wp2_with fail
      refine (psame_self _ _ _ _ H1.out H2.out).mono ?_
      rintro e w' ⟨rfl, n1, rfl⟩
      replace HW := Lib.hid (Below.drewN HW.out n1)
      clear H1 H2
      go_wp2_with fail
      refine (parAwake_any _).mono ?_
      rintro e wA ⟨rfl, bA⟩
      go_wp2
      go_ret
      exact ⟨rfl, HW.out.trans (bA.mono HW.out.size)⟩
    · have hd : decide ((60 : Int) < (h.length : Int)) = true := by simp; omega
      go_enter Try.func7, Try.ntmps7
      go_wp2_with fail
      refine HF.out.mono ?_
      rintro e w' ⟨rfl, rfl⟩
      go_wp2_with fail
      refine (parAwake_any _).mono ?_
      rintro e wA ⟨rfl, bA⟩
      go_wp2
      go_ret
      exact ⟨rfl, bA⟩
theorem parityMends_ok (W : World) (A0 : Option Addr) (n0 c0 : Nat) (x0 : List ByteArray) {P0 : ByteArray → Prop} (w0 : Sl W A0 n0 c0 1 (x0.flatMap EStr) ∧ x0.length = n0 ∧ (A0 = none → c0 = 0) ∧ ∀ y ∈ x0, P0 y) (A1 : Option Addr) (n1 c1 : Nat) (x1 : List Bool) {P1 : Bool → Prop} (w1 : Sl W A1 n1 c1 1 (x1.flatMap EBool) ∧ x1.length = n1 ∧ (A1 = none → c1 = 0) ∧ ∀ y ∈ x1, P1 y) (x2 : Int) {p2 : Prop} (w2 : p2) :
    Calls Try.prog 7 #[.slice A0 n0 c0, .slice A1 n1 c1, .int .i64 x2] W fun e w' => e = .returned (.bool true) ∧ Below W.heap.size W w' :=
  parityMends_any W _ _ x0 x1 x2 (StrsB.of_sl w0.1 w0.2.1) (BoolB.of_sl w1.1 w1.2.1)
end Go.Proofs.Ytdgnhnhmcobfkaa
