/- KeysSets, KeysAsks, KeysSwap: their walks (written by gen-keys-laws.py). -/
import Derived.Test.YtjbnkheghafgoaaKeysWrap
namespace Go.Proofs.Ytjbnkheghafgoaa
open Go.RowKit
set_option linter.unusedVariables false
theorem joinK {a b : List ByteArray} (ha : Ris a) (hb : Ris b) : kJoin a b = rJoin a b := join_eq ha hb
theorem bothK {a b : List ByteArray} (ha : Ris a) (hb : Ris b) : kBoth a b = rSome a b true := both_eq ha hb
theorem lessK {a b : List ByteArray} (ha : Ris a) (hb : Ris b) : kLess a b = rSome a b false := lessL_eq ha hb
theorem risJ {a b : List ByteArray} (ha : Ris a) (hb : Ris b) : Ris (kJoin a b) := mMerge_ris _ a b ha hb
theorem risB {a b : List ByteArray} (ha : Ris a) (hb : Ris b) : Ris (kBoth a b) := mMerge_ris _ a b ha hb
theorem risL {a b : List ByteArray} (ha : Ris a) (hb : Ris b) : Ris (kLess a b) := mMerge_ris _ a b ha hb
theorem memJ {a b : List ByteArray} (ha : Ris a) (hb : Ris b) (z : ByteArray) : z ∈ kJoin a b ↔ z ∈ a ∨ z ∈ b := by
  unfold kJoin; rw [mMerge_mem _ a b ha hb z]; simp
theorem memB {a b : List ByteArray} (ha : Ris a) (hb : Ris b) (z : ByteArray) : z ∈ kBoth a b ↔ z ∈ a ∧ z ∈ b := by
  unfold kBoth; rw [mMerge_mem _ a b ha hb z]; simp; intro h _; exact .inl h
theorem memL {a b : List ByteArray} (ha : Ris a) (hb : Ris b) (z : ByteArray) : z ∈ kLess a b ↔ z ∈ a ∧ z ∉ b := by
  unfold kLess; rw [mMerge_mem _ a b ha hb z]; simp; intro h _; exact .inl h
theorem lenJ (a b : List ByteArray) : (kJoin a b).length ≤ a.length + b.length := mMerge_le _ a b
theorem lenB (a b : List ByteArray) : (kBoth a b).length ≤ a.length + b.length := mMerge_le _ a b
theorem lenL (a b : List ByteArray) : (kLess a b).length ≤ a.length + b.length := mMerge_le _ a b
theorem fit_ris {l : List ByteArray} (h : fitL l = true) : Ris l := (of_decide_eq_true h).2
theorem fit_of {l : List ByteArray} (h1 : ∀ x ∈ l, x.size = 32) (h2 : Ris l) : fitL l = true := decide_eq_true ⟨h1, h2⟩

set_option maxRecDepth 20000 in
set_option maxHeartbeats 2000000 in
theorem sets_long (W : World) (A0 A1 : Option Addr) (n0 c0 n1 c1 : Nat) (a b : List ByteArray) (k : ByteArray) (HA : Hid (StrsN W (.slice A0 n0 c0) a)) (HB : Hid (StrsN W (.slice A1 n1 c1) b)) (hf : fewL [a, b] = false) :
    Calls Try.prog 7 #[.slice A0 n0 c0, .slice A1 n1 c1, .string k] W fun e w' => e = .returned (.bool true) ∧ Below W.heap.size W w' := by
  have HW := Lib.hid (Below.refl W.heap.size W)
  go_enter Try.func7, Try.ntmps7
  go_wp2_with fail
  refine (few2 HA.out.1 HB.out.1 hf).mono ?_
  rintro e w1 ⟨rfl, b⟩
  have HA := Lib.hid (HA.out.below b (Nat.le_refl _))
  have HB := Lib.hid (HB.out.below b (Nat.le_refl _))
  have HW := Lib.hid (below_then HW.out b)
  clear b
  go_wp2_with fail
  refine (few2 HA.out.1 HB.out.1 hf).mono ?_
  rintro e w2 ⟨rfl, b⟩
  have HA := Lib.hid (HA.out.below b (Nat.le_refl _))
  have HB := Lib.hid (HB.out.below b (Nat.le_refl _))
  have HW := Lib.hid (below_then HW.out b)
  clear b
  go_wp2_with fail
  refine (cAwake _).mono ?_
  rintro e w3 ⟨rfl, b⟩
  have HA := Lib.hid (HA.out.below b (Nat.le_refl _))
  have HB := Lib.hid (HB.out.below b (Nat.le_refl _))
  have HW := Lib.hid (below_then HW.out b)
  clear b
  go_wp2
  go_ret
  exact ⟨rfl, HW.out⟩
set_option maxRecDepth 20000 in
set_option maxHeartbeats 2000000 in
theorem sets_unfit (W : World) (A0 A1 : Option Addr) (n0 c0 n1 c1 : Nat) (a b : List ByteArray) (k : ByteArray) (HA : Hid (StrsN W (.slice A0 n0 c0) a)) (HB : Hid (StrsN W (.slice A1 n1 c1) b)) (hf : fewL [a, b] = true) (ha : fitL a = false) :
    Calls Try.prog 7 #[.slice A0 n0 c0, .slice A1 n1 c1, .string k] W fun e w' => e = .returned (.bool true) ∧ Below W.heap.size W w' := by
  obtain ⟨l1, l2⟩ := few2_len hf
  have HF := Lib.hid ha; clear ha
  have HFW := Lib.hid hf; clear hf
  have HR := Lib.hid (rOf_eq a)
  have HW := Lib.hid (Below.refl W.heap.size W)
  go_enter Try.func7, Try.ntmps7
  go_wp2_with fail
  refine (few2 HA.out.1 HB.out.1 HFW.out).mono ?_
  rintro e w1 ⟨rfl, b⟩
  have HA := Lib.hid (HA.out.below b (Nat.le_refl _))
  have HB := Lib.hid (HB.out.below b (Nat.le_refl _))
  have HW := Lib.hid (below_then HW.out b)
  clear b
  go_wp2_with fail
  refine (cFit HA.out.1 HF.out).mono ?_
  rintro e w2 ⟨rfl, b⟩
  have HA := Lib.hid (HA.out.below b (Nat.le_refl _))
  have HB := Lib.hid (HB.out.below b (Nat.le_refl _))
  have HW := Lib.hid (below_then HW.out b)
  clear b
  go_wp2_with fail
  refine (cRFit HA.out.1 HF.out).mono ?_
  rintro e w3 ⟨rfl, b⟩
  have HA := Lib.hid (HA.out.below b (Nat.le_refl _))
  have HB := Lib.hid (HB.out.below b (Nat.le_refl _))
  have HW := Lib.hid (below_then HW.out b)
  clear b
  go_wp2_with fail
  refine (cOf HA.out.1 (by omega)).mono ?_
  rintro e w4 ⟨vHO, rfl, h, b⟩
  have HA := Lib.hid (HA.out.below b (Nat.le_refl _))
  have HB := Lib.hid (HB.out.below b (Nat.le_refl _))
  have HW := Lib.hid (below_then HW.out b)
  have HO := Lib.hid h
  clear h b
  go_wp2_with fail
  refine (cROf HA.out.1 (by omega)).mono ?_
  rintro e w5 ⟨vHQ, rfl, h, b⟩
  have HA := Lib.hid (HA.out.below b (Nat.le_refl _))
  have HB := Lib.hid (HB.out.below b (Nat.le_refl _))
  have HO := Lib.hid (HO.out.below b (Nat.le_refl _))
  have HW := Lib.hid (below_then HW.out b)
  have HQ := Lib.hid h
  clear h b
  go_wp2_with fail
  refine (cSame HO.out HQ.out HR.out.symm).mono ?_
  rintro e w6 ⟨rfl, b⟩
  have HA := Lib.hid (HA.out.below b (Nat.le_refl _))
  have HB := Lib.hid (HB.out.below b (Nat.le_refl _))
  have HO := Lib.hid (HO.out.below b (Nat.le_refl _))
  have HQ := Lib.hid (HQ.out.below b (Nat.le_refl _))
  have HW := Lib.hid (below_then HW.out b)
  clear b
  clear HO HQ
  go_wp2_with fail
  refine (cRFit HA.out.1 HF.out).mono ?_
  rintro e w7 ⟨rfl, b⟩
  have HA := Lib.hid (HA.out.below b (Nat.le_refl _))
  have HB := Lib.hid (HB.out.below b (Nat.le_refl _))
  have HW := Lib.hid (below_then HW.out b)
  clear b
  go_wp2_with fail
  refine (cAwake _).mono ?_
  rintro e w8 ⟨rfl, b⟩
  have HA := Lib.hid (HA.out.below b (Nat.le_refl _))
  have HB := Lib.hid (HB.out.below b (Nat.le_refl _))
  have HW := Lib.hid (below_then HW.out b)
  clear b
  go_wp2
  go_ret
  exact ⟨rfl, HW.out⟩
set_option maxRecDepth 20000 in
set_option maxHeartbeats 2000000 in
theorem sets_unfit2 (W : World) (A0 A1 : Option Addr) (n0 c0 n1 c1 : Nat) (a b : List ByteArray) (k : ByteArray) (HA : Hid (StrsN W (.slice A0 n0 c0) a)) (HB : Hid (StrsN W (.slice A1 n1 c1) b)) (hf : fewL [a, b] = true) (ha : fitL a = true) (hb : fitL b = false) :
    Calls Try.prog 7 #[.slice A0 n0 c0, .slice A1 n1 c1, .string k] W fun e w' => e = .returned (.bool true) ∧ Below W.heap.size W w' := by
  obtain ⟨l1, l2⟩ := few2_len hf
  have HF := Lib.hid ha; clear ha
  have HF2 := Lib.hid hb; clear hb
  have HFW := Lib.hid hf; clear hf
  have HR := Lib.hid (rOf_eq a)
  have HW := Lib.hid (Below.refl W.heap.size W)
  go_enter Try.func7, Try.ntmps7
  go_wp2_with fail
  refine (few2 HA.out.1 HB.out.1 HFW.out).mono ?_
  rintro e w1 ⟨rfl, b⟩
  have HA := Lib.hid (HA.out.below b (Nat.le_refl _))
  have HB := Lib.hid (HB.out.below b (Nat.le_refl _))
  have HW := Lib.hid (below_then HW.out b)
  clear b
  go_wp2_with fail
  refine (cFit HA.out.1 HF.out).mono ?_
  rintro e w2 ⟨rfl, b⟩
  have HA := Lib.hid (HA.out.below b (Nat.le_refl _))
  have HB := Lib.hid (HB.out.below b (Nat.le_refl _))
  have HW := Lib.hid (below_then HW.out b)
  clear b
  go_wp2_with fail
  refine (cRFit HA.out.1 HF.out).mono ?_
  rintro e w3 ⟨rfl, b⟩
  have HA := Lib.hid (HA.out.below b (Nat.le_refl _))
  have HB := Lib.hid (HB.out.below b (Nat.le_refl _))
  have HW := Lib.hid (below_then HW.out b)
  clear b
  go_wp2_with fail
  refine (cOf HA.out.1 (by omega)).mono ?_
  rintro e w4 ⟨vHO, rfl, h, b⟩
  have HA := Lib.hid (HA.out.below b (Nat.le_refl _))
  have HB := Lib.hid (HB.out.below b (Nat.le_refl _))
  have HW := Lib.hid (below_then HW.out b)
  have HO := Lib.hid h
  clear h b
  go_wp2_with fail
  refine (cROf HA.out.1 (by omega)).mono ?_
  rintro e w5 ⟨vHQ, rfl, h, b⟩
  have HA := Lib.hid (HA.out.below b (Nat.le_refl _))
  have HB := Lib.hid (HB.out.below b (Nat.le_refl _))
  have HO := Lib.hid (HO.out.below b (Nat.le_refl _))
  have HW := Lib.hid (below_then HW.out b)
  have HQ := Lib.hid h
  clear h b
  go_wp2_with fail
  refine (cSame HO.out HQ.out HR.out.symm).mono ?_
  rintro e w6 ⟨rfl, b⟩
  have HA := Lib.hid (HA.out.below b (Nat.le_refl _))
  have HB := Lib.hid (HB.out.below b (Nat.le_refl _))
  have HO := Lib.hid (HO.out.below b (Nat.le_refl _))
  have HQ := Lib.hid (HQ.out.below b (Nat.le_refl _))
  have HW := Lib.hid (below_then HW.out b)
  clear b
  clear HO HQ
  go_wp2_with fail
  refine (cRFit HA.out.1 HF.out).mono ?_
  rintro e w7 ⟨rfl, b⟩
  have HA := Lib.hid (HA.out.below b (Nat.le_refl _))
  have HB := Lib.hid (HB.out.below b (Nat.le_refl _))
  have HW := Lib.hid (below_then HW.out b)
  clear b
  go_wp2_with fail
  refine (cRFit HB.out.1 HF2.out).mono ?_
  rintro e w8 ⟨rfl, b⟩
  have HA := Lib.hid (HA.out.below b (Nat.le_refl _))
  have HB := Lib.hid (HB.out.below b (Nat.le_refl _))
  have HW := Lib.hid (below_then HW.out b)
  clear b
  go_wp2_with fail
  refine (cAwake _).mono ?_
  rintro e w9 ⟨rfl, b⟩
  have HA := Lib.hid (HA.out.below b (Nat.le_refl _))
  have HB := Lib.hid (HB.out.below b (Nat.le_refl _))
  have HW := Lib.hid (below_then HW.out b)
  clear b
  go_wp2
  go_ret
  exact ⟨rfl, HW.out⟩
set_option maxRecDepth 20000 in
set_option maxHeartbeats 2000000 in
theorem sets_fit (W : World) (A0 A1 : Option Addr) (n0 c0 n1 c1 : Nat) (a b : List ByteArray) (k : ByteArray) (HA : Hid (StrsN W (.slice A0 n0 c0) a)) (HB : Hid (StrsN W (.slice A1 n1 c1) b)) (hf : fewL [a, b] = true) (ha : fitL a = true) (hb : fitL b = true) :
    Calls Try.prog 7 #[.slice A0 n0 c0, .slice A1 n1 c1, .string k] W fun e w' => e = .returned (.bool true) ∧ Below W.heap.size W w' := by
  obtain ⟨l1, l2⟩ := few2_len hf
  have ra := fit_ris ha
  have rb := fit_ris hb
  have HRA := Lib.hid ra; clear ra
  have HRB := Lib.hid rb; clear rb
  have HF := Lib.hid ha; clear ha
  have HF2 := Lib.hid hb; clear hb
  have HFW := Lib.hid hf; clear hf
  have HR := Lib.hid (rOf_eq a)
  obtain ⟨d, hd⟩ : ∃ d, decide (k ∈ a) = d := ⟨_, rfl⟩
  have HD := Lib.hid hd; clear hd
  have HW := Lib.hid (Below.refl W.heap.size W)
  go_enter Try.func7, Try.ntmps7
  go_wp2_with fail
  refine (few2 HA.out.1 HB.out.1 HFW.out).mono ?_
  rintro e w1 ⟨rfl, b⟩
  have HA := Lib.hid (HA.out.below b (Nat.le_refl _))
  have HB := Lib.hid (HB.out.below b (Nat.le_refl _))
  have HW := Lib.hid (below_then HW.out b)
  clear b
  go_wp2_with fail
  refine (cFit HA.out.1 HF.out).mono ?_
  rintro e w2 ⟨rfl, b⟩
  have HA := Lib.hid (HA.out.below b (Nat.le_refl _))
  have HB := Lib.hid (HB.out.below b (Nat.le_refl _))
  have HW := Lib.hid (below_then HW.out b)
  clear b
  go_wp2_with fail
  refine (cRFit HA.out.1 HF.out).mono ?_
  rintro e w3 ⟨rfl, b⟩
  have HA := Lib.hid (HA.out.below b (Nat.le_refl _))
  have HB := Lib.hid (HB.out.below b (Nat.le_refl _))
  have HW := Lib.hid (below_then HW.out b)
  clear b
  go_wp2_with fail
  refine (cOf HA.out.1 (by omega)).mono ?_
  rintro e w4 ⟨vHO, rfl, h, b⟩
  have HA := Lib.hid (HA.out.below b (Nat.le_refl _))
  have HB := Lib.hid (HB.out.below b (Nat.le_refl _))
  have HW := Lib.hid (below_then HW.out b)
  have HO := Lib.hid h
  clear h b
  go_wp2_with fail
  refine (cROf HA.out.1 (by omega)).mono ?_
  rintro e w5 ⟨vHQ, rfl, h, b⟩
  have HA := Lib.hid (HA.out.below b (Nat.le_refl _))
  have HB := Lib.hid (HB.out.below b (Nat.le_refl _))
  have HO := Lib.hid (HO.out.below b (Nat.le_refl _))
  have HW := Lib.hid (below_then HW.out b)
  have HQ := Lib.hid h
  clear h b
  go_wp2_with fail
  refine (cSame HO.out HQ.out HR.out.symm).mono ?_
  rintro e w6 ⟨rfl, b⟩
  have HA := Lib.hid (HA.out.below b (Nat.le_refl _))
  have HB := Lib.hid (HB.out.below b (Nat.le_refl _))
  have HO := Lib.hid (HO.out.below b (Nat.le_refl _))
  have HQ := Lib.hid (HQ.out.below b (Nat.le_refl _))
  have HW := Lib.hid (below_then HW.out b)
  clear b
  clear HO HQ
  go_wp2_with fail
  refine (cRFit HA.out.1 HF.out).mono ?_
  rintro e w7 ⟨rfl, b⟩
  have HA := Lib.hid (HA.out.below b (Nat.le_refl _))
  have HB := Lib.hid (HB.out.below b (Nat.le_refl _))
  have HW := Lib.hid (below_then HW.out b)
  clear b
  go_wp2_with fail
  refine (cRFit HB.out.1 HF2.out).mono ?_
  rintro e w8 ⟨rfl, b⟩
  have HA := Lib.hid (HA.out.below b (Nat.le_refl _))
  have HB := Lib.hid (HB.out.below b (Nat.le_refl _))
  have HW := Lib.hid (below_then HW.out b)
  clear b
  go_wp2_with fail
  refine (cHas HA.out.1 HRA.out (by omega) HD.out).mono ?_
  rintro e w9 ⟨rfl, b⟩
  have HA := Lib.hid (HA.out.below b (Nat.le_refl _))
  have HB := Lib.hid (HB.out.below b (Nat.le_refl _))
  have HW := Lib.hid (below_then HW.out b)
  clear b
  go_wp2_with fail
  refine (cRHas HA.out.1 HD.out).mono ?_
  rintro e w10 ⟨rfl, b⟩
  have HA := Lib.hid (HA.out.below b (Nat.le_refl _))
  have HB := Lib.hid (HB.out.below b (Nat.le_refl _))
  have HW := Lib.hid (below_then HW.out b)
  clear b
  have hdd : (d == d) = true := by cases d <;> rfl
  go_wp2_with fail
  refine (cJoin HA.out.1 HB.out.1 (by omega)).mono ?_
  rintro e w11 ⟨vHO, rfl, h, b⟩
  have HA := Lib.hid (HA.out.below b (Nat.le_refl _))
  have HB := Lib.hid (HB.out.below b (Nat.le_refl _))
  have HW := Lib.hid (below_then HW.out b)
  have HO := Lib.hid h
  clear h b
  go_wp2_with fail
  refine (cRJoin HA.out HB.out.1 (by omega)).mono ?_
  rintro e w12 ⟨vHQ, rfl, h, b⟩
  have HA := Lib.hid (HA.out.below b (Nat.le_refl _))
  have HB := Lib.hid (HB.out.below b (Nat.le_refl _))
  have HO := Lib.hid (HO.out.below b (Nat.le_refl _))
  have HW := Lib.hid (below_then HW.out b)
  have HQ := Lib.hid h
  clear h b
  go_wp2_with fail
  refine (cSame HO.out HQ.out (joinK HRA.out HRB.out)).mono ?_
  rintro e w13 ⟨rfl, b⟩
  have HA := Lib.hid (HA.out.below b (Nat.le_refl _))
  have HB := Lib.hid (HB.out.below b (Nat.le_refl _))
  have HO := Lib.hid (HO.out.below b (Nat.le_refl _))
  have HQ := Lib.hid (HQ.out.below b (Nat.le_refl _))
  have HW := Lib.hid (below_then HW.out b)
  clear b
  clear HO HQ
  go_wp2_with fail
  refine (cBoth HA.out.1 HB.out.1 (by omega)).mono ?_
  rintro e w14 ⟨vHO, rfl, h, b⟩
  have HA := Lib.hid (HA.out.below b (Nat.le_refl _))
  have HB := Lib.hid (HB.out.below b (Nat.le_refl _))
  have HW := Lib.hid (below_then HW.out b)
  have HO := Lib.hid h
  clear h b
  go_wp2_with fail
  refine (cRBoth HA.out.1 HB.out.1 (by omega)).mono ?_
  rintro e w15 ⟨vHQ, rfl, h, b⟩
  have HA := Lib.hid (HA.out.below b (Nat.le_refl _))
  have HB := Lib.hid (HB.out.below b (Nat.le_refl _))
  have HO := Lib.hid (HO.out.below b (Nat.le_refl _))
  have HW := Lib.hid (below_then HW.out b)
  have HQ := Lib.hid h
  clear h b
  go_wp2_with fail
  refine (cSame HO.out HQ.out (bothK HRA.out HRB.out)).mono ?_
  rintro e w16 ⟨rfl, b⟩
  have HA := Lib.hid (HA.out.below b (Nat.le_refl _))
  have HB := Lib.hid (HB.out.below b (Nat.le_refl _))
  have HO := Lib.hid (HO.out.below b (Nat.le_refl _))
  have HQ := Lib.hid (HQ.out.below b (Nat.le_refl _))
  have HW := Lib.hid (below_then HW.out b)
  clear b
  clear HO HQ
  go_wp2_with fail
  refine (cLess HA.out.1 HB.out.1 (by omega)).mono ?_
  rintro e w17 ⟨vHO, rfl, h, b⟩
  have HA := Lib.hid (HA.out.below b (Nat.le_refl _))
  have HB := Lib.hid (HB.out.below b (Nat.le_refl _))
  have HW := Lib.hid (below_then HW.out b)
  have HO := Lib.hid h
  clear h b
  go_wp2_with fail
  refine (cRLess HA.out.1 HB.out.1 (by omega)).mono ?_
  rintro e w18 ⟨vHQ, rfl, h, b⟩
  have HA := Lib.hid (HA.out.below b (Nat.le_refl _))
  have HB := Lib.hid (HB.out.below b (Nat.le_refl _))
  have HO := Lib.hid (HO.out.below b (Nat.le_refl _))
  have HW := Lib.hid (below_then HW.out b)
  have HQ := Lib.hid h
  clear h b
  go_wp2_with fail
  refine (cSame HO.out HQ.out (lessK HRA.out HRB.out)).mono ?_
  rintro e w19 ⟨rfl, b⟩
  have HA := Lib.hid (HA.out.below b (Nat.le_refl _))
  have HB := Lib.hid (HB.out.below b (Nat.le_refl _))
  have HO := Lib.hid (HO.out.below b (Nat.le_refl _))
  have HQ := Lib.hid (HQ.out.below b (Nat.le_refl _))
  have HW := Lib.hid (below_then HW.out b)
  clear b
  clear HO HQ
  go_wp2_with fail
  refine (cAwake _).mono ?_
  rintro e w20 ⟨rfl, b⟩
  have HA := Lib.hid (HA.out.below b (Nat.le_refl _))
  have HB := Lib.hid (HB.out.below b (Nat.le_refl _))
  have HW := Lib.hid (below_then HW.out b)
  clear b
  go_wp2
  go_ret
  exact ⟨rfl, HW.out⟩
theorem keysSets_ok (W : World) (A0 : Option Addr) (n0 c0 : Nat) (x0 : List ByteArray) (w0 : Sl W A0 n0 c0 1 (x0.flatMap EStr) ∧ x0.length = n0 ∧ (A0 = none → c0 = 0) ∧ ∀ y ∈ x0, y.size ≤ maxLen) (A1 : Option Addr) (n1 c1 : Nat) (x1 : List ByteArray) (w1 : Sl W A1 n1 c1 1 (x1.flatMap EStr) ∧ x1.length = n1 ∧ (A1 = none → c1 = 0) ∧ ∀ y ∈ x1, y.size ≤ maxLen) (x2 : ByteArray) (w2 : x2.size ≤ 140737488351232) :
    Calls Try.prog 7 #[.slice A0 n0 c0, .slice A1 n1 c1, .string x2] W fun e w' => e = .returned (.bool true) ∧ Below W.heap.size W w' := by
  obtain ⟨s0, h0, z0, _⟩ := w0
  have H0 := Lib.hid (StrsN.of_sl s0 h0 z0)
  obtain ⟨s1, h1, z1, _⟩ := w1
  have H1 := Lib.hid (StrsN.of_sl s1 h1 z1)
  cases hf : fewL [x0, x1]
  · exact sets_long W _ _ _ _ _ _ x0 x1 x2 H0 H1 hf
  cases ha : fitL x0
  · exact sets_unfit W _ _ _ _ _ _ x0 x1 x2 H0 H1 hf ha
  cases hb : fitL x1
  · exact sets_unfit2 W _ _ _ _ _ _ x0 x1 x2 H0 H1 hf ha hb
  · exact sets_fit W _ _ _ _ _ _ x0 x1 x2 H0 H1 hf ha hb
set_option maxRecDepth 20000 in
set_option maxHeartbeats 2000000 in
theorem swap_long (W : World) (A0 A1 A2 : Option Addr) (n0 c0 n1 c1 n2 c2 : Nat) (a b c : List ByteArray) (HA : Hid (StrsN W (.slice A0 n0 c0) a)) (HB : Hid (StrsN W (.slice A1 n1 c1) b)) (HC : Hid (StrsN W (.slice A2 n2 c2) c)) (hf : fewL [a, b] = false) :
    Calls Try.prog 5 #[.slice A0 n0 c0, .slice A1 n1 c1, .slice A2 n2 c2] W fun e w' => e = .returned (.bool true) ∧ Below W.heap.size W w' := by
  have HW := Lib.hid (Below.refl W.heap.size W)
  go_enter Try.func5, Try.ntmps5
  go_wp2_with fail
  refine (few2 HA.out.1 HB.out.1 hf).mono ?_
  rintro e w1 ⟨rfl, b⟩
  have HA := Lib.hid (HA.out.below b (Nat.le_refl _))
  have HB := Lib.hid (HB.out.below b (Nat.le_refl _))
  have HC := Lib.hid (HC.out.below b (Nat.le_refl _))
  have HW := Lib.hid (below_then HW.out b)
  clear b
  go_wp2_with fail
  refine (cAwake _).mono ?_
  rintro e w2 ⟨rfl, b⟩
  have HA := Lib.hid (HA.out.below b (Nat.le_refl _))
  have HB := Lib.hid (HB.out.below b (Nat.le_refl _))
  have HC := Lib.hid (HC.out.below b (Nat.le_refl _))
  have HW := Lib.hid (below_then HW.out b)
  clear b
  go_wp2
  go_ret
  exact ⟨rfl, HW.out⟩
set_option maxRecDepth 20000 in
set_option maxHeartbeats 2000000 in
theorem swap_long2 (W : World) (A0 A1 A2 : Option Addr) (n0 c0 n1 c1 n2 c2 : Nat) (a b c : List ByteArray) (HA : Hid (StrsN W (.slice A0 n0 c0) a)) (HB : Hid (StrsN W (.slice A1 n1 c1) b)) (HC : Hid (StrsN W (.slice A2 n2 c2) c)) (hf : fewL [a, b] = true) (hg : fewL [c] = false) :
    Calls Try.prog 5 #[.slice A0 n0 c0, .slice A1 n1 c1, .slice A2 n2 c2] W fun e w' => e = .returned (.bool true) ∧ Below W.heap.size W w' := by
  have HFW := Lib.hid hf; clear hf
  have HGW := Lib.hid hg; clear hg
  have HW := Lib.hid (Below.refl W.heap.size W)
  go_enter Try.func5, Try.ntmps5
  go_wp2_with fail
  refine (few2 HA.out.1 HB.out.1 HFW.out).mono ?_
  rintro e w1 ⟨rfl, b⟩
  have HA := Lib.hid (HA.out.below b (Nat.le_refl _))
  have HB := Lib.hid (HB.out.below b (Nat.le_refl _))
  have HC := Lib.hid (HC.out.below b (Nat.le_refl _))
  have HW := Lib.hid (below_then HW.out b)
  clear b
  go_wp2_with fail
  refine (few1 HC.out.1 HGW.out).mono ?_
  rintro e w2 ⟨rfl, b⟩
  have HA := Lib.hid (HA.out.below b (Nat.le_refl _))
  have HB := Lib.hid (HB.out.below b (Nat.le_refl _))
  have HC := Lib.hid (HC.out.below b (Nat.le_refl _))
  have HW := Lib.hid (below_then HW.out b)
  clear b
  go_wp2_with fail
  refine (cAwake _).mono ?_
  rintro e w3 ⟨rfl, b⟩
  have HA := Lib.hid (HA.out.below b (Nat.le_refl _))
  have HB := Lib.hid (HB.out.below b (Nat.le_refl _))
  have HC := Lib.hid (HC.out.below b (Nat.le_refl _))
  have HW := Lib.hid (below_then HW.out b)
  clear b
  go_wp2
  go_ret
  exact ⟨rfl, HW.out⟩
theorem swapJ {a b : List ByteArray} (ha : Ris a) (hb : Ris b) : kJoin a b = kJoin b a := ris_ext (risJ ha hb) (risJ hb ha) fun z => by rw [memJ ha hb, memJ hb ha, or_comm]
theorem swapB {a b : List ByteArray} (ha : Ris a) (hb : Ris b) : kBoth a b = kBoth b a := ris_ext (risB ha hb) (risB hb ha) fun z => by rw [memB ha hb, memB hb ha, and_comm]
theorem assocJ {a b c : List ByteArray} (ha : Ris a) (hb : Ris b) (hc : Ris c) : kJoin (kJoin a b) c = kJoin a (kJoin b c) := ris_ext (risJ (risJ ha hb) hc) (risJ ha (risJ hb hc)) fun z => by rw [memJ (risJ ha hb) hc, memJ ha hb, memJ ha (risJ hb hc), memJ hb hc, or_assoc]
theorem lessJ {a b c : List ByteArray} (ha : Ris a) (hb : Ris b) (hc : Ris c) : kLess a (kJoin b c) = kLess (kLess a b) c := ris_ext (risL ha (risJ hb hc)) (risL (risL ha hb) hc) fun z => by rw [memL ha (risJ hb hc), memJ hb hc, memL (risL ha hb) hc, memL ha hb, and_assoc, not_or]
theorem backJ {a b : List ByteArray} (ha : Ris a) (hb : Ris b) : kJoin (kLess a b) (kBoth a b) = a := ris_ext (risJ (risL ha hb) (risB ha hb)) ha fun z => by
  rw [memJ (risL ha hb) (risB ha hb), memL ha hb, memB ha hb]
  constructor
  · rintro (h | h)
    · exact h.1
    · exact h.1
  · intro h
    by_cases hz : z ∈ b
    · exact .inr ⟨h, hz⟩
    · exact .inl ⟨h, hz⟩
set_option maxRecDepth 20000 in
set_option maxHeartbeats 2000000 in
theorem swap_short (W : World) (A0 A1 A2 : Option Addr) (n0 c0 n1 c1 n2 c2 : Nat) (a b c : List ByteArray) (HA : Hid (StrsN W (.slice A0 n0 c0) a)) (HB : Hid (StrsN W (.slice A1 n1 c1) b)) (HC : Hid (StrsN W (.slice A2 n2 c2) c)) (hf : fewL [a, b] = true) (hg : fewL [c] = true) :
    Calls Try.prog 5 #[.slice A0 n0 c0, .slice A1 n1 c1, .slice A2 n2 c2] W fun e w' => e = .returned (.bool true) ∧ Below W.heap.size W w' := by
  obtain ⟨l1, l2⟩ := few2_len hf
  have l3 := few1_len hg
  have HFW := Lib.hid hf; clear hf
  have HGW := Lib.hid hg; clear hg
  have HP := Lib.hid (kOf_spec a).1
  have HQ := Lib.hid (kOf_spec b).1
  have HR := Lib.hid (kOf_spec c).1
  have k1 := kOf_len a
  have k2 := kOf_len b
  have k3 := kOf_len c
  have HW := Lib.hid (Below.refl W.heap.size W)
  go_enter Try.func5, Try.ntmps5
  go_wp2_with fail
  refine (few2 HA.out.1 HB.out.1 HFW.out).mono ?_
  rintro e w1 ⟨rfl, b⟩
  have HA := Lib.hid (HA.out.below b (Nat.le_refl _))
  have HB := Lib.hid (HB.out.below b (Nat.le_refl _))
  have HC := Lib.hid (HC.out.below b (Nat.le_refl _))
  have HW := Lib.hid (below_then HW.out b)
  clear b
  go_wp2_with fail
  refine (few1 HC.out.1 HGW.out).mono ?_
  rintro e w2 ⟨rfl, b⟩
  have HA := Lib.hid (HA.out.below b (Nat.le_refl _))
  have HB := Lib.hid (HB.out.below b (Nat.le_refl _))
  have HC := Lib.hid (HC.out.below b (Nat.le_refl _))
  have HW := Lib.hid (below_then HW.out b)
  clear b
  go_wp2_with fail
  refine (cOf HA.out.1 (by omega)).mono ?_
  rintro e w3 ⟨vHX, rfl, h, b⟩
  have HA := Lib.hid (HA.out.below b (Nat.le_refl _))
  have HB := Lib.hid (HB.out.below b (Nat.le_refl _))
  have HC := Lib.hid (HC.out.below b (Nat.le_refl _))
  have HW := Lib.hid (below_then HW.out b)
  have HX := Lib.hid h
  clear h b
  go_wp2_with fail
  refine (cOf HB.out.1 (by omega)).mono ?_
  rintro e w4 ⟨vHY, rfl, h, b⟩
  have HA := Lib.hid (HA.out.below b (Nat.le_refl _))
  have HB := Lib.hid (HB.out.below b (Nat.le_refl _))
  have HC := Lib.hid (HC.out.below b (Nat.le_refl _))
  have HX := Lib.hid (HX.out.below b (Nat.le_refl _))
  have HW := Lib.hid (below_then HW.out b)
  have HY := Lib.hid h
  clear h b
  go_wp2_with fail
  refine (cOf HC.out.1 (by omega)).mono ?_
  rintro e w5 ⟨vHZ, rfl, h, b⟩
  have HA := Lib.hid (HA.out.below b (Nat.le_refl _))
  have HB := Lib.hid (HB.out.below b (Nat.le_refl _))
  have HC := Lib.hid (HC.out.below b (Nat.le_refl _))
  have HX := Lib.hid (HX.out.below b (Nat.le_refl _))
  have HY := Lib.hid (HY.out.below b (Nat.le_refl _))
  have HW := Lib.hid (below_then HW.out b)
  have HZ := Lib.hid h
  clear h b
  clear HA HB HC
  generalize kOf a = A at *
  generalize kOf b = B at *
  generalize kOf c = C at *
  have j1 := lenJ A B
  have j2 := lenJ B C
  have j3 := lenL A B
  have j4 := lenB A B
  go_wp2_with fail
  refine (cJoin HX.out HY.out (by omega)).mono ?_
  rintro e w6 ⟨vHS, rfl, h, b⟩
  have HX := Lib.hid (HX.out.below b (Nat.le_refl _))
  have HY := Lib.hid (HY.out.below b (Nat.le_refl _))
  have HZ := Lib.hid (HZ.out.below b (Nat.le_refl _))
  have HW := Lib.hid (below_then HW.out b)
  have HS := Lib.hid h
  clear h b
  go_wp2_with fail
  refine (cJoin HY.out HX.out (by omega)).mono ?_
  rintro e w7 ⟨vHT, rfl, h, b⟩
  have HX := Lib.hid (HX.out.below b (Nat.le_refl _))
  have HY := Lib.hid (HY.out.below b (Nat.le_refl _))
  have HZ := Lib.hid (HZ.out.below b (Nat.le_refl _))
  have HS := Lib.hid (HS.out.below b (Nat.le_refl _))
  have HW := Lib.hid (below_then HW.out b)
  have HT := Lib.hid h
  clear h b
  go_wp2_with fail
  refine (cSame HS.out HT.out (swapJ HP.out HQ.out)).mono ?_
  rintro e w8 ⟨rfl, b⟩
  have HX := Lib.hid (HX.out.below b (Nat.le_refl _))
  have HY := Lib.hid (HY.out.below b (Nat.le_refl _))
  have HZ := Lib.hid (HZ.out.below b (Nat.le_refl _))
  have HS := Lib.hid (HS.out.below b (Nat.le_refl _))
  have HT := Lib.hid (HT.out.below b (Nat.le_refl _))
  have HW := Lib.hid (below_then HW.out b)
  clear b
  clear HS HT
  go_wp2_with fail
  refine (cBoth HX.out HY.out (by omega)).mono ?_
  rintro e w9 ⟨vHS, rfl, h, b⟩
  have HX := Lib.hid (HX.out.below b (Nat.le_refl _))
  have HY := Lib.hid (HY.out.below b (Nat.le_refl _))
  have HZ := Lib.hid (HZ.out.below b (Nat.le_refl _))
  have HW := Lib.hid (below_then HW.out b)
  have HS := Lib.hid h
  clear h b
  go_wp2_with fail
  refine (cBoth HY.out HX.out (by omega)).mono ?_
  rintro e w10 ⟨vHT, rfl, h, b⟩
  have HX := Lib.hid (HX.out.below b (Nat.le_refl _))
  have HY := Lib.hid (HY.out.below b (Nat.le_refl _))
  have HZ := Lib.hid (HZ.out.below b (Nat.le_refl _))
  have HS := Lib.hid (HS.out.below b (Nat.le_refl _))
  have HW := Lib.hid (below_then HW.out b)
  have HT := Lib.hid h
  clear h b
  go_wp2_with fail
  refine (cSame HS.out HT.out (swapB HP.out HQ.out)).mono ?_
  rintro e w11 ⟨rfl, b⟩
  have HX := Lib.hid (HX.out.below b (Nat.le_refl _))
  have HY := Lib.hid (HY.out.below b (Nat.le_refl _))
  have HZ := Lib.hid (HZ.out.below b (Nat.le_refl _))
  have HS := Lib.hid (HS.out.below b (Nat.le_refl _))
  have HT := Lib.hid (HT.out.below b (Nat.le_refl _))
  have HW := Lib.hid (below_then HW.out b)
  clear b
  clear HS HT
  go_wp2_with fail
  refine (cJoin HX.out HY.out (by omega)).mono ?_
  rintro e w12 ⟨vHS, rfl, h, b⟩
  have HX := Lib.hid (HX.out.below b (Nat.le_refl _))
  have HY := Lib.hid (HY.out.below b (Nat.le_refl _))
  have HZ := Lib.hid (HZ.out.below b (Nat.le_refl _))
  have HW := Lib.hid (below_then HW.out b)
  have HS := Lib.hid h
  clear h b
  go_wp2_with fail
  refine (cJoin HS.out HZ.out (by omega)).mono ?_
  rintro e w13 ⟨vHT, rfl, h, b⟩
  have HX := Lib.hid (HX.out.below b (Nat.le_refl _))
  have HY := Lib.hid (HY.out.below b (Nat.le_refl _))
  have HZ := Lib.hid (HZ.out.below b (Nat.le_refl _))
  have HS := Lib.hid (HS.out.below b (Nat.le_refl _))
  have HW := Lib.hid (below_then HW.out b)
  have HT := Lib.hid h
  clear h b
  go_wp2_with fail
  refine (cJoin HY.out HZ.out (by omega)).mono ?_
  rintro e w14 ⟨vHU, rfl, h, b⟩
  have HX := Lib.hid (HX.out.below b (Nat.le_refl _))
  have HY := Lib.hid (HY.out.below b (Nat.le_refl _))
  have HZ := Lib.hid (HZ.out.below b (Nat.le_refl _))
  have HS := Lib.hid (HS.out.below b (Nat.le_refl _))
  have HT := Lib.hid (HT.out.below b (Nat.le_refl _))
  have HW := Lib.hid (below_then HW.out b)
  have HU := Lib.hid h
  clear h b
  go_wp2_with fail
  refine (cJoin HX.out HU.out (by omega)).mono ?_
  rintro e w15 ⟨vHV, rfl, h, b⟩
  have HX := Lib.hid (HX.out.below b (Nat.le_refl _))
  have HY := Lib.hid (HY.out.below b (Nat.le_refl _))
  have HZ := Lib.hid (HZ.out.below b (Nat.le_refl _))
  have HS := Lib.hid (HS.out.below b (Nat.le_refl _))
  have HT := Lib.hid (HT.out.below b (Nat.le_refl _))
  have HU := Lib.hid (HU.out.below b (Nat.le_refl _))
  have HW := Lib.hid (below_then HW.out b)
  have HV := Lib.hid h
  clear h b
  go_wp2_with fail
  refine (cSame HT.out HV.out (assocJ HP.out HQ.out HR.out)).mono ?_
  rintro e w16 ⟨rfl, b⟩
  have HX := Lib.hid (HX.out.below b (Nat.le_refl _))
  have HY := Lib.hid (HY.out.below b (Nat.le_refl _))
  have HZ := Lib.hid (HZ.out.below b (Nat.le_refl _))
  have HS := Lib.hid (HS.out.below b (Nat.le_refl _))
  have HT := Lib.hid (HT.out.below b (Nat.le_refl _))
  have HU := Lib.hid (HU.out.below b (Nat.le_refl _))
  have HV := Lib.hid (HV.out.below b (Nat.le_refl _))
  have HW := Lib.hid (below_then HW.out b)
  clear b
  clear HS HT HU HV
  go_wp2_with fail
  refine (cJoin HY.out HZ.out (by omega)).mono ?_
  rintro e w17 ⟨vHS, rfl, h, b⟩
  have HX := Lib.hid (HX.out.below b (Nat.le_refl _))
  have HY := Lib.hid (HY.out.below b (Nat.le_refl _))
  have HZ := Lib.hid (HZ.out.below b (Nat.le_refl _))
  have HW := Lib.hid (below_then HW.out b)
  have HS := Lib.hid h
  clear h b
  go_wp2_with fail
  refine (cLess HX.out HS.out (by omega)).mono ?_
  rintro e w18 ⟨vHT, rfl, h, b⟩
  have HX := Lib.hid (HX.out.below b (Nat.le_refl _))
  have HY := Lib.hid (HY.out.below b (Nat.le_refl _))
  have HZ := Lib.hid (HZ.out.below b (Nat.le_refl _))
  have HS := Lib.hid (HS.out.below b (Nat.le_refl _))
  have HW := Lib.hid (below_then HW.out b)
  have HT := Lib.hid h
  clear h b
  go_wp2_with fail
  refine (cLess HX.out HY.out (by omega)).mono ?_
  rintro e w19 ⟨vHU, rfl, h, b⟩
  have HX := Lib.hid (HX.out.below b (Nat.le_refl _))
  have HY := Lib.hid (HY.out.below b (Nat.le_refl _))
  have HZ := Lib.hid (HZ.out.below b (Nat.le_refl _))
  have HS := Lib.hid (HS.out.below b (Nat.le_refl _))
  have HT := Lib.hid (HT.out.below b (Nat.le_refl _))
  have HW := Lib.hid (below_then HW.out b)
  have HU := Lib.hid h
  clear h b
  go_wp2_with fail
  refine (cLess HU.out HZ.out (by omega)).mono ?_
  rintro e w20 ⟨vHV, rfl, h, b⟩
  have HX := Lib.hid (HX.out.below b (Nat.le_refl _))
  have HY := Lib.hid (HY.out.below b (Nat.le_refl _))
  have HZ := Lib.hid (HZ.out.below b (Nat.le_refl _))
  have HS := Lib.hid (HS.out.below b (Nat.le_refl _))
  have HT := Lib.hid (HT.out.below b (Nat.le_refl _))
  have HU := Lib.hid (HU.out.below b (Nat.le_refl _))
  have HW := Lib.hid (below_then HW.out b)
  have HV := Lib.hid h
  clear h b
  go_wp2_with fail
  refine (cSame HT.out HV.out (lessJ HP.out HQ.out HR.out)).mono ?_
  rintro e w21 ⟨rfl, b⟩
  have HX := Lib.hid (HX.out.below b (Nat.le_refl _))
  have HY := Lib.hid (HY.out.below b (Nat.le_refl _))
  have HZ := Lib.hid (HZ.out.below b (Nat.le_refl _))
  have HS := Lib.hid (HS.out.below b (Nat.le_refl _))
  have HT := Lib.hid (HT.out.below b (Nat.le_refl _))
  have HU := Lib.hid (HU.out.below b (Nat.le_refl _))
  have HV := Lib.hid (HV.out.below b (Nat.le_refl _))
  have HW := Lib.hid (below_then HW.out b)
  clear b
  clear HS HT HU HV
  go_wp2_with fail
  refine (cLess HX.out HY.out (by omega)).mono ?_
  rintro e w22 ⟨vHS, rfl, h, b⟩
  have HX := Lib.hid (HX.out.below b (Nat.le_refl _))
  have HY := Lib.hid (HY.out.below b (Nat.le_refl _))
  have HZ := Lib.hid (HZ.out.below b (Nat.le_refl _))
  have HW := Lib.hid (below_then HW.out b)
  have HS := Lib.hid h
  clear h b
  go_wp2_with fail
  refine (cBoth HX.out HY.out (by omega)).mono ?_
  rintro e w23 ⟨vHT, rfl, h, b⟩
  have HX := Lib.hid (HX.out.below b (Nat.le_refl _))
  have HY := Lib.hid (HY.out.below b (Nat.le_refl _))
  have HZ := Lib.hid (HZ.out.below b (Nat.le_refl _))
  have HS := Lib.hid (HS.out.below b (Nat.le_refl _))
  have HW := Lib.hid (below_then HW.out b)
  have HT := Lib.hid h
  clear h b
  go_wp2_with fail
  refine (cJoin HS.out HT.out (by omega)).mono ?_
  rintro e w24 ⟨vHU, rfl, h, b⟩
  have HX := Lib.hid (HX.out.below b (Nat.le_refl _))
  have HY := Lib.hid (HY.out.below b (Nat.le_refl _))
  have HZ := Lib.hid (HZ.out.below b (Nat.le_refl _))
  have HS := Lib.hid (HS.out.below b (Nat.le_refl _))
  have HT := Lib.hid (HT.out.below b (Nat.le_refl _))
  have HW := Lib.hid (below_then HW.out b)
  have HU := Lib.hid h
  clear h b
  go_wp2_with fail
  refine (cSame HU.out HX.out (backJ HP.out HQ.out)).mono ?_
  rintro e w25 ⟨rfl, b⟩
  have HX := Lib.hid (HX.out.below b (Nat.le_refl _))
  have HY := Lib.hid (HY.out.below b (Nat.le_refl _))
  have HZ := Lib.hid (HZ.out.below b (Nat.le_refl _))
  have HS := Lib.hid (HS.out.below b (Nat.le_refl _))
  have HT := Lib.hid (HT.out.below b (Nat.le_refl _))
  have HU := Lib.hid (HU.out.below b (Nat.le_refl _))
  have HW := Lib.hid (below_then HW.out b)
  clear b
  go_wp2_with fail
  refine (cAwake _).mono ?_
  rintro e w26 ⟨rfl, b⟩
  have HX := Lib.hid (HX.out.below b (Nat.le_refl _))
  have HY := Lib.hid (HY.out.below b (Nat.le_refl _))
  have HZ := Lib.hid (HZ.out.below b (Nat.le_refl _))
  have HS := Lib.hid (HS.out.below b (Nat.le_refl _))
  have HT := Lib.hid (HT.out.below b (Nat.le_refl _))
  have HU := Lib.hid (HU.out.below b (Nat.le_refl _))
  have HW := Lib.hid (below_then HW.out b)
  clear b
  go_wp2
  go_ret
  exact ⟨rfl, HW.out⟩
theorem keysSwap_ok (W : World) (A0 : Option Addr) (n0 c0 : Nat) (x0 : List ByteArray) (w0 : Sl W A0 n0 c0 1 (x0.flatMap EStr) ∧ x0.length = n0 ∧ (A0 = none → c0 = 0) ∧ ∀ y ∈ x0, y.size ≤ maxLen) (A1 : Option Addr) (n1 c1 : Nat) (x1 : List ByteArray) (w1 : Sl W A1 n1 c1 1 (x1.flatMap EStr) ∧ x1.length = n1 ∧ (A1 = none → c1 = 0) ∧ ∀ y ∈ x1, y.size ≤ maxLen) (A2 : Option Addr) (n2 c2 : Nat) (x2 : List ByteArray) (w2 : Sl W A2 n2 c2 1 (x2.flatMap EStr) ∧ x2.length = n2 ∧ (A2 = none → c2 = 0) ∧ ∀ y ∈ x2, y.size ≤ maxLen) :
    Calls Try.prog 5 #[.slice A0 n0 c0, .slice A1 n1 c1, .slice A2 n2 c2] W fun e w' => e = .returned (.bool true) ∧ Below W.heap.size W w' := by
  obtain ⟨s0, h0, z0, _⟩ := w0
  have H0 := Lib.hid (StrsN.of_sl s0 h0 z0)
  obtain ⟨s1, h1, z1, _⟩ := w1
  have H1 := Lib.hid (StrsN.of_sl s1 h1 z1)
  obtain ⟨s2, h2, z2, _⟩ := w2
  have H2 := Lib.hid (StrsN.of_sl s2 h2 z2)
  cases hf : fewL [x0, x1]
  · exact swap_long W _ _ _ _ _ _ _ _ _ x0 x1 x2 H0 H1 H2 hf
  cases hg : fewL [x2]
  · exact swap_long2 W _ _ _ _ _ _ _ _ _ x0 x1 x2 H0 H1 H2 hf hg
  · exact swap_short W _ _ _ _ _ _ _ _ _ x0 x1 x2 H0 H1 H2 hf hg
set_option maxRecDepth 20000 in
set_option maxHeartbeats 2000000 in
theorem asks_long (W : World) (A0 A1 : Option Addr) (n0 c0 n1 c1 : Nat) (a b : List ByteArray) (k : ByteArray) (HA : Hid (StrsN W (.slice A0 n0 c0) a)) (HB : Hid (StrsN W (.slice A1 n1 c1) b)) (hf : fewL [a, b] = false) :
    Calls Try.prog 6 #[.slice A0 n0 c0, .slice A1 n1 c1, .string k] W fun e w' => e = .returned (.bool true) ∧ Below W.heap.size W w' := by
  have HW := Lib.hid (Below.refl W.heap.size W)
  go_enter Try.func6, Try.ntmps6
  go_wp2_with fail
  refine (few2 HA.out.1 HB.out.1 hf).mono ?_
  rintro e w1 ⟨rfl, b⟩
  have HA := Lib.hid (HA.out.below b (Nat.le_refl _))
  have HB := Lib.hid (HB.out.below b (Nat.le_refl _))
  have HW := Lib.hid (below_then HW.out b)
  clear b
  go_wp2_with fail
  refine (cAwake _).mono ?_
  rintro e w2 ⟨rfl, b⟩
  have HA := Lib.hid (HA.out.below b (Nat.le_refl _))
  have HB := Lib.hid (HB.out.below b (Nat.le_refl _))
  have HW := Lib.hid (below_then HW.out b)
  clear b
  go_wp2
  go_ret
  exact ⟨rfl, HW.out⟩
set_option maxRecDepth 20000 in
set_option maxHeartbeats 2000000 in
theorem asks_short (W : World) (A0 A1 : Option Addr) (n0 c0 n1 c1 : Nat) (a b : List ByteArray) (k : ByteArray) (HA : Hid (StrsN W (.slice A0 n0 c0) a)) (HB : Hid (StrsN W (.slice A1 n1 c1) b)) (hf : fewL [a, b] = true) :
    Calls Try.prog 6 #[.slice A0 n0 c0, .slice A1 n1 c1, .string k] W fun e w' => e = .returned (.bool true) ∧ Below W.heap.size W w' := by
  obtain ⟨l1, l2⟩ := few2_len hf
  have HFW := Lib.hid hf; clear hf
  have sa := kOf_spec a
  have sb := kOf_spec b
  have HP := Lib.hid sa.1
  have HQ := Lib.hid sb.1
  have k1 := kOf_len a
  have k2 := kOf_len b
  have fa : fitL (kOf a) = true := fit_of (fun x hx => ((sa.2 x).1 hx).2) sa.1
  have fj : fitL (kJoin (kOf a) (kOf b)) = true := fit_of (fun x hx => by
    rcases (memJ sa.1 sb.1 x).1 hx with h | h
    · exact ((sa.2 x).1 h).2
    · exact ((sb.2 x).1 h).2) (risJ sa.1 sb.1)
  have fo : fitL (kBoth (kOf a) (kOf b)) = true := fit_of (fun x hx => ((sa.2 x).1 ((memB sa.1 sb.1 x).1 hx).1).2) (risB sa.1 sb.1)
  have fs : fitL (kLess (kOf a) (kOf b)) = true := fit_of (fun x hx => ((sa.2 x).1 ((memL sa.1 sb.1 x).1 hx).1).2) (risL sa.1 sb.1)
  have hap : kOf (b ++ a) = kJoin (kOf a) (kOf b) := ris_ext (kOf_spec _).1 (risJ sa.1 sb.1) fun z => by
    rw [(kOf_spec (b ++ a)).2 z, memJ sa.1 sb.1, sa.2 z, sb.2 z, List.mem_append]
    constructor
    · rintro ⟨h | h, h'⟩
      · exact .inr ⟨h, h'⟩
      · exact .inl ⟨h, h'⟩
    · rintro (h | h)
      · exact ⟨.inr h.1, h.2⟩
      · exact ⟨.inl h.1, h.2⟩
  have hmj : ∀ z, decide (z ∈ kJoin (kOf a) (kOf b)) = (decide (z ∈ kOf a) || decide (z ∈ kOf b)) := fun z => by rw [Bool.eq_iff_iff]; simp [memJ sa.1 sb.1]
  have hmo : ∀ z, decide (z ∈ kBoth (kOf a) (kOf b)) = (decide (z ∈ kOf a) && decide (z ∈ kOf b)) := fun z => by rw [Bool.eq_iff_iff]; simp [memB sa.1 sb.1]
  have hms : ∀ z, decide (z ∈ kLess (kOf a) (kOf b)) = (decide (z ∈ kOf a) && !decide (z ∈ kOf b)) := fun z => by rw [Bool.eq_iff_iff]; simp [memL sa.1 sb.1]
  have hmj := hmj k
  have hmo := hmo k
  have hms := hms k
  have hln := mMerge_lens (kOf a) (kOf b)
  obtain ⟨x, hx⟩ : ∃ x, decide (k ∈ kOf a) = x := ⟨_, rfl⟩
  obtain ⟨y, hy⟩ : ∃ y, decide (k ∈ kOf b) = y := ⟨_, rfl⟩
  rw [hx, hy] at hmj hmo hms
  have HFA := Lib.hid fa; clear fa
  have HFJ := Lib.hid fj; clear fj
  have HFO := Lib.hid fo; clear fo
  have HFS := Lib.hid fs; clear fs
  have HAP := Lib.hid hap; clear hap
  have HMJ := Lib.hid hmj; clear hmj
  have HMO := Lib.hid hmo; clear hmo
  have HMS := Lib.hid hms; clear hms
  have HLN := Lib.hid hln; clear hln
  have HX := Lib.hid hx; clear hx
  have HY := Lib.hid hy; clear hy
  clear sa sb
  have HW := Lib.hid (Below.refl W.heap.size W)
  go_enter Try.func6, Try.ntmps6
  go_wp2_with fail
  refine (few2 HA.out.1 HB.out.1 HFW.out).mono ?_
  rintro e w1 ⟨rfl, b⟩
  have HA := Lib.hid (HA.out.below b (Nat.le_refl _))
  have HB := Lib.hid (HB.out.below b (Nat.le_refl _))
  have HW := Lib.hid (below_then HW.out b)
  clear b
  go_wp2_with fail
  refine (cOf HA.out.1 (by omega)).mono ?_
  rintro e w2 ⟨vHU, rfl, h, b⟩
  have HA := Lib.hid (HA.out.below b (Nat.le_refl _))
  have HB := Lib.hid (HB.out.below b (Nat.le_refl _))
  have HW := Lib.hid (below_then HW.out b)
  have HU := Lib.hid h
  clear h b
  go_wp2_with fail
  refine (cOf HB.out.1 (by omega)).mono ?_
  rintro e w3 ⟨vHV, rfl, h, b⟩
  have HA := Lib.hid (HA.out.below b (Nat.le_refl _))
  have HB := Lib.hid (HB.out.below b (Nat.le_refl _))
  have HU := Lib.hid (HU.out.below b (Nat.le_refl _))
  have HW := Lib.hid (below_then HW.out b)
  have HV := Lib.hid h
  clear h b
  generalize kOf a = A at *
  generalize kOf b = B at *
  have j1 := lenJ A B
  have j3 := lenL A B
  have j4 := lenB A B
  go_wp2_with fail
  refine (cHas HU.out HP.out (by omega) HX.out).mono ?_
  rintro e w4 ⟨rfl, b⟩
  have HA := Lib.hid (HA.out.below b (Nat.le_refl _))
  have HB := Lib.hid (HB.out.below b (Nat.le_refl _))
  have HU := Lib.hid (HU.out.below b (Nat.le_refl _))
  have HV := Lib.hid (HV.out.below b (Nat.le_refl _))
  have HW := Lib.hid (below_then HW.out b)
  clear b
  go_wp2_with fail
  refine (cHas HV.out HQ.out (by omega) HY.out).mono ?_
  rintro e w5 ⟨rfl, b⟩
  have HA := Lib.hid (HA.out.below b (Nat.le_refl _))
  have HB := Lib.hid (HB.out.below b (Nat.le_refl _))
  have HU := Lib.hid (HU.out.below b (Nat.le_refl _))
  have HV := Lib.hid (HV.out.below b (Nat.le_refl _))
  have HW := Lib.hid (below_then HW.out b)
  clear b
  go_wp2_with fail
  refine (cJoin HU.out HV.out (by omega)).mono ?_
  rintro e w6 ⟨vHJ, rfl, h, b⟩
  have HA := Lib.hid (HA.out.below b (Nat.le_refl _))
  have HB := Lib.hid (HB.out.below b (Nat.le_refl _))
  have HU := Lib.hid (HU.out.below b (Nat.le_refl _))
  have HV := Lib.hid (HV.out.below b (Nat.le_refl _))
  have HW := Lib.hid (below_then HW.out b)
  have HJ := Lib.hid h
  clear h b
  go_wp2_with fail
  refine (cBoth HU.out HV.out (by omega)).mono ?_
  rintro e w7 ⟨vHO, rfl, h, b⟩
  have HA := Lib.hid (HA.out.below b (Nat.le_refl _))
  have HB := Lib.hid (HB.out.below b (Nat.le_refl _))
  have HU := Lib.hid (HU.out.below b (Nat.le_refl _))
  have HV := Lib.hid (HV.out.below b (Nat.le_refl _))
  have HJ := Lib.hid (HJ.out.below b (Nat.le_refl _))
  have HW := Lib.hid (below_then HW.out b)
  have HO := Lib.hid h
  clear h b
  go_wp2_with fail
  refine (cLess HU.out HV.out (by omega)).mono ?_
  rintro e w8 ⟨vHS, rfl, h, b⟩
  have HA := Lib.hid (HA.out.below b (Nat.le_refl _))
  have HB := Lib.hid (HB.out.below b (Nat.le_refl _))
  have HU := Lib.hid (HU.out.below b (Nat.le_refl _))
  have HV := Lib.hid (HV.out.below b (Nat.le_refl _))
  have HJ := Lib.hid (HJ.out.below b (Nat.le_refl _))
  have HO := Lib.hid (HO.out.below b (Nat.le_refl _))
  have HW := Lib.hid (below_then HW.out b)
  have HS := Lib.hid h
  clear h b
  have HRJ := Lib.hid (risJ HP.out HQ.out)
  have HRO := Lib.hid (risB HP.out HQ.out)
  have HRS := Lib.hid (risL HP.out HQ.out)
  have HLN : Hid ((kJoin A B).length = (kLess A B).length + B.length ∧ A.length = (kLess A B).length + (kBoth A B).length) := HLN.out
  generalize kJoin A B = J at *
  generalize kBoth A B = O at *
  generalize kLess A B = S at *
  obtain ⟨pA, qA, rfl, _, _⟩ := HU.out.len
  obtain ⟨pB, qB, rfl, _, _⟩ := HV.out.len
  obtain ⟨pJ, qJ, rfl, _, _⟩ := HJ.out.len
  obtain ⟨pO, qO, rfl, _, _⟩ := HO.out.len
  obtain ⟨pS, qS, rfl, _, _⟩ := HS.out.len
  have z1 : ((J.length : Int) != (S.length : Int) + (B.length : Int)) = false := by rw [bne_eq_false_iff_eq]; have := HLN.out.1; omega
  have z2 : ((A.length : Int) != (S.length : Int) + (O.length : Int)) = false := by rw [bne_eq_false_iff_eq]; have := HLN.out.2; omega
  go_wp2_with fail
  refine (cRFit HU.out HFA.out).mono ?_
  rintro e w9 ⟨rfl, b⟩
  have HA := Lib.hid (HA.out.below b (Nat.le_refl _))
  have HB := Lib.hid (HB.out.below b (Nat.le_refl _))
  have HU := Lib.hid (HU.out.below b (Nat.le_refl _))
  have HV := Lib.hid (HV.out.below b (Nat.le_refl _))
  have HJ := Lib.hid (HJ.out.below b (Nat.le_refl _))
  have HO := Lib.hid (HO.out.below b (Nat.le_refl _))
  have HS := Lib.hid (HS.out.below b (Nat.le_refl _))
  have HW := Lib.hid (below_then HW.out b)
  clear b
  go_wp2_with fail
  refine (cRFit HJ.out HFJ.out).mono ?_
  rintro e w10 ⟨rfl, b⟩
  have HA := Lib.hid (HA.out.below b (Nat.le_refl _))
  have HB := Lib.hid (HB.out.below b (Nat.le_refl _))
  have HU := Lib.hid (HU.out.below b (Nat.le_refl _))
  have HV := Lib.hid (HV.out.below b (Nat.le_refl _))
  have HJ := Lib.hid (HJ.out.below b (Nat.le_refl _))
  have HO := Lib.hid (HO.out.below b (Nat.le_refl _))
  have HS := Lib.hid (HS.out.below b (Nat.le_refl _))
  have HW := Lib.hid (below_then HW.out b)
  clear b
  go_wp2_with fail
  refine (cRFit HO.out HFO.out).mono ?_
  rintro e w11 ⟨rfl, b⟩
  have HA := Lib.hid (HA.out.below b (Nat.le_refl _))
  have HB := Lib.hid (HB.out.below b (Nat.le_refl _))
  have HU := Lib.hid (HU.out.below b (Nat.le_refl _))
  have HV := Lib.hid (HV.out.below b (Nat.le_refl _))
  have HJ := Lib.hid (HJ.out.below b (Nat.le_refl _))
  have HO := Lib.hid (HO.out.below b (Nat.le_refl _))
  have HS := Lib.hid (HS.out.below b (Nat.le_refl _))
  have HW := Lib.hid (below_then HW.out b)
  clear b
  go_wp2_with fail
  refine (cRFit HS.out HFS.out).mono ?_
  rintro e w12 ⟨rfl, b⟩
  have HA := Lib.hid (HA.out.below b (Nat.le_refl _))
  have HB := Lib.hid (HB.out.below b (Nat.le_refl _))
  have HU := Lib.hid (HU.out.below b (Nat.le_refl _))
  have HV := Lib.hid (HV.out.below b (Nat.le_refl _))
  have HJ := Lib.hid (HJ.out.below b (Nat.le_refl _))
  have HO := Lib.hid (HO.out.below b (Nat.le_refl _))
  have HS := Lib.hid (HS.out.below b (Nat.le_refl _))
  have HW := Lib.hid (below_then HW.out b)
  clear b
  go_wp2_with fail
  refine (cHas HJ.out HRJ.out (by omega) HMJ.out).mono ?_
  rintro e w13 ⟨rfl, b⟩
  have HA := Lib.hid (HA.out.below b (Nat.le_refl _))
  have HB := Lib.hid (HB.out.below b (Nat.le_refl _))
  have HU := Lib.hid (HU.out.below b (Nat.le_refl _))
  have HV := Lib.hid (HV.out.below b (Nat.le_refl _))
  have HJ := Lib.hid (HJ.out.below b (Nat.le_refl _))
  have HO := Lib.hid (HO.out.below b (Nat.le_refl _))
  have HS := Lib.hid (HS.out.below b (Nat.le_refl _))
  have HW := Lib.hid (below_then HW.out b)
  clear b
  cases x <;> cases y
  all_goals
    go_wp2_with fail
    refine (cHas HO.out HRO.out (by omega) HMO.out).mono ?_
    rintro e w14 ⟨rfl, b⟩
    have HA := Lib.hid (HA.out.below b (Nat.le_refl _))
    have HB := Lib.hid (HB.out.below b (Nat.le_refl _))
    have HU := Lib.hid (HU.out.below b (Nat.le_refl _))
    have HV := Lib.hid (HV.out.below b (Nat.le_refl _))
    have HJ := Lib.hid (HJ.out.below b (Nat.le_refl _))
    have HO := Lib.hid (HO.out.below b (Nat.le_refl _))
    have HS := Lib.hid (HS.out.below b (Nat.le_refl _))
    have HW := Lib.hid (below_then HW.out b)
    clear b
    go_wp2_with fail
    refine (cHas HS.out HRS.out (by omega) HMS.out).mono ?_
    rintro e w15 ⟨rfl, b⟩
    have HA := Lib.hid (HA.out.below b (Nat.le_refl _))
    have HB := Lib.hid (HB.out.below b (Nat.le_refl _))
    have HU := Lib.hid (HU.out.below b (Nat.le_refl _))
    have HV := Lib.hid (HV.out.below b (Nat.le_refl _))
    have HJ := Lib.hid (HJ.out.below b (Nat.le_refl _))
    have HO := Lib.hid (HO.out.below b (Nat.le_refl _))
    have HS := Lib.hid (HS.out.below b (Nat.le_refl _))
    have HW := Lib.hid (below_then HW.out b)
    clear b
    have ho := owns_empty (w := w15) (Nat.le_refl _)
    have hz := Lib.hid (HB.out.below ((Below.refl w15.heap.size w15).alloc (Nat.le_refl _) (.cells #[] 9)) (Nat.le_refl _))
    have HO0 := Lib.hid ho; clear ho
    go_wp2_with (at_builtin; refine wpList_append_strs_g (by rfl) _ _ 33 rfl Try.underlying33 w15.heap.size _ [] rfl HO0.out _ b rfl hz.out (by simp; omega) (by simp) ?_)
    intro v1 u1 hown1 hg1
    have hb1 : Below w15.heap.size w15 u1 := own_grow (w0 := w15) ((Below.refl _ _).alloc (Nat.le_refl _) _) HO0.out hg1
    have HO1 : Hid (u1.ownsRow w15.heap.size 9 1 v1 b.length (b.map .string)) := by unfold Hid; simpa using hown1
    have hz := Lib.hid (HA.out.below hb1 (Nat.le_refl _))
    have hbs : w15.heap.size ≤ u1.heap.size := hb1.size
    have HB1 := Lib.hid hb1
    clear hown1 hg1 hb1 HO0
    go_wp2_with (at_builtin; refine wpList_append_strs_g (by rfl) _ _ 33 rfl Try.underlying33 w15.heap.size _ b rfl HO1.out _ a rfl hz.out (by omega) (by omega) ?_)
    intro v2 u2 hown2 hg2
    have b' : Below w15.heap.size w15 u2 := own_grow (w0 := w15) HB1.out HO1.out hg2
    have HAB : Hid (StrsB u2 v2 (b ++ a)) := StrsB.of_owns (by simpa using hown2)
    clear hown2 hg2 HO1 HB1 hbs hz
    have HJ := Lib.hid (HJ.out.below b' (Nat.le_refl _))
    have HW := Lib.hid (below_then HW.out b')
    clear b' HA HB HU HV HO HS
    go_wp2_with fail
    refine (cOf HAB.out (by simp; omega)).mono ?_
    rintro e w16 ⟨vHT, rfl, h, b⟩
    have HJ := Lib.hid (HJ.out.below b (Nat.le_refl _))
    have HW := Lib.hid (below_then HW.out b)
    have HT := Lib.hid h
    clear h b
    go_wp2_with fail
    refine (cSame HT.out HJ.out HAP.out).mono ?_
    rintro e w17 ⟨rfl, b⟩
    have HJ := Lib.hid (HJ.out.below b (Nat.le_refl _))
    have HT := Lib.hid (HT.out.below b (Nat.le_refl _))
    have HW := Lib.hid (below_then HW.out b)
    clear b
    go_wp2_with fail
    refine (cAwake _).mono ?_
    rintro e w18 ⟨rfl, b⟩
    have HJ := Lib.hid (HJ.out.below b (Nat.le_refl _))
    have HT := Lib.hid (HT.out.below b (Nat.le_refl _))
    have HW := Lib.hid (below_then HW.out b)
    clear b
    go_wp2
    go_ret
    exact ⟨rfl, HW.out⟩
theorem keysAsks_ok (W : World) (A0 : Option Addr) (n0 c0 : Nat) (x0 : List ByteArray) (w0 : Sl W A0 n0 c0 1 (x0.flatMap EStr) ∧ x0.length = n0 ∧ (A0 = none → c0 = 0) ∧ ∀ y ∈ x0, y.size ≤ maxLen) (A1 : Option Addr) (n1 c1 : Nat) (x1 : List ByteArray) (w1 : Sl W A1 n1 c1 1 (x1.flatMap EStr) ∧ x1.length = n1 ∧ (A1 = none → c1 = 0) ∧ ∀ y ∈ x1, y.size ≤ maxLen) (x2 : ByteArray) (w2 : x2.size ≤ 140737488351232) :
    Calls Try.prog 6 #[.slice A0 n0 c0, .slice A1 n1 c1, .string x2] W fun e w' => e = .returned (.bool true) ∧ Below W.heap.size W w' := by
  obtain ⟨s0, h0, z0, _⟩ := w0
  have H0 := Lib.hid (StrsN.of_sl s0 h0 z0)
  obtain ⟨s1, h1, z1, _⟩ := w1
  have H1 := Lib.hid (StrsN.of_sl s1 h1 z1)
  cases hf : fewL [x0, x1]
  · exact asks_long W _ _ _ _ _ _ x0 x1 x2 H0 H1 hf
  · exact asks_short W _ _ _ _ _ _ x0 x1 x2 H0 H1 hf
end Go.Proofs.Ytjbnkheghafgoaa
