/- Mend of both packages, whatever it is given: the errors, and all cases together. -/
import Derived.Test.YtdgnhnhmcobfkaaParRMend
namespace Go.Proofs.Ytdgnhnhmcobfkaa
open Go.RowKit
set_option linter.unusedVariables false
set_option linter.unusedSimpArgs false
set_option maxRecDepth 20000 in
set_option maxHeartbeats 2000000 in
theorem mend_four1 (w : World) (va vh : Value) (l : List ByteArray) (h : List Bool) (k : Int) (ha : StrsB w va l) (hb : BoolB w vh h) (hk : fewN k = false) :
    Calls Try.prog 27 #[va, vh, .int .i64 k] w fun e w' => e = .returned (.tuple #[.slice none 0 0, .int .i64 4]) ∧ Below w.heap.size w w' := by
  have HK : Hid (∀ w, Calls Try.prog 49 #[.int .i64 k] w fun e w' => e = .returned (.bool false) ∧ w = w') := fun w => by
    have h := pfew_any k w; rwa [hk] at h
  obtain ⟨A, c, rfl, h1, h2⟩ := ha.len
  obtain ⟨A2, c2, rfl, h3, h4⟩ := hb.len
  clear ha hb h1 h2 h3 h4 hk
  go_enter Try.func27, Try.ntmps27
  go_wp2_with fail
  refine (HK.out _).mono ?_
  rintro e w' ⟨rfl, rfl⟩
  go_wp2_with fail
  go_ret2
  exact ⟨rfl, (Below.refl _ _).alloc (Nat.le_refl _) _⟩
set_option maxRecDepth 20000 in
set_option maxHeartbeats 2000000 in
theorem mend_four2 (w : World) (va vh : Value) (l : List ByteArray) (h : List Bool) (k : Nat) (ha : StrsB w va l) (hb : BoolB w vh h) (hk0 : 0 < k) (hk : k ≤ 16) (hp : fewN ((l.length : Int) - (k : Int)) = false) :
    Calls Try.prog 27 #[va, vh, .int .i64 k] w fun e w' => e = .returned (.tuple #[.slice none 0 0, .int .i64 4]) ∧ Below w.heap.size w w' := by
  have HK : Hid (∀ w, Calls Try.prog 49 #[.int .i64 k] w fun e w' => e = .returned (.bool true) ∧ w = w') := fun w => by
    have h := pfew_any k w; rwa [show fewN k = true by unfold fewN; simp; omega] at h
  have HP : Hid (∀ w, Calls Try.prog 49 #[.int .i64 ((l.length : Int) - (k : Int))] w fun e w' => e = .returned (.bool false) ∧ w = w') := fun w => by
    have h := pfew_any ((l.length : Int) - (k : Int)) w; rwa [hp] at h
  obtain ⟨A, c, rfl, h1, h2⟩ := ha.len
  obtain ⟨A2, c2, rfl, h3, h4⟩ := hb.len
  have hlI : l.length ≤ 9223372036854775807 := by unfold maxLen at h2; omega
  clear ha hb h1 h2 h3 h4 hp
  go_enter Try.func27, Try.ntmps27
  go_wp2_with fail
  refine (HK.out _).mono ?_
  rintro e w' ⟨rfl, rfl⟩
  go_wp2_with fail
  refine (HP.out _).mono ?_
  rintro e w' ⟨rfl, rfl⟩
  go_wp2_with fail
  go_ret2
  exact ⟨rfl, (Below.refl _ _).alloc (Nat.le_refl _) _⟩
set_option maxRecDepth 20000 in
set_option maxHeartbeats 2000000 in
theorem mend_four3 (w : World) (va vh : Value) (l : List ByteArray) (h : List Bool) (k : Nat) (ha : StrsB w va l) (hb : BoolB w vh h) (hk0 : 0 < k) (hk : k ≤ 16) (hp0 : k < l.length) (hp : l.length ≤ k + 16) (hl : l.length ≠ h.length) :
    Calls Try.prog 27 #[va, vh, .int .i64 k] w fun e w' => e = .returned (.tuple #[.slice none 0 0, .int .i64 4]) ∧ Below w.heap.size w w' := by
  have HK : Hid (∀ w, Calls Try.prog 49 #[.int .i64 k] w fun e w' => e = .returned (.bool true) ∧ w = w') := fun w => by
    have h := pfew_any k w; rwa [show fewN k = true by unfold fewN; simp; omega] at h
  have HP : Hid (∀ w, Calls Try.prog 49 #[.int .i64 ((l.length : Int) - (k : Int))] w fun e w' => e = .returned (.bool true) ∧ w = w') := fun w => by
    have h := pfew_any ((l.length : Int) - (k : Int)) w; rwa [show fewN ((l.length : Int) - (k : Int)) = true by unfold fewN; simp; omega] at h
  have hne : ((h.length : Int) != (l.length : Int)) = true := by rw [bne_iff_ne]; omega
  obtain ⟨A, c, rfl, h1, h2⟩ := ha.len
  obtain ⟨A2, c2, rfl, h3, h4⟩ := hb.len
  clear ha hb h1 h2 h3 h4 hl
  go_enter Try.func27, Try.ntmps27
  go_wp2_with fail
  refine (HK.out _).mono ?_
  rintro e w' ⟨rfl, rfl⟩
  go_wp2_with fail
  refine (HP.out _).mono ?_
  rintro e w' ⟨rfl, rfl⟩
  go_wp2_with fail
  go_ret2
  exact ⟨rfl, (Below.refl _ _).alloc (Nat.le_refl _) _⟩
set_option maxRecDepth 20000 in
set_option maxHeartbeats 2000000 in
theorem mend_two (w : World) (va vh : Value) (l : List ByteArray) (h : List Bool) (k : Nat) (ha : StrsB w va l) (hb : BoolB w vh h) (hl : l.length = h.length) (hk0 : 0 < k) (hk : k ≤ 16) (hp0 : k < l.length) (hp : l.length ≤ k + 16) (hc : k ≤ (mendA l h).length) (he : evenL (mendA l h) = false) :
    Calls Try.prog 27 #[va, vh, .int .i64 k] w fun e w' => e = .returned (.tuple #[.slice none 0 0, .int .i64 2]) ∧ Below w.heap.size w w' := by
  have HK : Hid (∀ w, Calls Try.prog 49 #[.int .i64 k] w fun e w' => e = .returned (.bool true) ∧ w = w') := fun w => by
    have h := pfew_any k w; rwa [show fewN k = true by unfold fewN; simp; omega] at h
  have HP : Hid (∀ w, Calls Try.prog 49 #[.int .i64 ((l.length : Int) - (k : Int))] w fun e w' => e = .returned (.bool true) ∧ w = w') := fun w => by
    have h := pfew_any ((l.length : Int) - (k : Int)) w; rwa [show fewN ((l.length : Int) - (k : Int)) = true by unfold fewN; simp; omega] at h
  have hbl : Below w.heap.size w (w.alloc (.cells #[vh] 37)) := (Below.refl _ _).alloc (Nat.le_refl _) _
  have HQ := Lib.hid (picked_any (w.alloc (.cells #[vh] 37)) va vh l h l.length w.heap.size (ha.below hbl (Nat.le_refl _)) (by simp) (hb.below hbl (Nat.le_refl _)) hl (by omega) (by simp))
  have HBL := Lib.hid hbl
  have hne : ((h.length : Int) != (l.length : Int)) = false := by rw [bne_eq_false_iff_eq]; omega
  obtain ⟨A, c, rfl, h1, h2⟩ := ha.len
  obtain ⟨A2, c2, rfl, h3, h4⟩ := hb.len
  clear ha hb h1 h2 h3 h4 hbl hl
  have HAll : Hid (pickJ l h l.length l.length = mendA l h) := rfl
  rw [HAll.out] at HQ
  have HEV := Lib.hid he
  clear HAll he
  generalize mendA l h = out at *
  have hd : decide ((out.length : Int) < (k : Int)) = false := by simp; omega
  have hnk2 : ¬ out.length < k := by omega
  go_enter Try.func27, Try.ntmps27
  go_wp2_with fail
  refine (HK.out _).mono ?_
  rintro e w' ⟨rfl, rfl⟩
  go_wp2_with fail
  refine (HP.out _).mono ?_
  rintro e w' ⟨rfl, rfl⟩
  go_wp2_with fail
  refine HQ.out.mono ?_
  rintro e w1 ⟨v1, rfl, s1, b1⟩
  obtain ⟨A3, c3, rfl, h5, h6⟩ := s1.1.len
  have HW : Hid (Below w.heap.size w w1) := HBL.out.trans (b1.mono (by simp))
  have HEV1 := Lib.hid (peven_any w1 _ out s1.1)
  rw [HEV.out] at HEV1
  clear s1 b1 h5 h6 HQ HBL hne
  go_wp2_with fail
  refine HEV1.out.mono ?_
  rintro e w2 ⟨rfl, b2⟩
  replace HW := Lib.hid (HW.out.trans (b2.mono HW.out.size))
  clear b2
  go_wp2_with fail
  go_ret2
  exact ⟨rfl, HW.out⟩
def mendE (l : List ByteArray) (h : List Bool) (k : Int) : Int :=
  if 0 < k ∧ k ≤ 16 ∧ k < l.length ∧ l.length ≤ k + 16 ∧ l.length = h.length then
    if ((mendA l h).length : Int) < k then 5 else if evenL (mendA l h) = true then 0 else 2
  else 4
def mendV (l : List ByteArray) (h : List Bool) (k : Int) : List ByteArray := if mendE l h k = 0 then mendR l h k.toNat else []
theorem mendA_small {l : List ByteArray} {h : List Bool} {k : Nat} (hs : ∀ x ∈ l, x.size ≤ 1000000000) : firstN ((mendA l h).take k) ≤ 1000000000 := by
  cases hq : (mendA l h).take k with
  | nil => simp [firstN]
  | cons a t =>
    have hm : a ∈ mendA l h := List.mem_of_mem_take (by rw [hq]; exact List.mem_cons_self ..)
    obtain ⟨i, hi, _, e⟩ := pickJ_mem l h _ _ a hm
    have := hs a (by rw [e, List.getD_eq_getElem?_getD, List.getElem?_eq_getElem hi]; exact List.getElem_mem hi)
    simpa [firstN] using this
theorem mend_any (w : World) (va vh : Value) (l : List ByteArray) (h : List Bool) (k : Int) (ha : StrsB w va l) (hb : BoolB w vh h) (hs : ∀ x ∈ l, x.size ≤ 1000000000) :
    Calls Try.prog 27 #[va, vh, .int .i64 k] w fun e w' => ∃ v, e = .returned (.tuple #[v, .int .i64 (mendE l h k)]) ∧ StrsN w' v (mendV l h k) ∧ Below w.heap.size w w' := by
  by_cases hg : 0 < k ∧ k ≤ 16 ∧ k < l.length ∧ l.length ≤ k + 16 ∧ l.length = h.length
  · obtain ⟨n, rfl⟩ : ∃ n : Nat, k = (n : Int) := ⟨k.toNat, by omega⟩
    by_cases h5 : ((mendA l h).length : Int) < (n : Int)
    · have e : mendE l h n = 5 := by unfold mendE; rw [if_pos hg, if_pos h5]
      have e2 : mendV l h n = [] := by unfold mendV; rw [e]; rfl
      rw [e, e2]
      refine (mend_none w va vh l h n ha hb (by omega) (by omega) (by omega) (by omega) (by omega) (by unfold mendA at h5; omega)).mono ?_
      rintro e w' ⟨rfl, b⟩
      exact ⟨_, rfl, strsN_nil _, b⟩
    · by_cases h2 : evenL (mendA l h) = true
      · have e : mendE l h n = 0 := by unfold mendE; rw [if_pos hg, if_neg h5, if_pos h2]
        have e2 : mendV l h n = mendR l h n := by unfold mendV; rw [if_pos e]; rfl
        rw [e, e2]
        exact mend_fit w va vh l h n ha hb (by omega) (by omega) (by omega) (by omega) (by omega) (by omega) h2 (mendA_small hs)
      · have e : mendE l h n = 2 := by unfold mendE; rw [if_pos hg, if_neg h5, if_neg h2]
        have e2 : mendV l h n = [] := by unfold mendV; rw [e]; rfl
        rw [e, e2]
        refine (mend_two w va vh l h n ha hb (by omega) (by omega) (by omega) (by omega) (by omega) (by omega) (by simpa using h2)).mono ?_
        rintro e w' ⟨rfl, b⟩
        exact ⟨_, rfl, strsN_nil _, b⟩
  · have e : mendE l h k = 4 := by unfold mendE; rw [if_neg hg]
    have e2 : mendV l h k = [] := by unfold mendV; rw [e]; rfl
    rw [e, e2]
    have h4 : Calls Try.prog 27 #[va, vh, .int .i64 k] w fun e w' => e = .returned (.tuple #[.slice none 0 0, .int .i64 4]) ∧ Below w.heap.size w w' := by
      by_cases hk : 0 < k ∧ k ≤ 16
      · obtain ⟨n, rfl⟩ : ∃ n : Nat, k = (n : Int) := ⟨k.toNat, by omega⟩
        by_cases hp : (n : Int) < l.length ∧ l.length ≤ (n : Int) + 16
        · exact mend_four3 w va vh l h n ha hb (by omega) (by omega) (by omega) (by omega) (by omega)
        · exact mend_four2 w va vh l h n ha hb (by omega) (by omega) (by unfold fewN; simp; omega)
      · exact mend_four1 w va vh l h k ha hb (by unfold fewN; simp; omega)
    refine h4.mono ?_
    rintro e w' ⟨rfl, b⟩
    exact ⟨_, rfl, strsN_nil _, b⟩
end Go.Proofs.Ytdgnhnhmcobfkaa
