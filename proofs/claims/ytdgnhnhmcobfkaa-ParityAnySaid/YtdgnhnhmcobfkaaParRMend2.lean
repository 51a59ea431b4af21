/- siloref36.Mend, whatever it is given. -/
import Derived.Test.YtdgnhnhmcobfkaaParMend2
namespace Go.Proofs.Ytdgnhnhmcobfkaa
open Go.RowKit
set_option linter.unusedVariables false
set_option linter.unusedSimpArgs false
set_option maxRecDepth 20000 in
set_option maxHeartbeats 2000000 in
theorem rmend_four1 (w : World) (va vh : Value) (l : List ByteArray) (h : List Bool) (k : Int) (ha : StrsB w va l) (hb : BoolB w vh h) (hk : fewN k = false) :
    Calls Try.prog 28 #[va, vh, .int .i64 k] w fun e w' => e = .returned (.tuple #[.slice none 0 0, .int .i64 4]) ∧ Below w.heap.size w w' := by
  have HK : Hid (∀ w, Calls Try.prog 54 #[.int .i64 k] w fun e w' => e = .returned (.bool false) ∧ w = w') := fun w => by
    have h := prfew_any k w; rwa [hk] at h
  obtain ⟨A, c, rfl, h1, h2⟩ := ha.len
  obtain ⟨A2, c2, rfl, h3, h4⟩ := hb.len
  clear ha hb h1 h2 h3 h4 hk
  go_enter Try.func28, Try.ntmps28
  go_wp2_with fail
  refine (HK.out _).mono ?_
  rintro e w' ⟨rfl, rfl⟩
  go_wp2_with fail
  go_ret2
  exact ⟨rfl, Below.refl _ _⟩
set_option maxRecDepth 20000 in
set_option maxHeartbeats 2000000 in
theorem rmend_four2 (w : World) (va vh : Value) (l : List ByteArray) (h : List Bool) (k : Nat) (ha : StrsB w va l) (hb : BoolB w vh h) (hk0 : 0 < k) (hk : k ≤ 16) (hp : l.length ≤ k) :
    Calls Try.prog 28 #[va, vh, .int .i64 k] w fun e w' => e = .returned (.tuple #[.slice none 0 0, .int .i64 4]) ∧ Below w.heap.size w w' := by
  have HK : Hid (∀ w, Calls Try.prog 54 #[.int .i64 k] w fun e w' => e = .returned (.bool true) ∧ w = w') := fun w => by
    have h := prfew_any k w; rwa [show fewN k = true by unfold fewN; simp; omega] at h
  have hg1 : decide ((l.length : Int) ≤ (k : Int)) = true := by simp; omega
  obtain ⟨A, c, rfl, h1, h2⟩ := ha.len
  obtain ⟨A2, c2, rfl, h3, h4⟩ := hb.len
  clear ha hb h1 h2 h3 h4
  go_enter Try.func28, Try.ntmps28
  go_wp2_with fail
  refine (HK.out _).mono ?_
  rintro e w' ⟨rfl, rfl⟩
  go_wp2_with fail
  go_ret2
  exact ⟨rfl, Below.refl _ _⟩
set_option maxRecDepth 20000 in
set_option maxHeartbeats 2000000 in
theorem rmend_four3 (w : World) (va vh : Value) (l : List ByteArray) (h : List Bool) (k : Nat) (ha : StrsB w va l) (hb : BoolB w vh h) (hk0 : 0 < k) (hk : k ≤ 16) (hp0 : k < l.length) (hp : k + 16 < l.length) :
    Calls Try.prog 28 #[va, vh, .int .i64 k] w fun e w' => e = .returned (.tuple #[.slice none 0 0, .int .i64 4]) ∧ Below w.heap.size w w' := by
  have HK : Hid (∀ w, Calls Try.prog 54 #[.int .i64 k] w fun e w' => e = .returned (.bool true) ∧ w = w') := fun w => by
    have h := prfew_any k w; rwa [show fewN k = true by unfold fewN; simp; omega] at h
  have hg1 : decide ((l.length : Int) ≤ (k : Int)) = false := by simp; omega
  have hn1 : ¬ l.length ≤ k := by omega
  have hg2 : decide ((k : Int) + 16 < (l.length : Int)) = true := by simp; omega
  obtain ⟨A, c, rfl, h1, h2⟩ := ha.len
  obtain ⟨A2, c2, rfl, h3, h4⟩ := hb.len
  clear ha hb h1 h2 h3 h4
  go_enter Try.func28, Try.ntmps28
  go_wp2_with fail
  refine (HK.out _).mono ?_
  rintro e w' ⟨rfl, rfl⟩
  go_wp2_with fail
  go_ret2
  exact ⟨rfl, Below.refl _ _⟩
set_option maxRecDepth 20000 in
set_option maxHeartbeats 2000000 in
theorem rmend_four4 (w : World) (va vh : Value) (l : List ByteArray) (h : List Bool) (k : Nat) (ha : StrsB w va l) (hb : BoolB w vh h) (hk0 : 0 < k) (hk : k ≤ 16) (hp0 : k < l.length) (hp : l.length ≤ k + 16) (hl : l.length ≠ h.length) :
    Calls Try.prog 28 #[va, vh, .int .i64 k] w fun e w' => e = .returned (.tuple #[.slice none 0 0, .int .i64 4]) ∧ Below w.heap.size w w' := by
  have HK : Hid (∀ w, Calls Try.prog 54 #[.int .i64 k] w fun e w' => e = .returned (.bool true) ∧ w = w') := fun w => by
    have h := prfew_any k w; rwa [show fewN k = true by unfold fewN; simp; omega] at h
  have hg1 : decide ((l.length : Int) ≤ (k : Int)) = false := by simp; omega
  have hn1 : ¬ l.length ≤ k := by omega
  have hg2 : decide ((k : Int) + 16 < (l.length : Int)) = false := by simp; omega
  have hne : ((h.length : Int) != (l.length : Int)) = true := by rw [bne_iff_ne]; omega
  obtain ⟨A, c, rfl, h1, h2⟩ := ha.len
  obtain ⟨A2, c2, rfl, h3, h4⟩ := hb.len
  clear ha hb h1 h2 h3 h4 hl
  go_enter Try.func28, Try.ntmps28
  go_wp2_with fail
  refine (HK.out _).mono ?_
  rintro e w' ⟨rfl, rfl⟩
  go_wp2_with fail
  go_ret2
  exact ⟨rfl, Below.refl _ _⟩
theorem rmend_any (w : World) (va vh : Value) (l : List ByteArray) (h : List Bool) (k : Int) (ha : StrsB w va l) (hb : BoolB w vh h) (hs : ∀ x ∈ l, x.size ≤ 1000000000) :
    Calls Try.prog 28 #[va, vh, .int .i64 k] w fun e w' => ∃ v, e = .returned (.tuple #[v, .int .i64 (mendE l h k)]) ∧ StrsN w' v (mendV l h k) ∧ Below w.heap.size w w' := by
  by_cases hg : 0 < k ∧ k ≤ 16 ∧ k < l.length ∧ l.length ≤ k + 16 ∧ l.length = h.length
  · obtain ⟨n, rfl⟩ : ∃ n : Nat, k = (n : Int) := ⟨k.toNat, by omega⟩
    by_cases h5 : ((mendA l h).length : Int) < (n : Int)
    · have e : mendE l h n = 5 := by unfold mendE; rw [if_pos hg, if_pos h5]
      have e2 : mendV l h n = [] := by unfold mendV; rw [e]; rfl
      rw [e, e2]
      exact rmend_head w va vh l h n 5 [] ha hb (by omega) (by omega) (by omega) (by omega) (by omega) (.inl ⟨rfl, rfl, by omega⟩)
    · by_cases h2 : evenL (mendA l h) = true
      · have e : mendE l h n = 0 := by unfold mendE; rw [if_pos hg, if_neg h5, if_pos h2]
        have e2 : mendV l h n = mendR l h n := by unfold mendV; rw [if_pos e]; rfl
        rw [e, e2]
        exact rmend_head w va vh l h n 0 _ ha hb (by omega) (by omega) (by omega) (by omega) (by omega) (.inr (.inr ⟨rfl, rfl, by omega, h2, mendA_small hs⟩))
      · have e : mendE l h n = 2 := by unfold mendE; rw [if_pos hg, if_neg h5, if_neg h2]
        have e2 : mendV l h n = [] := by unfold mendV; rw [e]; rfl
        rw [e, e2]
        exact rmend_head w va vh l h n 2 [] ha hb (by omega) (by omega) (by omega) (by omega) (by omega) (.inr (.inl ⟨rfl, rfl, by omega, by simpa using h2⟩))
  · have e : mendE l h k = 4 := by unfold mendE; rw [if_neg hg]
    have e2 : mendV l h k = [] := by unfold mendV; rw [e]; rfl
    rw [e, e2]
    have h4 : Calls Try.prog 28 #[va, vh, .int .i64 k] w fun e w' => e = .returned (.tuple #[.slice none 0 0, .int .i64 4]) ∧ Below w.heap.size w w' := by
      by_cases hk : 0 < k ∧ k ≤ 16
      · obtain ⟨n, rfl⟩ : ∃ n : Nat, k = (n : Int) := ⟨k.toNat, by omega⟩
        by_cases hp1 : l.length ≤ n
        · exact rmend_four2 w va vh l h n ha hb (by omega) (by omega) hp1
        · by_cases hp2 : n + 16 < l.length
          · exact rmend_four3 w va vh l h n ha hb (by omega) (by omega) (by omega) hp2
          · exact rmend_four4 w va vh l h n ha hb (by omega) (by omega) (by omega) (by omega) (by omega)
      · exact rmend_four1 w va vh l h k ha hb (by unfold fewN; simp; omega)
    refine h4.mono ?_
    rintro e w' ⟨rfl, b⟩
    exact ⟨_, rfl, strsN_nil _, b⟩
end Go.Proofs.Ytdgnhnhmcobfkaa
