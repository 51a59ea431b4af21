/- Texts of this claim's author, packed: VarintText, VarintLaws, FrameOpen, ShaSpec. Conditions: none. -/
import Derived.Test.YtfpofcfoeajkiaaGreatQR03
import Derived.Lib.Strings
import Derived.Test.YtfpofcfoeajkiaaGreatQR02
import Derived.Deep.RegionHeld3
import Derived.IntWalk
/- Texts with their length: their walks. -/
namespace Go.Proofs.YtfpofcfoeajkiaaGreat
open Go.RowKit
set_option linter.unusedVariables false
/-- a text with its length -/
def vPutText (s : List UInt8) : List UInt8 := if 65536 < s.length then [] else vPut s.length ++ s
/-- the text that bytes begin with -/
def vTakeText (s : List UInt8) : List UInt8 × Nat × Nat :=
  if (vTake s).2.2 ≠ 0 then ([], 0, (vTake s).2.2)
  else if 65536 < (vTake s).1 then ([], 0, 4)
  else if s.length - (vTake s).2.1 < (vTake s).1 then ([], 0, 1)
  else ((s.drop (vTake s).2.1).take (vTake s).1, (vTake s).2.1 + (vTake s).1, 0)
theorem vGo_le (s : List UInt8) : ∀ q, (vGo q s).2.2 = 0 → (vGo q s).2.1 ≤ q.length + s.length ∧ (vGo q s).2.1 ≥ 1 := by
  induction s with
  | nil => intro q h; simp [vGo] at h
  | cons c s ih =>
    intro q h
    rw [vGo] at h ⊢
    split at h
    · rename_i he
      rw [if_pos he]
      unfold vOut at h ⊢
      split at h
      · simp at h
      · split at h
        · simp at h
        · rename_i h1 h2; rw [if_neg h1, if_neg h2]; simp
    · rename_i he
      rw [if_neg he]
      have := ih _ h
      simp at this ⊢
      omega
theorem vTake_le (s : List UInt8) (h : (vTake s).2.2 = 0) : (vTake s).2.1 ≤ s.length ∧ 1 ≤ (vTake s).2.1 := by
  have := vGo_le s [] h
  simpa [vTake] using this
theorem vGo_lt (s : List UInt8) : ∀ q, q.length ≤ 9 → vHigh q → (vGo q s).1 < 18446744073709551616 ∧ (vGo q s).2.2 ≤ 4 := by
  induction s with
  | nil => intro q _ _; simp [vGo]
  | cons c s ih =>
    intro q hq hh
    rw [vGo]
    split
    · rename_i he
      unfold vOut
      split
      · simp
      · split
        · simp
        · rename_i h1 h2
          refine ⟨?_, by simp⟩
          exact (vAddShl q c hq (fun h => by unfold vEnds at he; omega)).2.1
    · rename_i he
      unfold vEnds at he
      exact ih _ (by simp; omega) (vHigh_snoc hh (by omega))
theorem vTake_lt (s : List UInt8) : (vTake s).1 < 18446744073709551616 ∧ (vTake s).2.2 ≤ 4 := vGo_lt s [] (by simp) (by intro x hx; simp at hx)
theorem extract_list (s : ByteArray) (a n : Nat) : s.extract a (a + n) = ⟨((s.data.toList.drop a).take n).toArray⟩ := by
  apply ByteArray.ext
  apply Array.toList_inj.1
  rw [Lib.extract_data]
  simp
theorem ret3s {a a' : ByteArray} {b b' c c' : Int} (h1 : a = a') (h2 : b = b') (h3 : c = c') : Ending.returned (.tuple #[.string a, .int .i64 b, .int .i64 c]) = Ending.returned (.tuple #[.string a', .int .i64 b', .int .i64 c']) := by rw [h1, h2, h3]
set_option maxHeartbeats 400000 in
theorem putText_any (s : ByteArray) (hs : s.size ≤ 140737488351232) (w : World) :
    Calls Tryz.prog 48 #[.string s] w fun e w' => e = .returned (.string ⟨(vPutText s.data.toList).toArray⟩) ∧ Below w.heap.size w w' := by
  have hl : s.data.toList.length = s.size := by simp
  by_cases h : 65536 < s.size
  · have hv : vPutText s.data.toList = [] := by unfold vPutText; rw [if_pos (by omega)]
    rw [hv]
    clear hv hl
    go_enter Tryz.func48, Tryz.ntmps48
    go_wp2
    go_ret
    exact ⟨rfl, Below.refl _ _⟩
  · have hv : (⟨(vPutText s.data.toList).toArray⟩ : ByteArray) = ⟨(vPut s.size).toArray⟩ ++ s := by
      unfold vPutText; rw [if_neg (by omega), hl]
      apply ByteArray.ext
      simp
    rw [hv]
    clear hl hv
    have hp := fun w => put_any s.size (by omega) w
    have h10 : (⟨(vPut s.size).toArray⟩ : ByteArray).size ≤ 10 := vPut_len10 s.size (by omega)
    generalize (⟨(vPut s.size).toArray⟩ : ByteArray) = p at *
    have HP := Lib.hid hp; clear hp
    go_enter Tryz.func48, Tryz.ntmps48
    go_wp2_with fail
    refine (HP.out _).mono ?_
    rintro e w1 ⟨rfl, b1⟩
    go_wp2
    go_ret
    exact ⟨rfl, b1⟩
set_option maxHeartbeats 400000 in
theorem takeText_any (s : ByteArray) (hs : s.size ≤ 140737488351232) (w : World) :
    Calls Tryz.prog 70 #[.string s] w fun e w' => e = .returned (.tuple #[.string ⟨(vTakeText s.data.toList).1.toArray⟩, .int .i64 ((vTakeText s.data.toList).2.1 : Nat), .int .i64 ((vTakeText s.data.toList).2.2 : Nat)]) ∧ Below w.heap.size w w' := by
  have hl : s.data.toList.length = s.size := by simp
  have ht := fun w => take_any s (by unfold maxLen; omega) w
  have hle := vTake_le s.data.toList
  have hlt := vTake_lt s.data.toList
  have hv : vTakeText s.data.toList = vTakeText s.data.toList := rfl
  conv at hv => rhs; unfold vTakeText
  generalize vTake s.data.toList = r at *
  obtain ⟨n, k, e⟩ := r
  dsimp only at *
  have HT := Lib.hid ht; clear ht
  by_cases he : e = 0
  · subst he
    obtain ⟨hk, hk1⟩ := hle rfl
    rw [if_neg (by simp)] at hv
    by_cases hn : 65536 < n
    · rw [if_pos hn] at hv
      rw [hv]
      clear hv hlt
      go_enter Tryz.func70, Tryz.ntmps70
      go_wp2_with fail
      refine (HT.out _).mono ?_
      rintro e w1 ⟨rfl, b1⟩
      go_wp2
      go_ret3
      exact ⟨rfl, b1⟩
    · rw [if_neg hn] at hv
      rw [hl] at hv hk
      by_cases hs2 : s.size - k < n
      · rw [if_pos hs2] at hv
        rw [hv]
        clear hv hlt hl
        have hs3 : (s.size : Int) - (k : Int) < (n : Int) := by omega
        have hs4 : (0 : Int) ≤ (s.size : Int) - (k : Int) := by omega
        go_enter Tryz.func70, Tryz.ntmps70
        go_wp2_with fail
        refine (HT.out _).mono ?_
        rintro e w1 ⟨rfl, b1⟩
        go_wp2
        go_ret3
        exact ⟨rfl, b1⟩
      · rw [if_neg hs2] at hv
        have HV := Lib.hid hv; clear hv hlt hl
        have hs3 : (n : Int) ≤ (s.size : Int) - (k : Int) := by omega
        have hs4 : (0 : Int) ≤ (s.size : Int) - (k : Int) := by omega
        go_enter Tryz.func70, Tryz.ntmps70
        go_wp2_with fail
        refine (HT.out _).mono ?_
        rintro e w1 ⟨rfl, b1⟩
        go_wp2
        go_ret3
        exact ⟨ret3s (by rw [HV.out]; exact extract_list s k n) (by rw [HV.out]; rfl) (by rw [HV.out]; rfl), b1⟩
  · rw [if_pos he] at hv
    rw [hv]
    clear hle hv
    have he' : ((e : Int) != 0) = true := by simp; omega
    go_enter Tryz.func70, Tryz.ntmps70
    go_wp2_with fail
    refine (HT.out _).mono ?_
    rintro e w1 ⟨rfl, b1⟩
    go_wp2
    go_ret3
    exact ⟨rfl, b1⟩
set_option maxHeartbeats 400000 in
theorem refPutText_any (s : ByteArray) (hs : s.size ≤ 140737488351232) (w : World) :
    Calls Tryz.prog 57 #[.string s] w fun e w' => e = .returned (.string ⟨(vPutText s.data.toList).toArray⟩) ∧ Below w.heap.size w w' := by
  have hl : s.data.toList.length = s.size := by simp
  by_cases h : 65536 < s.size
  · have hv : vPutText s.data.toList = [] := by unfold vPutText; rw [if_pos (by omega)]
    rw [hv]
    clear hv hl
    go_enter Tryz.func57, Tryz.ntmps57
    go_wp2
    go_ret
    exact ⟨rfl, Below.refl _ _⟩
  · have hv : (⟨(vPutText s.data.toList).toArray⟩ : ByteArray) = ⟨(vPut s.size).toArray⟩ ++ s := by
      unfold vPutText; rw [if_neg (by omega), hl]
      apply ByteArray.ext
      simp
    rw [hv]
    clear hl hv
    have hp := fun w => refPut_any s.size (by omega) w
    have h10 : (⟨(vPut s.size).toArray⟩ : ByteArray).size ≤ 10 := vPut_len10 s.size (by omega)
    generalize (⟨(vPut s.size).toArray⟩ : ByteArray) = p at *
    have HP := Lib.hid hp; clear hp
    go_enter Tryz.func57, Tryz.ntmps57
    go_wp2_with fail
    refine (HP.out _).mono ?_
    rintro e w1 ⟨rfl, b1⟩
    go_wp2
    go_ret
    exact ⟨rfl, b1⟩
set_option maxHeartbeats 400000 in
theorem refTakeText_any (s : ByteArray) (hs : s.size ≤ 140737488351232) (w : World) :
    Calls Tryz.prog 74 #[.string s] w fun e w' => e = .returned (.tuple #[.string ⟨(vTakeText s.data.toList).1.toArray⟩, .int .i64 ((vTakeText s.data.toList).2.1 : Nat), .int .i64 ((vTakeText s.data.toList).2.2 : Nat)]) ∧ w = w' := by
  have hl : s.data.toList.length = s.size := by simp
  have ht := fun w => refTake_any s (by unfold maxLen; omega) w
  have hle := vTake_le s.data.toList
  have hlt := vTake_lt s.data.toList
  have hv : vTakeText s.data.toList = vTakeText s.data.toList := rfl
  conv at hv => rhs; unfold vTakeText
  generalize vTake s.data.toList = r at *
  obtain ⟨n, k, e⟩ := r
  dsimp only at *
  have HT := Lib.hid ht; clear ht
  by_cases he : e = 0
  · subst he
    obtain ⟨hk, hk1⟩ := hle rfl
    rw [if_neg (by simp)] at hv
    by_cases hn : 65536 < n
    · rw [if_pos hn] at hv
      rw [hv]
      clear hv hlt
      go_enter Tryz.func74, Tryz.ntmps74
      go_wp2_with fail
      refine (HT.out _).mono ?_
      rintro e w1 ⟨rfl, rfl⟩
      go_wp2
      go_ret3
      exact ⟨rfl, rfl⟩
    · rw [if_neg hn] at hv
      rw [hl] at hv hk
      by_cases hs2 : s.size - k < n
      · rw [if_pos hs2] at hv
        rw [hv]
        clear hv hlt hl
        have hs3 : (s.size : Int) - (k : Int) < (n : Int) := by omega
        have hs4 : (0 : Int) ≤ (s.size : Int) - (k : Int) := by omega
        go_enter Tryz.func74, Tryz.ntmps74
        go_wp2_with fail
        refine (HT.out _).mono ?_
        rintro e w1 ⟨rfl, rfl⟩
        go_wp2
        go_ret3
        exact ⟨rfl, rfl⟩
      · rw [if_neg hs2] at hv
        have HV := Lib.hid hv; clear hv hlt hl
        have hs3 : (n : Int) ≤ (s.size : Int) - (k : Int) := by omega
        have hs4 : (0 : Int) ≤ (s.size : Int) - (k : Int) := by omega
        go_enter Tryz.func74, Tryz.ntmps74
        go_wp2_with fail
        refine (HT.out _).mono ?_
        rintro e w1 ⟨rfl, rfl⟩
        go_wp2
        go_ret3
        exact ⟨ret3s (by rw [HV.out]; exact extract_list s k n) (by rw [HV.out]; rfl) (by rw [HV.out]; rfl), rfl⟩
  · rw [if_pos he] at hv
    rw [hv]
    clear hle hv
    have he' : ((e : Int) != 0) = true := by simp; omega
    go_enter Tryz.func74, Tryz.ntmps74
    go_wp2_with fail
    refine (HT.out _).mono ?_
    rintro e w1 ⟨rfl, rfl⟩
    go_wp2
    go_ret3
    exact ⟨rfl, rfl⟩
end Go.Proofs.YtfpofcfoeajkiaaGreat
/- Plain laws of numbers as bytes. No program is walked here. -/
namespace Go.Proofs.YtfpofcfoeajkiaaGreat
open Go.RowKit
theorem vGo_put (k : Nat) : ∀ (m : Nat) (q behind : List UInt8), m ≤ k → vHigh q → (0 < q.length → 0 < m) → m * 2 ^ (7 * q.length) < 18446744073709551616 → q.length ≤ 9 →
    vGo q (vPut m ++ behind) = (vNum (q ++ vPut m), q.length + (vPut m).length, 0) := by
  induction k with
  | zero =>
    intro m q behind hm hh h0 hlt hl
    obtain rfl : m = 0 := by omega
    have hq : q.length = 0 := by omega
    rw [vPut_small 0 (by decide)]
    rw [List.cons_append, vGo, if_pos (.inr (by decide)), vOut, if_neg (by omega), if_neg (by omega)]
    simp
  | succ k ih =>
    intro m q behind hm hh h0 hlt hl
    by_cases h : m < 128
    · rw [vPut_small m h]
      have hc : (UInt8.ofNat m).toNat = m := by simp; omega
      rw [List.cons_append, vGo, if_pos (.inr (by omega)), vOut, if_neg ?_, if_neg (by omega)]
      · simp
      · rintro ⟨h9, h1⟩
        rw [h9] at hlt
        rw [hc] at h1
        have : 2 * 2 ^ (7 * 9) ≤ m * 2 ^ (7 * 9) := Nat.mul_le_mul_right _ (by omega)
        omega
    · rw [vPut_step m (by omega)]
      have hc : (UInt8.ofNat (m % 128 + 128)).toNat = m % 128 + 128 := by simp; omega
      have hl9 : q.length ≠ 9 := by
        intro h9
        rw [h9] at hlt
        have : 2 * 2 ^ (7 * 9) ≤ m * 2 ^ (7 * 9) := Nat.mul_le_mul_right _ (by omega)
        omega
      rw [List.cons_append, vGo, if_neg (by unfold vEnds; omega)]
      rw [ih (m / 128) (q ++ [UInt8.ofNat (m % 128 + 128)]) behind (by omega) (vHigh_snoc hh (by omega)) (by intro _; omega) ?_ (by simp; omega)]
      · simp; omega
      · simp only [List.length_append, List.length_singleton]
        rw [show 7 * (q.length + 1) = 7 * q.length + 7 by omega, Nat.pow_add]
        have h1 : m / 128 * (2 ^ (7 * q.length) * 2 ^ 7) = m / 128 * 128 * 2 ^ (7 * q.length) := by
          rw [Nat.mul_comm (2 ^ (7 * q.length)), ← Nat.mul_assoc]
        rw [h1]
        exact Nat.lt_of_le_of_lt (Nat.mul_le_mul_right _ (Nat.div_mul_le_self m 128)) hlt
theorem vNum_put (k : Nat) : ∀ m, m ≤ k → vNum (vPut m) = m := by
  induction k with
  | zero => intro m h; obtain rfl : m = 0 := by omega
            rfl
  | succ k ih =>
    intro m h
    by_cases h1 : m < 128
    · rw [vPut_small m h1]; simp [vNum]; omega
    · rw [vPut_step m (by omega), vNum, ih (m / 128) (by omega)]
      have hc : (UInt8.ofNat (m % 128 + 128)).toNat = m % 128 + 128 := by simp; omega
      rw [hc]; omega
/-- a number's bytes, whatever is behind, are read as it -/
theorem vTake_put (n : Nat) (hn : n < 18446744073709551616) (behind : List UInt8) : vTake (vPut n ++ behind) = (n, (vPut n).length, 0) := by
  have := vGo_put n n [] behind (Nat.le_refl _) (by intro x hx; simp at hx) (by simp) (by simpa using hn) (by simp)
  rw [vTake, this]
  simp [vNum_put n n (Nat.le_refl _)]
theorem vPut_num : ∀ (q : List UInt8) (c : UInt8), vHigh q → c.toNat < 128 → (0 < q.length → 0 < c.toNat) → vPut (vNum (q ++ [c])) = q ++ [c] ∧ (0 < c.toNat → 0 < vNum (q ++ [c]))
  | [], c, _, hc, _ => by
    have e : vNum ([] ++ [c]) = c.toNat := by simp [vNum]; omega
    rw [e, vPut_small _ hc]
    exact ⟨by simp, fun h => h⟩
  | d :: q, c, hh, hc, h0 => by
    obtain ⟨ih1, ih2⟩ := vPut_num q c (fun x hx => hh x (by simp [hx])) hc (fun h => h0 (by simp))
    have hd := hh d (by simp)
    have hd2 := d.toNat_lt
    have h3 := ih2 (h0 (by simp))
    simp only [List.cons_append, vNum]
    refine ⟨?_, fun _ => by omega⟩
    rw [vPut_step _ (by omega)]
    have e1 : (d.toNat % 128 + 128 * vNum (q ++ [c])) / 128 = vNum (q ++ [c]) := by omega
    have e2 : (d.toNat % 128 + 128 * vNum (q ++ [c])) % 128 + 128 = d.toNat := by omega
    rw [e1, e2, ih1]
    simp
theorem vGo_back (s : List UInt8) : ∀ q, vHigh q → (vGo q s).2.2 = 0 → ∃ p c rest, s = p ++ c :: rest ∧ vHigh p ∧ c.toNat < 128 ∧ (0 < q.length + p.length → 0 < c.toNat) ∧ vGo q s = (vNum (q ++ p ++ [c]), q.length + p.length + 1, 0) := by
  induction s with
  | nil => intro q _ h; simp [vGo] at h
  | cons c s ih =>
    intro q hh h
    rw [vGo] at h ⊢
    by_cases he : vEnds q c
    · rw [if_pos he] at h ⊢
      unfold vOut at h ⊢
      by_cases h1 : q.length = 9 ∧ 1 < c.toNat
      · rw [if_pos h1] at h; simp at h
      · rw [if_neg h1] at h ⊢
        by_cases h2 : c.toNat = 0 ∧ 0 < q.length
        · rw [if_pos h2] at h; simp at h
        · rw [if_neg h2]
          exact ⟨[], c, s, rfl, by intro x hx; simp at hx, by unfold vEnds at he; omega, by simp; omega, by simp⟩
    · rw [if_neg he] at h ⊢
      have hc : 128 ≤ c.toNat := by unfold vEnds at he; omega
      obtain ⟨p, d, rest, h1, h2, h3, h4, h5⟩ := ih _ (vHigh_snoc hh hc) h
      refine ⟨c :: p, d, rest, by rw [h1]; rfl, ?_, h3, by simp at h4 ⊢; omega, by rw [h5]; simp; omega⟩
      intro x hx
      rcases List.mem_cons.1 hx with rfl | hx
      · exact hc
      · exact h2 x hx
/-- bytes that are read are that number's -/
theorem vTake_back (s : List UInt8) (h : (vTake s).2.2 = 0) : vPut (vTake s).1 = s.take (vTake s).2.1 := by
  obtain ⟨p, c, rest, h1, h2, h3, h4, h5⟩ := vGo_back s [] (by intro x hx; simp at hx) h
  rw [vTake, h5]
  simp only [List.nil_append, List.length_nil, Nat.zero_add]
  rw [(vPut_num p c h2 h3 (by simpa using h4)).1, h1]
  have : p ++ c :: rest = (p ++ [c]) ++ rest := by simp
  rw [this, List.take_left' (by simp)]
/-- a greater number has no fewer bytes -/
theorem vPut_mono (k : Nat) : ∀ n m, n ≤ m → m ≤ k → (vPut n).length ≤ (vPut m).length := by
  induction k with
  | zero => intro n m h1 h2; obtain rfl : n = 0 := by omega
            obtain rfl : m = 0 := by omega
            exact Nat.le_refl _
  | succ k ih =>
    intro n m h1 h2
    by_cases hn : n < 128
    · rw [vPut_small n hn]; exact vPut_pos m
    · rw [vPut_step n (by omega), vPut_step m (by omega)]
      have := ih (n / 128) (m / 128) (by omega) (by omega)
      simpa using this
/-- a text with its length, whatever is behind, is read as it -/
theorem vTakeText_put (s behind : List UInt8) (h : s.length ≤ 65536) : vTakeText (vPutText s ++ behind) = (s, (vPutText s).length, 0) := by
  have e : vPutText s = vPut s.length ++ s := by unfold vPutText; rw [if_neg (by omega)]
  have ht := vTake_put s.length (by omega) (s ++ behind)
  unfold vTakeText
  rw [e, List.append_assoc, ht]
  rw [if_neg (by simp), if_neg (by simpa using h), if_neg (by simp)]
  simp
/-- a text that is read, with its length, is what was read -/
theorem vTakeText_back (t : List UInt8) (h : (vTakeText t).2.2 = 0) : (vTakeText t).2.1 ≤ t.length ∧ vPutText (vTakeText t).1 = t.take (vTakeText t).2.1 := by
  unfold vTakeText at h ⊢
  by_cases h1 : (vTake t).2.2 ≠ 0
  · rw [if_pos h1] at h; exact absurd h h1
  · rw [if_neg h1] at h ⊢
    have h1 : (vTake t).2.2 = 0 := by omega
    by_cases h2 : 65536 < (vTake t).1
    · rw [if_pos h2] at h; simp at h
    · rw [if_neg h2] at h ⊢
      by_cases h3 : t.length - (vTake t).2.1 < (vTake t).1
      · rw [if_pos h3] at h; simp at h
      · rw [if_neg h3]
        obtain ⟨hk, _⟩ := vTake_le t h1
        have hb := vTake_back t h1
        dsimp only
        have hlen : ((t.drop (vTake t).2.1).take (vTake t).1).length = (vTake t).1 := by simp; omega
        refine ⟨by omega, ?_⟩
        unfold vPutText
        rw [if_neg (by omega), hlen, hb, List.take_add]
theorem vTakeText_err (t : List UInt8) (h : (vTakeText t).2.2 ≠ 0) : (vTakeText t).1 = [] ∧ (vTakeText t).2.1 = 0 := by
  unfold vTakeText at h ⊢
  split
  · exact ⟨rfl, rfl⟩
  · split
    · exact ⟨rfl, rfl⟩
    · split
      · exact ⟨rfl, rfl⟩
      · rename_i h1 h2 h3; rw [if_neg h1, if_neg h2, if_neg h3] at h; exact absurd rfl h
end Go.Proofs.YtfpofcfoeajkiaaGreat
/- Frames: what they are; their walks: Wrap, Open, and the document's. -/
namespace Go.Proofs.YtfpofcfoeajkiaaGreat
open Go.RowKit
set_option linter.unusedVariables false
/-- a text as a frame -/
def fWrap (s : List UInt8) : List UInt8 := if vPutText s = [] then [] else vPutText s ++ crcBytes (crcMore 0 (vPutText s))
/-- the text of the frame that bytes begin with -/
def fOpen (s : List UInt8) : List UInt8 × Nat × Nat :=
  if (vTakeText s).2.2 ≠ 0 then ([], 0, (vTakeText s).2.2)
  else if s.length < (vTakeText s).2.1 + 4 then ([], 0, 1)
  else if crcBytes (crcMore 0 (s.take (vTakeText s).2.1)) ≠ (s.drop (vTakeText s).2.1).take 4 then ([], 0, 3)
  else ((vTakeText s).1, (vTakeText s).2.1 + 4, 0)
theorem bytes_ne {a b : List UInt8} (h : a ≠ b) : (a == b) = false := by simpa using h
theorem crcBytes_len (c : UInt32) : (crcBytes c).length = 4 := rfl
set_option maxHeartbeats 400000 in
theorem wrap_any (s : ByteArray) (hs : s.size ≤ 140737488351232) (w : World) :
    Calls Tryz.prog 24 #[.string s] w fun e w' => e = .returned (.string ⟨(fWrap s.data.toList).toArray⟩) ∧ Below w.heap.size w w' := by
  have hp := fun w => putText_any s hs w
  have hl : (vPutText s.data.toList).length ≤ 70000 := by
    unfold vPutText
    split
    · simp
    · rename_i h
      have := vPut_len10 s.data.toList.length (by omega)
      rw [List.length_append]; omega
  have hF : fWrap s.data.toList = if vPutText s.data.toList = [] then [] else vPutText s.data.toList ++ crcBytes (crcMore 0 (vPutText s.data.toList)) := rfl
  generalize vPutText s.data.toList = t at *
  by_cases ht : t = []
  · subst ht
    rw [if_pos rfl] at hF
    rw [hF]
    have HP := Lib.hid hp; clear hp hF
    go_enter Tryz.func24, Tryz.ntmps24
    go_wp2_with fail
    refine (HP.out _).mono ?_
    rintro e w1 ⟨rfl, b1⟩
    go_wp2
    go_ret
    exact ⟨rfl, b1⟩
  · rw [if_neg ht] at hF
    have hc := fun w => crcSum_any ⟨t.toArray⟩ w (by show t.length ≤ _; unfold maxLen; omega)
    have hb := crcBytes_any (crcMore 0 t)
    have hv : (⟨(fWrap s.data.toList).toArray⟩ : ByteArray) = ⟨t.toArray⟩ ++ ⟨(crcBytes (crcMore 0 t)).toArray⟩ := by
      rw [hF]; apply ByteArray.ext; simp
    rw [hv]
    clear hv hF
    dsimp only at hc
    have hsz : (⟨t.toArray⟩ : ByteArray).size ≤ 70000 := hl
    have hsc : (⟨(crcBytes (crcMore 0 t)).toArray⟩ : ByteArray).size ≤ 4 := Nat.le_refl _
    have h0 : (⟨t.toArray⟩ : ByteArray).toList.isEmpty = false := by
      rw [List.isEmpty_eq_false_iff]
      intro h
      apply ht
      simpa using h
    generalize (⟨(crcBytes (crcMore 0 t)).toArray⟩ : ByteArray) = C at *
    generalize crcMore 0 t = c at *
    generalize (⟨t.toArray⟩ : ByteArray) = T at *
    have HP := Lib.hid hp; clear hp
    have HC := Lib.hid hc; clear hc
    have HB := Lib.hid hb; clear hb ht hl
    go_enter Tryz.func24, Tryz.ntmps24
    go_wp2_with fail
    refine (HP.out _).mono ?_
    rintro e w1 ⟨rfl, b1⟩
    go_wp2_with fail
    refine (HC.out _).mono ?_
    rintro e w' ⟨rfl, rfl⟩
    go_wp2_with fail
    refine (HB.out _).mono ?_
    rintro e w2 ⟨rfl, b2⟩
    go_wp2
    go_ret
    exact ⟨rfl, b1.trans (b2.mono b1.size)⟩
theorem below_drew0 {a b : World} (h : Below a.drew.heap.size a.drew b) : Below a.heap.size a b := (Below.refl a.heap.size a).drew.trans h
theorem vTakeText_pos (s : List UInt8) (h : (vTakeText s).2.2 = 0) : 1 ≤ (vTakeText s).2.1 ∧ (vTakeText s).2.1 ≤ s.length := by
  revert h
  unfold vTakeText
  split
  · intro h; rename_i h'; exact absurd h h'
  · rename_i h0
    have := vTake_le s (by omega)
    split
    · intro h; exact absurd h (by simp)
    · split
      · intro h; exact absurd h (by simp)
      · intro _; dsimp only; omega
set_option maxHeartbeats 1000000 in
theorem open_any (s : ByteArray) (hs : s.size ≤ 140737488351232) (w : World) :
    Calls Tryz.prog 41 #[.string s] w fun e w' => e = .returned (.tuple #[.string ⟨(fOpen s.data.toList).1.toArray⟩, .int .i64 ((fOpen s.data.toList).2.1 : Nat), .int .i64 ((fOpen s.data.toList).2.2 : Nat)]) ∧ Below w.heap.size w w' := by
  have ht := fun w => takeText_any s hs w
  have hp := vTakeText_pos s.data.toList
  have hl : s.data.toList.length = s.size := by simp
  have hF : fOpen s.data.toList = fOpen s.data.toList := rfl
  conv at hF => rhs; unfold fOpen
  generalize vTakeText s.data.toList = r at *
  obtain ⟨t, n, e⟩ := r
  dsimp only at *
  have HT := Lib.hid ht; clear ht
  by_cases he : e = 0
  · subst he
    obtain ⟨hn, hn2⟩ := hp rfl
    rw [if_neg (by simp)] at hF
    rw [hl] at hF hn2
    by_cases h4 : s.size < n + 4
    · rw [if_pos h4] at hF
      rw [hF]
      clear hF hl hp
      go_enter Tryz.func41, Tryz.ntmps41
      go_wp2_with fail
      refine (HT.out _).mono ?_
      rintro e w1 ⟨rfl, b1⟩
      go_wp2
      go_ret3
      exact ⟨rfl, b1⟩
    · rw [if_neg h4] at hF
      have hc := fun w => crcSum_any (s.extract 0 n) w (by simp; unfold maxLen; omega)
      have ht0 : (s.extract 0 n).data.toList = s.data.toList.take n := by rw [Lib.extract_data]; simp
      have ht4 : (s.extract n (n + 4)).data.toList = (s.data.toList.drop n).take 4 := by rw [Lib.extract_data]; simp
      rw [ht0] at hc
      have hb := crcBytes_any (crcMore 0 (s.data.toList.take n))
      generalize crcMore 0 (s.data.toList.take n) = c at *
      have HC := Lib.hid hc; clear hc
      have HB := Lib.hid hb; clear hb
      have e4 : IntKind.i64.wrap ((n : Int) + 4) = (n : Int) + 4 := IntWalk.i64_in _ (by omega)
      have e5 : ((n : Int) + 4).toNat = n + 4 := by omega
      have g1 : (n : Int) ≤ (s.size : Int) := by omega
      have g2 : (n : Int) + 4 ≤ (s.size : Int) := by omega
      have g3 : n ≤ s.size := by omega
      have g4 : (n : Int) ≤ (n : Int) + 4 := by omega
      have g6 : (0 : Int) ≤ (n : Int) := by omega
      have g7 : (0 : Int) ≤ (n : Int) + 4 := by omega
      have g8 : n + 4 ≤ s.size := by omega
      by_cases hq : crcBytes c = (s.data.toList.drop n).take 4
      · rw [if_neg (by simpa using hq)] at hF
        have hq' : s.extract n (n + 4) = ⟨(crcBytes c).toArray⟩ := by
          apply ByteArray.ext; apply Array.toList_inj.1; rw [ht4]; exact hq.symm
        rw [hF]
        clear hF hl hp hq ht0 ht4
        go_enter Tryz.func41, Tryz.ntmps41
        go_wp2_with fail
        refine (HT.out _).mono ?_
        rintro e w1 ⟨rfl, b1⟩
        go_wp2_with fail
        go_region_held3 (fun w' => True) (trivial) (first | (go_at_call 50; refine (HC.out _).mono ?_; rintro e w' ⟨rfl, rfl⟩) | (go_at_call 49; refine (HB.out _).mono ?_; rintro e w4 ⟨rfl, b4⟩))
        replace b4 := below_drew0 b4
        go_wp2
        go_ret3
        exact ⟨rfl, b1.trans (b4.mono b1.size)⟩
      · rw [if_pos (by simpa using hq)] at hF
        have hq' : ((⟨(crcBytes c).toArray⟩ : ByteArray).toList == (s.extract n (n + 4)).toList) = false := by
          rw [beq_eq_false_iff_ne, ByteArray.toList_eq, ByteArray.toList_eq, ht4]
          exact hq
        have hq2 : ((s.extract n (n + 4)).toList == (⟨(crcBytes c).toArray⟩ : ByteArray).toList) = false := by
          rw [beq_eq_false_iff_ne]
          exact fun h => beq_eq_false_iff_ne.1 hq' h.symm
        rw [hF]
        clear hF hl hp hq ht0 ht4
        generalize (⟨(crcBytes c).toArray⟩ : ByteArray) = C at *
        go_enter Tryz.func41, Tryz.ntmps41
        go_wp2_with fail
        refine (HT.out _).mono ?_
        rintro e w1 ⟨rfl, b1⟩
        go_wp2_with fail
        go_region_held3 (fun w' => True) (trivial) (first | (go_at_call 50; refine (HC.out _).mono ?_; rintro e w' ⟨rfl, rfl⟩) | (go_at_call 49; refine (HB.out _).mono ?_; rintro e w4 ⟨rfl, b4⟩))
        replace b4 := below_drew0 b4
        go_wp2
        go_ret3
        exact ⟨rfl, b1.trans (b4.mono b1.size)⟩
  · rw [if_pos he] at hF
    rw [hF]
    clear hF hp
    have he' : ((e : Int) != 0) = true := by simp; omega
    go_enter Tryz.func41, Tryz.ntmps41
    go_wp2_with fail
    refine (HT.out _).mono ?_
    rintro e w1 ⟨rfl, b1⟩
    go_wp2
    go_ret3
    exact ⟨rfl, b1⟩
set_option maxHeartbeats 400000 in
theorem refWrap_any (s : ByteArray) (hs : s.size ≤ 140737488351232) (w : World) :
    Calls Tryz.prog 31 #[.string s] w fun e w' => e = .returned (.string ⟨(fWrap s.data.toList).toArray⟩) ∧ Below w.heap.size w w' := by
  have hp := fun w => refPutText_any s hs w
  have hl : (vPutText s.data.toList).length ≤ 70000 := by
    unfold vPutText
    split
    · simp
    · rename_i h
      have := vPut_len10 s.data.toList.length (by omega)
      rw [List.length_append]; omega
  have hF : fWrap s.data.toList = if vPutText s.data.toList = [] then [] else vPutText s.data.toList ++ crcBytes (crcMore 0 (vPutText s.data.toList)) := rfl
  generalize vPutText s.data.toList = t at *
  by_cases ht : t = []
  · subst ht
    rw [if_pos rfl] at hF
    rw [hF]
    have HP := Lib.hid hp; clear hp hF
    go_enter Tryz.func31, Tryz.ntmps31
    go_wp2_with fail
    refine (HP.out _).mono ?_
    rintro e w1 ⟨rfl, b1⟩
    go_wp2
    go_ret
    exact ⟨rfl, b1⟩
  · rw [if_neg ht] at hF
    have hc := fun w => refCrcSum_any ⟨t.toArray⟩ w (by show t.length ≤ _; unfold maxLen; omega)
    have hb := refCrcBytes_any (crcMore 0 t)
    have hv : (⟨(fWrap s.data.toList).toArray⟩ : ByteArray) = ⟨t.toArray⟩ ++ ⟨(crcBytes (crcMore 0 t)).toArray⟩ := by
      rw [hF]; apply ByteArray.ext; simp
    rw [hv]
    clear hv hF
    dsimp only at hc
    have hsz : (⟨t.toArray⟩ : ByteArray).size ≤ 70000 := hl
    have hsc : (⟨(crcBytes (crcMore 0 t)).toArray⟩ : ByteArray).size ≤ 4 := Nat.le_refl _
    have h0 : (⟨t.toArray⟩ : ByteArray).toList.isEmpty = false := by
      rw [List.isEmpty_eq_false_iff]
      intro h
      apply ht
      simpa using h
    generalize (⟨(crcBytes (crcMore 0 t)).toArray⟩ : ByteArray) = C at *
    generalize crcMore 0 t = c at *
    generalize (⟨t.toArray⟩ : ByteArray) = T at *
    have HP := Lib.hid hp; clear hp
    have HC := Lib.hid hc; clear hc
    have HB := Lib.hid hb; clear hb ht hl
    go_enter Tryz.func31, Tryz.ntmps31
    go_wp2_with fail
    refine (HP.out _).mono ?_
    rintro e w1 ⟨rfl, b1⟩
    go_wp2_with fail
    refine (HC.out _).mono ?_
    rintro e w' ⟨rfl, rfl⟩
    go_wp2_with fail
    refine (HB.out _).mono ?_
    rintro e w2 ⟨rfl, b2⟩
    go_wp2
    go_ret
    exact ⟨rfl, b1.trans (b2.mono b1.size)⟩
set_option maxHeartbeats 1000000 in
theorem refOpen_any (s : ByteArray) (hs : s.size ≤ 140737488351232) (w : World) :
    Calls Tryz.prog 45 #[.string s] w fun e w' => e = .returned (.tuple #[.string ⟨(fOpen s.data.toList).1.toArray⟩, .int .i64 ((fOpen s.data.toList).2.1 : Nat), .int .i64 ((fOpen s.data.toList).2.2 : Nat)]) ∧ Below w.heap.size w w' := by
  have ht := fun w => refTakeText_any s hs w
  have hp := vTakeText_pos s.data.toList
  have hl : s.data.toList.length = s.size := by simp
  have hF : fOpen s.data.toList = fOpen s.data.toList := rfl
  conv at hF => rhs; unfold fOpen
  generalize vTakeText s.data.toList = r at *
  obtain ⟨t, n, e⟩ := r
  dsimp only at *
  have HT := Lib.hid ht; clear ht
  by_cases he : e = 0
  · subst he
    obtain ⟨hn, hn2⟩ := hp rfl
    rw [if_neg (by simp)] at hF
    rw [hl] at hF hn2
    by_cases h4 : s.size < n + 4
    · rw [if_pos h4] at hF
      rw [hF]
      clear hF hl hp
      go_enter Tryz.func45, Tryz.ntmps45
      go_wp2_with fail
      refine (HT.out _).mono ?_
      rintro e w' ⟨rfl, rfl⟩
      go_wp2
      go_ret3
      exact ⟨rfl, Below.refl _ _⟩
    · rw [if_neg h4] at hF
      have hc := fun w => refCrcSum_any (s.extract 0 n) w (by simp; unfold maxLen; omega)
      have ht0 : (s.extract 0 n).data.toList = s.data.toList.take n := by rw [Lib.extract_data]; simp
      have ht4 : (s.extract n (n + 4)).data.toList = (s.data.toList.drop n).take 4 := by rw [Lib.extract_data]; simp
      rw [ht0] at hc
      have hb := refCrcBytes_any (crcMore 0 (s.data.toList.take n))
      generalize crcMore 0 (s.data.toList.take n) = c at *
      have HC := Lib.hid hc; clear hc
      have HB := Lib.hid hb; clear hb
      have e4 : IntKind.i64.wrap ((n : Int) + 4) = (n : Int) + 4 := IntWalk.i64_in _ (by omega)
      have e5 : ((n : Int) + 4).toNat = n + 4 := by omega
      have g1 : (n : Int) ≤ (s.size : Int) := by omega
      have g2 : (n : Int) + 4 ≤ (s.size : Int) := by omega
      have g3 : n ≤ s.size := by omega
      have g4 : (n : Int) ≤ (n : Int) + 4 := by omega
      have g6 : (0 : Int) ≤ (n : Int) := by omega
      have g7 : (0 : Int) ≤ (n : Int) + 4 := by omega
      have g8 : n + 4 ≤ s.size := by omega
      by_cases hq : crcBytes c = (s.data.toList.drop n).take 4
      · rw [if_neg (by simpa using hq)] at hF
        have hq' : s.extract n (n + 4) = ⟨(crcBytes c).toArray⟩ := by
          apply ByteArray.ext; apply Array.toList_inj.1; rw [ht4]; exact hq.symm
        rw [hF]
        clear hF hl hp hq ht0 ht4
        go_enter Tryz.func45, Tryz.ntmps45
        go_wp2_with fail
        refine (HT.out _).mono ?_
        rintro e w' ⟨rfl, rfl⟩
        go_wp2_with fail
        go_region_held3 (fun w' => True) (trivial) (first | (go_at_call 59; refine (HC.out _).mono ?_; rintro e w' ⟨rfl, rfl⟩) | (go_at_call 58; refine (HB.out _).mono ?_; rintro e w4 ⟨rfl, b4⟩))
        replace b4 := below_drew0 b4
        go_wp2
        go_ret3
        exact ⟨rfl, b4⟩
      · rw [if_pos (by simpa using hq)] at hF
        have hq' : ((⟨(crcBytes c).toArray⟩ : ByteArray).toList == (s.extract n (n + 4)).toList) = false := by
          rw [beq_eq_false_iff_ne, ByteArray.toList_eq, ByteArray.toList_eq, ht4]
          exact hq
        have hq2 : ((s.extract n (n + 4)).toList == (⟨(crcBytes c).toArray⟩ : ByteArray).toList) = false := by
          rw [beq_eq_false_iff_ne]
          exact fun h => beq_eq_false_iff_ne.1 hq' h.symm
        rw [hF]
        clear hF hl hp hq ht0 ht4
        generalize (⟨(crcBytes c).toArray⟩ : ByteArray) = C at *
        go_enter Tryz.func45, Tryz.ntmps45
        go_wp2_with fail
        refine (HT.out _).mono ?_
        rintro e w' ⟨rfl, rfl⟩
        go_wp2_with fail
        go_region_held3 (fun w' => True) (trivial) (first | (go_at_call 59; refine (HC.out _).mono ?_; rintro e w' ⟨rfl, rfl⟩) | (go_at_call 58; refine (HB.out _).mono ?_; rintro e w4 ⟨rfl, b4⟩))
        replace b4 := below_drew0 b4
        go_wp2
        go_ret3
        exact ⟨rfl, b4⟩
  · rw [if_pos he] at hF
    rw [hF]
    clear hF hp
    have he' : ((e : Int) != 0) = true := by simp; omega
    go_enter Tryz.func45, Tryz.ntmps45
    go_wp2_with fail
    refine (HT.out _).mono ?_
    rintro e w' ⟨rfl, rfl⟩
    go_wp2
    go_ret3
    exact ⟨rfl, Below.refl _ _⟩
end Go.Proofs.YtfpofcfoeajkiaaGreat
/- Plain: sums of 32 bytes, as functions on words. No program in sight. -/
namespace Go.Proofs.YtfpofcfoeajkiaaGreat
def uX (a b : UInt32) : UInt32 := a ^^^ b
def uA (a b : UInt32) : UInt32 := a + b
def uO (a b : UInt32) : UInt32 := a ||| b
def uN (a b : UInt32) : UInt32 := a &&& b
def uR (x : UInt32) (n : Nat) : UInt32 := x >>> UInt32.ofNat n
def uL (x : UInt32) (n : Nat) : UInt32 := x <<< UInt32.ofNat n
def uC (x : UInt32) : UInt32 := ~~~ x
def rotr (x : UInt32) (n : Nat) : UInt32 := uO (uR x n) (uL x (32 - n))
def sg0 (x : UInt32) : UInt32 := uX (uX (rotr x 7) (rotr x 18)) (uR x 3)
def sg1 (x : UInt32) : UInt32 := uX (uX (rotr x 17) (rotr x 19)) (uR x 10)
def shaKs : List UInt32 := [0x428a2f98, 0x71374491, 0xb5c0fbcf, 0xe9b5dba5, 0x3956c25b, 0x59f111f1, 0x923f82a4, 0xab1c5ed5,
  0xd807aa98, 0x12835b01, 0x243185be, 0x550c7dc3, 0x72be5d74, 0x80deb1fe, 0x9bdc06a7, 0xc19bf174,
  0xe49b69c1, 0xefbe4786, 0x0fc19dc6, 0x240ca1cc, 0x2de92c6f, 0x4a7484aa, 0x5cb0a9dc, 0x76f988da,
  0x983e5152, 0xa831c66d, 0xb00327c8, 0xbf597fc7, 0xc6e00bf3, 0xd5a79147, 0x06ca6351, 0x14292967,
  0x27b70a85, 0x2e1b2138, 0x4d2c6dfc, 0x53380d13, 0x650a7354, 0x766a0abb, 0x81c2c92e, 0x92722c85,
  0xa2bfe8a1, 0xa81a664b, 0xc24b8b70, 0xc76c51a3, 0xd192e819, 0xd6990624, 0xf40e3585, 0x106aa070,
  0x19a4c116, 0x1e376c08, 0x2748774c, 0x34b0bcb5, 0x391c0cb3, 0x4ed8aa4a, 0x5b9cca4f, 0x682e6ff3,
  0x748f82ee, 0x78a5636f, 0x84c87814, 0x8cc70208, 0x90befffa, 0xa4506ceb, 0xbef9a3f7, 0xc67178f2]
def shaK (i : Nat) : UInt32 := shaKs.getD i 0
/-- a word of a block's bytes -/
def byteAt (b : List UInt8) (i : Nat) : UInt32 := (b.getD i 0).toUInt32
def be4 (b : List UInt8) (j : Nat) : UInt32 := uO (uO (uO (uL (byteAt b (4 * j)) 24) (uL (byteAt b (4 * j + 1)) 16)) (uL (byteAt b (4 * j + 2)) 8)) (byteAt b (4 * j + 3))
/-- a block's words -/
def wAt (b : List UInt8) (i : Nat) : UInt32 :=
  if h : i < 16 then be4 b i else uA (uA (uA (wAt b (i - 16)) (sg0 (wAt b (i - 15)))) (wAt b (i - 7))) (sg1 (wAt b (i - 2)))
termination_by i
theorem wAt_lo (b : List UInt8) (i : Nat) (h : i < 16) : wAt b i = be4 b i := by rw [wAt, dif_pos h]
theorem wAt_hi (b : List UInt8) (i : Nat) (h : 16 ≤ i) : wAt b i = uA (uA (uA (wAt b (i - 16)) (sg0 (wAt b (i - 15)))) (wAt b (i - 7))) (sg1 (wAt b (i - 2))) := by
  rw [wAt, dif_neg (by omega)]
structure V8 where
  a : UInt32
  b : UInt32
  c : UInt32
  d : UInt32
  e : UInt32
  f : UInt32
  g : UInt32
  h : UInt32
def ch (e f g : UInt32) : UInt32 := uX (uN e f) (uN (uC e) g)
def maj (a b c : UInt32) : UInt32 := uX (uX (uN a b) (uN a c)) (uN b c)
def big1 (e : UInt32) : UInt32 := uX (uX (rotr e 6) (rotr e 11)) (rotr e 25)
def big0 (a : UInt32) : UInt32 := uX (uX (rotr a 2) (rotr a 13)) (rotr a 22)
def tOf (v : V8) (k w : UInt32) : UInt32 := uA (uA (uA (uA v.h (big1 v.e)) (ch v.e v.f v.g)) k) w
def step8 (v : V8) (k w : UInt32) : V8 := ⟨uA (uA (tOf v k w) (big0 v.a)) (maj v.a v.b v.c), v.a, v.b, v.c, uA v.d (tOf v k w), v.e, v.f, v.g⟩
def rounds8 (v : V8) (b : List UInt8) : Nat → V8
  | 0 => v
  | n + 1 => step8 (rounds8 v b n) (shaK n) (wAt b n)
def getV (v : V8) : Nat → UInt32
  | 0 => v.a
  | 1 => v.b
  | 2 => v.c
  | 3 => v.d
  | 4 => v.e
  | 5 => v.f
  | 6 => v.g
  | _ => v.h
def ofF (f : Nat → UInt32) : V8 := ⟨f 0, f 1, f 2, f 3, f 4, f 5, f 6, f 7⟩
/-- a sum behind a block: words by their places -/
def blockF (f : Nat → UInt32) (b : List UInt8) (i : Nat) : UInt32 := uA (f i) (getV (rounds8 (ofF f) b 64) i)
def shaFirst : List UInt32 := [0x6a09e667, 0xbb67ae85, 0x3c6ef372, 0xa54ff53a, 0x510e527f, 0x9b05688c, 0x1f83d9ab, 0x5be0cd19]
-- the program's ways
theorem bit_ch (e f g : UInt32) : uX g (uN e (uX f g)) = ch e f g := by
  unfold ch uX uN uC
  apply UInt32.toBitVec_inj.1
  simp only [UInt32.toBitVec_xor, UInt32.toBitVec_and, UInt32.toBitVec_not]
  apply BitVec.eq_of_getLsbD_eq
  intro i hi
  simp only [BitVec.getLsbD_xor, BitVec.getLsbD_and, BitVec.getLsbD_not, hi, decide_true, Bool.true_and]
  cases e.toBitVec.getLsbD i <;> cases f.toBitVec.getLsbD i <;> cases g.toBitVec.getLsbD i <;> rfl
theorem bit_maj (a b c : UInt32) : uO (uN a b) (uN c (uO a b)) = maj a b c := by
  unfold maj uX uN uO
  apply UInt32.toBitVec_inj.1
  simp only [UInt32.toBitVec_xor, UInt32.toBitVec_and, UInt32.toBitVec_or]
  apply BitVec.eq_of_getLsbD_eq
  intro i hi
  simp only [BitVec.getLsbD_xor, BitVec.getLsbD_and, BitVec.getLsbD_or]
  cases a.toBitVec.getLsbD i <;> cases b.toBitVec.getLsbD i <;> cases c.toBitVec.getLsbD i <;> rfl
theorem uA_assoc (a b c : UInt32) : uA (uA a b) c = uA a (uA b c) := UInt32.add_assoc a b c
theorem uA_comm (a b : UInt32) : uA a b = uA b a := UInt32.add_comm a b
end Go.Proofs.YtfpofcfoeajkiaaGreat
