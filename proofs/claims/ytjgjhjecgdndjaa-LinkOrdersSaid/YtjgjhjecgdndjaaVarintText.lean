/- Texts with their length: their walks. -/
import Derived.Test.YtjgjhjecgdndjaaVarintTake
import Derived.Test.YtjgjhjecgdndjaaVarintRefTake
import Derived.Test.YtjgjhjecgdndjaaVarintPut
import Derived.Lib.Strings
namespace Go.Proofs.Ytjgjhjecgdndjaa
open Go.RowKit
set_option linter.unusedVariables false
/-- a text with its length -/
def vPutText (s : List UInt8) : List UInt8 := if 65536 < s.length then [] else vPut s.length ++ s
/-- the text that bytes begin with -/
def vTakeText (s : List UInt8) : List UInt8 × Nat × Nat :=
  if (vTake s).2.2 ≠ 0 then ([], 0, (vTake s).2.2)
  else if 65536 < (vTake s).1 then ([], 0, 4)
  else if s.length - (vTake s).2.1 < (vTake s).1 then ([], 0, 1)
  else ((s.drop (vTake s).2.1).take (vTake s).1, (vTake s).2.1 + (vTake s).1, 0)
theorem vGo_le (s : List UInt8) : ∀ q, (vGo q s).2.2 = 0 → (vGo q s).2.1 ≤ q.length + s.length ∧ (vGo q s).2.1 ≥ 1 := by
  induction s with
  | nil => intro q h; simp [vGo] at h
  | cons c s ih =>
    intro q h
    rw [vGo] at h ⊢
    split at h
    · rename_i he
      rw [if_pos he]
      unfold vOut at h ⊢
      split at h
      · simp at h
      · split at h
        · simp at h
        · rename_i h1 h2; rw [if_neg h1, if_neg h2]; simp
    · rename_i he
      rw [if_neg he]
      have := ih _ h
      simp at this ⊢
      omega
theorem vTake_le (s : List UInt8) (h : (vTake s).2.2 = 0) : (vTake s).2.1 ≤ s.length ∧ 1 ≤ (vTake s).2.1 := by
  have := vGo_le s [] h
  simpa [vTake] using this
theorem vGo_lt (s : List UInt8) : ∀ q, q.length ≤ 9 → vHigh q → (vGo q s).1 < 18446744073709551616 ∧ (vGo q s).2.2 ≤ 4 := by
  induction s with
  | nil => intro q _ _; simp [vGo]
  | cons c s ih =>
    intro q hq hh
    rw [vGo]
    split
    · rename_i he
      unfold vOut
      split
      · simp
      · split
        · simp
        · rename_i h1 h2
          refine ⟨?_, by simp⟩
          exact (vAddShl q c hq (fun h => by unfold vEnds at he; omega)).2.1
    · rename_i he
      unfold vEnds at he
      exact ih _ (by simp; omega) (vHigh_snoc hh (by omega))
theorem vTake_lt (s : List UInt8) : (vTake s).1 < 18446744073709551616 ∧ (vTake s).2.2 ≤ 4 := vGo_lt s [] (by simp) (by intro x hx; simp at hx)
theorem extract_list (s : ByteArray) (a n : Nat) : s.extract a (a + n) = ⟨((s.data.toList.drop a).take n).toArray⟩ := by
  apply ByteArray.ext
  apply Array.toList_inj.1
  rw [Lib.extract_data]
  simp
theorem ret3s {a a' : ByteArray} {b b' c c' : Int} (h1 : a = a') (h2 : b = b') (h3 : c = c') : Ending.returned (.tuple #[.string a, .int .i64 b, .int .i64 c]) = Ending.returned (.tuple #[.string a', .int .i64 b', .int .i64 c']) := by rw [h1, h2, h3]
set_option maxHeartbeats 400000 in
theorem putText_any (s : ByteArray) (hs : s.size ≤ 140737488351232) (w : World) :
    Calls Try.prog 46 #[.string s] w fun e w' => e = .returned (.string ⟨(vPutText s.data.toList).toArray⟩) ∧ Below w.heap.size w w' := by
  have hl : s.data.toList.length = s.size := by simp
  by_cases h : 65536 < s.size
  · have hv : vPutText s.data.toList = [] := by unfold vPutText; rw [if_pos (by omega)]
    rw [hv]
    clear hv hl
    go_enter Try.func46, Try.ntmps46
    go_wp2
    go_ret
    exact ⟨rfl, Below.refl _ _⟩
  · have hv : (⟨(vPutText s.data.toList).toArray⟩ : ByteArray) = ⟨(vPut s.size).toArray⟩ ++ s := by
      unfold vPutText; rw [if_neg (by omega), hl]
      apply ByteArray.ext
      simp
    rw [hv]
    clear hl hv
    have hp := fun w => put_any s.size (by omega) w
    have h10 : (⟨(vPut s.size).toArray⟩ : ByteArray).size ≤ 10 := vPut_len10 s.size (by omega)
    generalize (⟨(vPut s.size).toArray⟩ : ByteArray) = p at *
    have HP := Lib.hid hp; clear hp
    go_enter Try.func46, Try.ntmps46
    go_wp2_with fail
    refine (HP.out _).mono ?_
    rintro e w1 ⟨rfl, b1⟩
    go_wp2
    go_ret
    exact ⟨rfl, b1⟩
set_option maxHeartbeats 400000 in
theorem takeText_any (s : ByteArray) (hs : s.size ≤ 140737488351232) (w : World) :
    Calls Try.prog 38 #[.string s] w fun e w' => e = .returned (.tuple #[.string ⟨(vTakeText s.data.toList).1.toArray⟩, .int .i64 ((vTakeText s.data.toList).2.1 : Nat), .int .i64 ((vTakeText s.data.toList).2.2 : Nat)]) ∧ Below w.heap.size w w' := by
  have hl : s.data.toList.length = s.size := by simp
  have ht := fun w => take_any s (by unfold maxLen; omega) w
  have hle := vTake_le s.data.toList
  have hlt := vTake_lt s.data.toList
  have hv : vTakeText s.data.toList = vTakeText s.data.toList := rfl
  conv at hv => rhs; unfold vTakeText
  generalize vTake s.data.toList = r at *
  obtain ⟨n, k, e⟩ := r
  dsimp only at *
  have HT := Lib.hid ht; clear ht
  by_cases he : e = 0
  · subst he
    obtain ⟨hk, hk1⟩ := hle rfl
    rw [if_neg (by simp)] at hv
    by_cases hn : 65536 < n
    · rw [if_pos hn] at hv
      rw [hv]
      clear hv hlt
      go_enter Try.func38, Try.ntmps38
      go_wp2_with fail
      refine (HT.out _).mono ?_
      rintro e w1 ⟨rfl, b1⟩
      go_wp2
      go_ret3
      exact ⟨rfl, b1⟩
    · rw [if_neg hn] at hv
      rw [hl] at hv hk
      by_cases hs2 : s.size - k < n
      · rw [if_pos hs2] at hv
        rw [hv]
        clear hv hlt hl
        have hs3 : (s.size : Int) - (k : Int) < (n : Int) := by omega
        have hs4 : (0 : Int) ≤ (s.size : Int) - (k : Int) := by omega
        go_enter Try.func38, Try.ntmps38
        go_wp2_with fail
        refine (HT.out _).mono ?_
        rintro e w1 ⟨rfl, b1⟩
        go_wp2
        go_ret3
        exact ⟨rfl, b1⟩
      · rw [if_neg hs2] at hv
        have HV := Lib.hid hv; clear hv hlt hl
        have hs3 : (n : Int) ≤ (s.size : Int) - (k : Int) := by omega
        have hs4 : (0 : Int) ≤ (s.size : Int) - (k : Int) := by omega
        go_enter Try.func38, Try.ntmps38
        go_wp2_with fail
        refine (HT.out _).mono ?_
        rintro e w1 ⟨rfl, b1⟩
        go_wp2
        go_ret3
        exact ⟨ret3s (by rw [HV.out]; exact extract_list s k n) (by rw [HV.out]; rfl) (by rw [HV.out]; rfl), b1⟩
  · rw [if_pos he] at hv
    rw [hv]
    clear hle hv
    have he' : ((e : Int) != 0) = true := by simp; omega
    go_enter Try.func38, Try.ntmps38
    go_wp2_with fail
    refine (HT.out _).mono ?_
    rintro e w1 ⟨rfl, b1⟩
    go_wp2
    go_ret3
    exact ⟨rfl, b1⟩
set_option maxHeartbeats 400000 in
theorem refPutText_any (s : ByteArray) (hs : s.size ≤ 140737488351232) (w : World) :
    Calls Try.prog 49 #[.string s] w fun e w' => e = .returned (.string ⟨(vPutText s.data.toList).toArray⟩) ∧ Below w.heap.size w w' := by
  have hl : s.data.toList.length = s.size := by simp
  by_cases h : 65536 < s.size
  · have hv : vPutText s.data.toList = [] := by unfold vPutText; rw [if_pos (by omega)]
    rw [hv]
    clear hv hl
    go_enter Try.func49, Try.ntmps49
    go_wp2
    go_ret
    exact ⟨rfl, Below.refl _ _⟩
  · have hv : (⟨(vPutText s.data.toList).toArray⟩ : ByteArray) = ⟨(vPut s.size).toArray⟩ ++ s := by
      unfold vPutText; rw [if_neg (by omega), hl]
      apply ByteArray.ext
      simp
    rw [hv]
    clear hl hv
    have hp := fun w => refPut_any s.size (by omega) w
    have h10 : (⟨(vPut s.size).toArray⟩ : ByteArray).size ≤ 10 := vPut_len10 s.size (by omega)
    generalize (⟨(vPut s.size).toArray⟩ : ByteArray) = p at *
    have HP := Lib.hid hp; clear hp
    go_enter Try.func49, Try.ntmps49
    go_wp2_with fail
    refine (HP.out _).mono ?_
    rintro e w1 ⟨rfl, b1⟩
    go_wp2
    go_ret
    exact ⟨rfl, b1⟩
set_option maxHeartbeats 400000 in
theorem refTakeText_any (s : ByteArray) (hs : s.size ≤ 140737488351232) (w : World) :
    Calls Try.prog 42 #[.string s] w fun e w' => e = .returned (.tuple #[.string ⟨(vTakeText s.data.toList).1.toArray⟩, .int .i64 ((vTakeText s.data.toList).2.1 : Nat), .int .i64 ((vTakeText s.data.toList).2.2 : Nat)]) ∧ w = w' := by
  have hl : s.data.toList.length = s.size := by simp
  have ht := fun w => refTake_any s (by unfold maxLen; omega) w
  have hle := vTake_le s.data.toList
  have hlt := vTake_lt s.data.toList
  have hv : vTakeText s.data.toList = vTakeText s.data.toList := rfl
  conv at hv => rhs; unfold vTakeText
  generalize vTake s.data.toList = r at *
  obtain ⟨n, k, e⟩ := r
  dsimp only at *
  have HT := Lib.hid ht; clear ht
  by_cases he : e = 0
  · subst he
    obtain ⟨hk, hk1⟩ := hle rfl
    rw [if_neg (by simp)] at hv
    by_cases hn : 65536 < n
    · rw [if_pos hn] at hv
      rw [hv]
      clear hv hlt
      go_enter Try.func42, Try.ntmps42
      go_wp2_with fail
      refine (HT.out _).mono ?_
      rintro e w1 ⟨rfl, rfl⟩
      go_wp2
      go_ret3
      exact ⟨rfl, rfl⟩
    · rw [if_neg hn] at hv
      rw [hl] at hv hk
      by_cases hs2 : s.size - k < n
      · rw [if_pos hs2] at hv
        rw [hv]
        clear hv hlt hl
        have hs3 : (s.size : Int) - (k : Int) < (n : Int) := by omega
        have hs4 : (0 : Int) ≤ (s.size : Int) - (k : Int) := by omega
        go_enter Try.func42, Try.ntmps42
        go_wp2_with fail
        refine (HT.out _).mono ?_
        rintro e w1 ⟨rfl, rfl⟩
        go_wp2
        go_ret3
        exact ⟨rfl, rfl⟩
      · rw [if_neg hs2] at hv
        have HV := Lib.hid hv; clear hv hlt hl
        have hs3 : (n : Int) ≤ (s.size : Int) - (k : Int) := by omega
        have hs4 : (0 : Int) ≤ (s.size : Int) - (k : Int) := by omega
        go_enter Try.func42, Try.ntmps42
        go_wp2_with fail
        refine (HT.out _).mono ?_
        rintro e w1 ⟨rfl, rfl⟩
        go_wp2
        go_ret3
        exact ⟨ret3s (by rw [HV.out]; exact extract_list s k n) (by rw [HV.out]; rfl) (by rw [HV.out]; rfl), rfl⟩
  · rw [if_pos he] at hv
    rw [hv]
    clear hle hv
    have he' : ((e : Int) != 0) = true := by simp; omega
    go_enter Try.func42, Try.ntmps42
    go_wp2_with fail
    refine (HT.out _).mono ?_
    rintro e w1 ⟨rfl, rfl⟩
    go_wp2
    go_ret3
    exact ⟨rfl, rfl⟩
end Go.Proofs.Ytjgjhjecgdndjaa
