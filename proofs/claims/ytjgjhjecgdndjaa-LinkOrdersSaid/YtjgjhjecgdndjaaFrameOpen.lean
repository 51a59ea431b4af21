/- Frames: what they are; their walks: Wrap, Open, and the document's. -/
import Derived.Test.YtjgjhjecgdndjaaCrcWalk
import Derived.Test.YtjgjhjecgdndjaaVarintText
import Derived.Test.YtjgjhjecgdndjaaVarintLaws
import Derived.Deep.RegionHeld3
import Derived.IntWalk
namespace Go.Proofs.Ytjgjhjecgdndjaa
open Go.RowKit
set_option linter.unusedVariables false
/-- a text as a frame -/
def fWrap (s : List UInt8) : List UInt8 := if vPutText s = [] then [] else vPutText s ++ crcBytes (crcMore 0 (vPutText s))
/-- the text of the frame that bytes begin with -/
def fOpen (s : List UInt8) : List UInt8 × Nat × Nat :=
  if (vTakeText s).2.2 ≠ 0 then ([], 0, (vTakeText s).2.2)
  else if s.length < (vTakeText s).2.1 + 4 then ([], 0, 1)
  else if crcBytes (crcMore 0 (s.take (vTakeText s).2.1)) ≠ (s.drop (vTakeText s).2.1).take 4 then ([], 0, 3)
  else ((vTakeText s).1, (vTakeText s).2.1 + 4, 0)
theorem bytes_ne {a b : List UInt8} (h : a ≠ b) : (a == b) = false := by simpa using h
theorem crcBytes_len (c : UInt32) : (crcBytes c).length = 4 := rfl
set_option maxHeartbeats 400000 in
theorem wrap_any (s : ByteArray) (hs : s.size ≤ 140737488351232) (w : World) :
    Calls Try.prog 25 #[.string s] w fun e w' => e = .returned (.string ⟨(fWrap s.data.toList).toArray⟩) ∧ Below w.heap.size w w' := by
  have hp := fun w => putText_any s hs w
  have hl : (vPutText s.data.toList).length ≤ 70000 := by
    unfold vPutText
    split
    · simp
    · rename_i h
      have := vPut_len10 s.data.toList.length (by omega)
      rw [List.length_append]; omega
  have hF : fWrap s.data.toList = if vPutText s.data.toList = [] then [] else vPutText s.data.toList ++ crcBytes (crcMore 0 (vPutText s.data.toList)) := rfl
  generalize vPutText s.data.toList = t at *
  by_cases ht : t = []
  · subst ht
    rw [if_pos rfl] at hF
    rw [hF]
    have HP := Lib.hid hp; clear hp hF
    go_enter Try.func25, Try.ntmps25
    go_wp2_with fail
    refine (HP.out _).mono ?_
    rintro e w1 ⟨rfl, b1⟩
    go_wp2
    go_ret
    exact ⟨rfl, b1⟩
  · rw [if_neg ht] at hF
    have hc := fun w => crcSum_any ⟨t.toArray⟩ w (by show t.length ≤ _; unfold maxLen; omega)
    have hb := crcBytes_any (crcMore 0 t)
    have hv : (⟨(fWrap s.data.toList).toArray⟩ : ByteArray) = ⟨t.toArray⟩ ++ ⟨(crcBytes (crcMore 0 t)).toArray⟩ := by
      rw [hF]; apply ByteArray.ext; simp
    rw [hv]
    clear hv hF
    dsimp only at hc
    have hsz : (⟨t.toArray⟩ : ByteArray).size ≤ 70000 := hl
    have hsc : (⟨(crcBytes (crcMore 0 t)).toArray⟩ : ByteArray).size ≤ 4 := Nat.le_refl _
    have h0 : (⟨t.toArray⟩ : ByteArray).toList.isEmpty = false := by
      rw [List.isEmpty_eq_false_iff]
      intro h
      apply ht
      simpa using h
    generalize (⟨(crcBytes (crcMore 0 t)).toArray⟩ : ByteArray) = C at *
    generalize crcMore 0 t = c at *
    generalize (⟨t.toArray⟩ : ByteArray) = T at *
    have HP := Lib.hid hp; clear hp
    have HC := Lib.hid hc; clear hc
    have HB := Lib.hid hb; clear hb ht hl
    go_enter Try.func25, Try.ntmps25
    go_wp2_with fail
    refine (HP.out _).mono ?_
    rintro e w1 ⟨rfl, b1⟩
    go_wp2_with fail
    refine (HC.out _).mono ?_
    rintro e w' ⟨rfl, rfl⟩
    go_wp2_with fail
    refine (HB.out _).mono ?_
    rintro e w2 ⟨rfl, b2⟩
    go_wp2
    go_ret
    exact ⟨rfl, b1.trans (b2.mono b1.size)⟩
theorem below_drew0 {a b : World} (h : Below a.drew.heap.size a.drew b) : Below a.heap.size a b := (Below.refl a.heap.size a).drew.trans h
theorem vTakeText_pos (s : List UInt8) (h : (vTakeText s).2.2 = 0) : 1 ≤ (vTakeText s).2.1 ∧ (vTakeText s).2.1 ≤ s.length := by
  revert h
  unfold vTakeText
  split
  · intro h; rename_i h'; exact absurd h h'
  · rename_i h0
    have := vTake_le s (by omega)
    split
    · intro h; exact absurd h (by simp)
    · split
      · intro h; exact absurd h (by simp)
      · intro _; dsimp only; omega
set_option maxHeartbeats 1000000 in
theorem open_any (s : ByteArray) (hs : s.size ≤ 140737488351232) (w : World) :
    Calls Try.prog 19 #[.string s] w fun e w' => e = .returned (.tuple #[.string ⟨(fOpen s.data.toList).1.toArray⟩, .int .i64 ((fOpen s.data.toList).2.1 : Nat), .int .i64 ((fOpen s.data.toList).2.2 : Nat)]) ∧ Below w.heap.size w w' := by
  have ht := fun w => takeText_any s hs w
  have hp := vTakeText_pos s.data.toList
  have hl : s.data.toList.length = s.size := by simp
  have hF : fOpen s.data.toList = fOpen s.data.toList := rfl
  conv at hF => rhs; unfold fOpen
  generalize vTakeText s.data.toList = r at *
  obtain ⟨t, n, e⟩ := r
  dsimp only at *
  have HT := Lib.hid ht; clear ht
  by_cases he : e = 0
  · subst he
    obtain ⟨hn, hn2⟩ := hp rfl
    rw [if_neg (by simp)] at hF
    rw [hl] at hF hn2
    by_cases h4 : s.size < n + 4
    · rw [if_pos h4] at hF
      rw [hF]
      clear hF hl hp
      go_enter Try.func19, Try.ntmps19
      go_wp2_with fail
      refine (HT.out _).mono ?_
      rintro e w1 ⟨rfl, b1⟩
      go_wp2
      go_ret3
      exact ⟨rfl, b1⟩
    · rw [if_neg h4] at hF
      have hc := fun w => crcSum_any (s.extract 0 n) w (by simp; unfold maxLen; omega)
      have ht0 : (s.extract 0 n).data.toList = s.data.toList.take n := by rw [Lib.extract_data]; simp
      have ht4 : (s.extract n (n + 4)).data.toList = (s.data.toList.drop n).take 4 := by rw [Lib.extract_data]; simp
      rw [ht0] at hc
      have hb := crcBytes_any (crcMore 0 (s.data.toList.take n))
      generalize crcMore 0 (s.data.toList.take n) = c at *
      have HC := Lib.hid hc; clear hc
      have HB := Lib.hid hb; clear hb
      have e4 : IntKind.i64.wrap ((n : Int) + 4) = (n : Int) + 4 := IntWalk.i64_in _ (by omega)
      have e5 : ((n : Int) + 4).toNat = n + 4 := by omega
      have g1 : (n : Int) ≤ (s.size : Int) := by omega
      have g2 : (n : Int) + 4 ≤ (s.size : Int) := by omega
      have g3 : n ≤ s.size := by omega
      have g4 : (n : Int) ≤ (n : Int) + 4 := by omega
      have g6 : (0 : Int) ≤ (n : Int) := by omega
      have g7 : (0 : Int) ≤ (n : Int) + 4 := by omega
      have g8 : n + 4 ≤ s.size := by omega
      by_cases hq : crcBytes c = (s.data.toList.drop n).take 4
      · rw [if_neg (by simpa using hq)] at hF
        have hq' : s.extract n (n + 4) = ⟨(crcBytes c).toArray⟩ := by
          apply ByteArray.ext; apply Array.toList_inj.1; rw [ht4]; exact hq.symm
        rw [hF]
        clear hF hl hp hq ht0 ht4
        go_enter Try.func19, Try.ntmps19
        go_wp2_with fail
        refine (HT.out _).mono ?_
        rintro e w1 ⟨rfl, b1⟩
        go_wp2_with fail
        go_region_held3 (fun w' => True) (trivial) (first | (go_at_call 40; refine (HC.out _).mono ?_; rintro e w' ⟨rfl, rfl⟩) | (go_at_call 39; refine (HB.out _).mono ?_; rintro e w4 ⟨rfl, b4⟩))
        replace b4 := below_drew0 b4
        go_wp2
        go_ret3
        exact ⟨rfl, b1.trans (b4.mono b1.size)⟩
      · rw [if_pos (by simpa using hq)] at hF
        have hq' : ((⟨(crcBytes c).toArray⟩ : ByteArray).toList == (s.extract n (n + 4)).toList) = false := by
          rw [beq_eq_false_iff_ne, ByteArray.toList_eq, ByteArray.toList_eq, ht4]
          exact hq
        have hq2 : ((s.extract n (n + 4)).toList == (⟨(crcBytes c).toArray⟩ : ByteArray).toList) = false := by
          rw [beq_eq_false_iff_ne]
          exact fun h => beq_eq_false_iff_ne.1 hq' h.symm
        rw [hF]
        clear hF hl hp hq ht0 ht4
        generalize (⟨(crcBytes c).toArray⟩ : ByteArray) = C at *
        go_enter Try.func19, Try.ntmps19
        go_wp2_with fail
        refine (HT.out _).mono ?_
        rintro e w1 ⟨rfl, b1⟩
        go_wp2_with fail
        go_region_held3 (fun w' => True) (trivial) (first | (go_at_call 40; refine (HC.out _).mono ?_; rintro e w' ⟨rfl, rfl⟩) | (go_at_call 39; refine (HB.out _).mono ?_; rintro e w4 ⟨rfl, b4⟩))
        replace b4 := below_drew0 b4
        go_wp2
        go_ret3
        exact ⟨rfl, b1.trans (b4.mono b1.size)⟩
  · rw [if_pos he] at hF
    rw [hF]
    clear hF hp
    have he' : ((e : Int) != 0) = true := by simp; omega
    go_enter Try.func19, Try.ntmps19
    go_wp2_with fail
    refine (HT.out _).mono ?_
    rintro e w1 ⟨rfl, b1⟩
    go_wp2
    go_ret3
    exact ⟨rfl, b1⟩
set_option maxHeartbeats 400000 in
theorem refWrap_any (s : ByteArray) (hs : s.size ≤ 140737488351232) (w : World) :
    Calls Try.prog 27 #[.string s] w fun e w' => e = .returned (.string ⟨(fWrap s.data.toList).toArray⟩) ∧ Below w.heap.size w w' := by
  have hp := fun w => refPutText_any s hs w
  have hl : (vPutText s.data.toList).length ≤ 70000 := by
    unfold vPutText
    split
    · simp
    · rename_i h
      have := vPut_len10 s.data.toList.length (by omega)
      rw [List.length_append]; omega
  have hF : fWrap s.data.toList = if vPutText s.data.toList = [] then [] else vPutText s.data.toList ++ crcBytes (crcMore 0 (vPutText s.data.toList)) := rfl
  generalize vPutText s.data.toList = t at *
  by_cases ht : t = []
  · subst ht
    rw [if_pos rfl] at hF
    rw [hF]
    have HP := Lib.hid hp; clear hp hF
    go_enter Try.func27, Try.ntmps27
    go_wp2_with fail
    refine (HP.out _).mono ?_
    rintro e w1 ⟨rfl, b1⟩
    go_wp2
    go_ret
    exact ⟨rfl, b1⟩
  · rw [if_neg ht] at hF
    have hc := fun w => refCrcSum_any ⟨t.toArray⟩ w (by show t.length ≤ _; unfold maxLen; omega)
    have hb := refCrcBytes_any (crcMore 0 t)
    have hv : (⟨(fWrap s.data.toList).toArray⟩ : ByteArray) = ⟨t.toArray⟩ ++ ⟨(crcBytes (crcMore 0 t)).toArray⟩ := by
      rw [hF]; apply ByteArray.ext; simp
    rw [hv]
    clear hv hF
    dsimp only at hc
    have hsz : (⟨t.toArray⟩ : ByteArray).size ≤ 70000 := hl
    have hsc : (⟨(crcBytes (crcMore 0 t)).toArray⟩ : ByteArray).size ≤ 4 := Nat.le_refl _
    have h0 : (⟨t.toArray⟩ : ByteArray).toList.isEmpty = false := by
      rw [List.isEmpty_eq_false_iff]
      intro h
      apply ht
      simpa using h
    generalize (⟨(crcBytes (crcMore 0 t)).toArray⟩ : ByteArray) = C at *
    generalize crcMore 0 t = c at *
    generalize (⟨t.toArray⟩ : ByteArray) = T at *
    have HP := Lib.hid hp; clear hp
    have HC := Lib.hid hc; clear hc
    have HB := Lib.hid hb; clear hb ht hl
    go_enter Try.func27, Try.ntmps27
    go_wp2_with fail
    refine (HP.out _).mono ?_
    rintro e w1 ⟨rfl, b1⟩
    go_wp2_with fail
    refine (HC.out _).mono ?_
    rintro e w' ⟨rfl, rfl⟩
    go_wp2_with fail
    refine (HB.out _).mono ?_
    rintro e w2 ⟨rfl, b2⟩
    go_wp2
    go_ret
    exact ⟨rfl, b1.trans (b2.mono b1.size)⟩
set_option maxHeartbeats 1000000 in
theorem refOpen_any (s : ByteArray) (hs : s.size ≤ 140737488351232) (w : World) :
    Calls Try.prog 21 #[.string s] w fun e w' => e = .returned (.tuple #[.string ⟨(fOpen s.data.toList).1.toArray⟩, .int .i64 ((fOpen s.data.toList).2.1 : Nat), .int .i64 ((fOpen s.data.toList).2.2 : Nat)]) ∧ Below w.heap.size w w' := by
  have ht := fun w => refTakeText_any s hs w
  have hp := vTakeText_pos s.data.toList
  have hl : s.data.toList.length = s.size := by simp
  have hF : fOpen s.data.toList = fOpen s.data.toList := rfl
  conv at hF => rhs; unfold fOpen
  generalize vTakeText s.data.toList = r at *
  obtain ⟨t, n, e⟩ := r
  dsimp only at *
  have HT := Lib.hid ht; clear ht
  by_cases he : e = 0
  · subst he
    obtain ⟨hn, hn2⟩ := hp rfl
    rw [if_neg (by simp)] at hF
    rw [hl] at hF hn2
    by_cases h4 : s.size < n + 4
    · rw [if_pos h4] at hF
      rw [hF]
      clear hF hl hp
      go_enter Try.func21, Try.ntmps21
      go_wp2_with fail
      refine (HT.out _).mono ?_
      rintro e w' ⟨rfl, rfl⟩
      go_wp2
      go_ret3
      exact ⟨rfl, Below.refl _ _⟩
    · rw [if_neg h4] at hF
      have hc := fun w => refCrcSum_any (s.extract 0 n) w (by simp; unfold maxLen; omega)
      have ht0 : (s.extract 0 n).data.toList = s.data.toList.take n := by rw [Lib.extract_data]; simp
      have ht4 : (s.extract n (n + 4)).data.toList = (s.data.toList.drop n).take 4 := by rw [Lib.extract_data]; simp
      rw [ht0] at hc
      have hb := refCrcBytes_any (crcMore 0 (s.data.toList.take n))
      generalize crcMore 0 (s.data.toList.take n) = c at *
      have HC := Lib.hid hc; clear hc
      have HB := Lib.hid hb; clear hb
      have e4 : IntKind.i64.wrap ((n : Int) + 4) = (n : Int) + 4 := IntWalk.i64_in _ (by omega)
      have e5 : ((n : Int) + 4).toNat = n + 4 := by omega
      have g1 : (n : Int) ≤ (s.size : Int) := by omega
      have g2 : (n : Int) + 4 ≤ (s.size : Int) := by omega
      have g3 : n ≤ s.size := by omega
      have g4 : (n : Int) ≤ (n : Int) + 4 := by omega
      have g6 : (0 : Int) ≤ (n : Int) := by omega
      have g7 : (0 : Int) ≤ (n : Int) + 4 := by omega
      have g8 : n + 4 ≤ s.size := by omega
      by_cases hq : crcBytes c = (s.data.toList.drop n).take 4
      · rw [if_neg (by simpa using hq)] at hF
        have hq' : s.extract n (n + 4) = ⟨(crcBytes c).toArray⟩ := by
          apply ByteArray.ext; apply Array.toList_inj.1; rw [ht4]; exact hq.symm
        rw [hF]
        clear hF hl hp hq ht0 ht4
        go_enter Try.func21, Try.ntmps21
        go_wp2_with fail
        refine (HT.out _).mono ?_
        rintro e w' ⟨rfl, rfl⟩
        go_wp2_with fail
        go_region_held3 (fun w' => True) (trivial) (first | (go_at_call 44; refine (HC.out _).mono ?_; rintro e w' ⟨rfl, rfl⟩) | (go_at_call 43; refine (HB.out _).mono ?_; rintro e w4 ⟨rfl, b4⟩))
        replace b4 := below_drew0 b4
        go_wp2
        go_ret3
        exact ⟨rfl, b4⟩
      · rw [if_pos (by simpa using hq)] at hF
        have hq' : ((⟨(crcBytes c).toArray⟩ : ByteArray).toList == (s.extract n (n + 4)).toList) = false := by
          rw [beq_eq_false_iff_ne, ByteArray.toList_eq, ByteArray.toList_eq, ht4]
          exact hq
        have hq2 : ((s.extract n (n + 4)).toList == (⟨(crcBytes c).toArray⟩ : ByteArray).toList) = false := by
          rw [beq_eq_false_iff_ne]
          exact fun h => beq_eq_false_iff_ne.1 hq' h.symm
        rw [hF]
        clear hF hl hp hq ht0 ht4
        generalize (⟨(crcBytes c).toArray⟩ : ByteArray) = C at *
        go_enter Try.func21, Try.ntmps21
        go_wp2_with fail
        refine (HT.out _).mono ?_
        rintro e w' ⟨rfl, rfl⟩
        go_wp2_with fail
        go_region_held3 (fun w' => True) (trivial) (first | (go_at_call 44; refine (HC.out _).mono ?_; rintro e w' ⟨rfl, rfl⟩) | (go_at_call 43; refine (HB.out _).mono ?_; rintro e w4 ⟨rfl, b4⟩))
        replace b4 := below_drew0 b4
        go_wp2
        go_ret3
        exact ⟨rfl, b4⟩
  · rw [if_pos he] at hF
    rw [hF]
    clear hF hp
    have he' : ((e : Int) != 0) = true := by simp; omega
    go_enter Try.func21, Try.ntmps21
    go_wp2_with fail
    refine (HT.out _).mono ?_
    rintro e w' ⟨rfl, rfl⟩
    go_wp2
    go_ret3
    exact ⟨rfl, Below.refl _ _⟩
end Go.Proofs.Ytjgjhjecgdndjaa
