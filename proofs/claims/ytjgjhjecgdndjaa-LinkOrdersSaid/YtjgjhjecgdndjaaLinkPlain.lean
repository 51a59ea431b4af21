/- Frames as bytes, there and back: the plain law of chapter 23's frames. -/
import Derived.Test.YtjgjhjecgdndjaaFrameWrap
namespace Go.Proofs.Ytjgjhjecgdndjaa
open Go.RowKit
set_option linter.unusedVariables false
def lBody (ses seq ack : Nat) (data : List UInt8) : List UInt8 := vPut ses ++ vPut seq ++ vPut ack ++ data
def lFits (seq ack : Int) (d : Nat) : Bool := decide (0 ≤ seq ∧ seq ≤ 1073741824) && decide (0 ≤ ack ∧ ack ≤ 1073741824) && decide (d ≤ 60000)
def lWrite (ses : Nat) (seq ack : Int) (data : List UInt8) : List UInt8 := if lFits seq ack data.length = true then fWrap (lBody ses seq.toNat ack.toNat data) else []
abbrev LF := Nat × Nat × Nat × List UInt8
def lZero : LF := (0, 0, 0, [])
def lTake3 (t : List UInt8) : Option LF :=
  if (vTake t).2.2 ≠ 0 then none
  else if (vTake (t.drop (vTake t).2.1)).2.2 ≠ 0 then none
  else if (vTake ((t.drop (vTake t).2.1).drop (vTake (t.drop (vTake t).2.1)).2.1)).2.2 ≠ 0 then none
  else some ((vTake t).1, (vTake (t.drop (vTake t).2.1)).1, (vTake ((t.drop (vTake t).2.1).drop (vTake (t.drop (vTake t).2.1)).2.1)).1, ((t.drop (vTake t).2.1).drop (vTake (t.drop (vTake t).2.1)).2.1).drop (vTake ((t.drop (vTake t).2.1).drop (vTake (t.drop (vTake t).2.1)).2.1)).2.1)
def lRead (s : List UInt8) : LF × Nat :=
  if (fOpen s).2.2 ≠ 0 ∨ (fOpen s).2.1 < s.length then (lZero, 2)
  else match lTake3 (fOpen s).1 with
    | none => (lZero, 2)
    | some (x, y, z, d) => if 1073741824 < y ∨ 1073741824 < z ∨ 60000 < d.length then (lZero, 2) else ((x, y, z, d), 0)
theorem fOpen_back (s : List UInt8) (h : (fOpen s).2.2 = 0) : fWrap (fOpen s).1 = s.take (fOpen s).2.1 ∧ (fOpen s).2.1 ≤ s.length := by
  unfold fOpen at h ⊢
  by_cases h1 : (vTakeText s).2.2 ≠ 0
  · rw [if_pos h1] at h; exact absurd h h1
  · rw [if_neg h1] at h ⊢
    by_cases h2 : s.length < (vTakeText s).2.1 + 4
    · rw [if_pos h2] at h; cases h
    · rw [if_neg h2] at h ⊢
      by_cases h3 : crcBytes (crcMore 0 (s.take (vTakeText s).2.1)) ≠ (s.drop (vTakeText s).2.1).take 4
      · rw [if_pos h3] at h; cases h
      · rw [if_neg h3]
        have h1' : (vTakeText s).2.2 = 0 := by omega
        obtain ⟨hle, hb⟩ := vTakeText_back s h1'
        have h3' : crcBytes (crcMore 0 (s.take (vTakeText s).2.1)) = (s.drop (vTakeText s).2.1).take 4 := by
          by_cases e : crcBytes (crcMore 0 (s.take (vTakeText s).2.1)) = (s.drop (vTakeText s).2.1).take 4
          · exact e
          · exact absurd e h3
        have hpos := (vTakeText_pos s h1').1
        have hne : vPutText (vTakeText s).1 ≠ [] := by
          rw [hb]; intro e
          have := congrArg List.length e
          rw [List.length_take, List.length_nil] at this; omega
        refine ⟨?_, by show (vTakeText s).2.1 + 4 ≤ _; omega⟩
        show fWrap (vTakeText s).1 = s.take ((vTakeText s).2.1 + 4)
        unfold fWrap
        rw [if_neg hne, hb, h3', List.take_add]
theorem lTake3_back {t : List UInt8} {x y z : Nat} {d : List UInt8} (h : lTake3 t = some (x, y, z, d)) : lBody x y z d = t := by
  unfold lTake3 at h
  split at h
  · cases h
  · rename_i h1
    split at h
    · cases h
    · rename_i h2
      split at h
      · cases h
      · rename_i h3
        injection h with h
        have e1 := vTake_back t (by omega)
        have e2 := vTake_back (t.drop (vTake t).2.1) (by omega)
        have e3 := vTake_back ((t.drop (vTake t).2.1).drop (vTake (t.drop (vTake t).2.1)).2.1) (by omega)
        injection h with hx h
        injection h with hy h
        injection h with hz hd
        unfold lBody
        rw [← hx, ← hy, ← hz, ← hd, e1, e2, e3, List.append_assoc, List.take_append_drop, List.append_assoc, List.take_append_drop, List.take_append_drop]
theorem lTake3_body (ses seq ack : Nat) (h1 : ses < 18446744073709551616) (h2 : seq < 18446744073709551616) (h3 : ack < 18446744073709551616) (d : List UInt8) : lTake3 (lBody ses seq ack d) = some (ses, seq, ack, d) := by
  have e1 : lBody ses seq ack d = vPut ses ++ (vPut seq ++ (vPut ack ++ d)) := by simp [lBody]
  have t1 := vTake_put ses h1 (vPut seq ++ (vPut ack ++ d))
  have t2 := vTake_put seq h2 (vPut ack ++ d)
  have t3 := vTake_put ack h3 d
  have d1 : (vPut ses ++ (vPut seq ++ (vPut ack ++ d))).drop (vPut ses).length = vPut seq ++ (vPut ack ++ d) := by simp
  have d2 : (vPut seq ++ (vPut ack ++ d)).drop (vPut seq).length = vPut ack ++ d := by simp
  have d3 : (vPut ack ++ d).drop (vPut ack).length = d := by simp
  unfold lTake3
  rw [e1, t1]
  simp only [d1, t2, d2, t3, d3, ne_eq, not_true_eq_false, if_false]
theorem lBody_len (ses seq ack : Nat) (h1 : ses < 18446744073709551616) (h2 : seq < 18446744073709551616) (h3 : ack < 18446744073709551616) (d : List UInt8) : (lBody ses seq ack d).length ≤ d.length + 30 := by
  have e1 := vPut_len10 ses h1
  have e2 := vPut_len10 seq h2
  have e3 := vPut_len10 ack h3
  unfold lBody
  simp only [List.length_append]
  omega
theorem lRead_back (s : List UInt8) (h : (lRead s).2 = 0) : lWrite (lRead s).1.1 ((lRead s).1.2.1 : Nat) ((lRead s).1.2.2.1 : Nat) (lRead s).1.2.2.2 = s := by
  unfold lRead at h ⊢
  by_cases h1 : (fOpen s).2.2 ≠ 0 ∨ (fOpen s).2.1 < s.length
  · rw [if_pos h1] at h; cases h
  · rw [if_neg h1] at h ⊢
    obtain ⟨hb, hle⟩ := fOpen_back s (by omega)
    cases ht : lTake3 (fOpen s).1 with
    | none => rw [ht] at h; cases h
    | some f =>
      obtain ⟨x, y, z, d⟩ := f
      rw [ht] at h
      simp only at h ⊢
      by_cases h2 : 1073741824 < y ∨ 1073741824 < z ∨ 60000 < d.length
      · rw [if_pos h2] at h; cases h
      · rw [if_neg h2]
        show lWrite x (y : Nat) (z : Nat) d = s
        have hbd := lTake3_back ht
        unfold lWrite
        rw [if_pos (by unfold lFits; simp; omega), Int.toNat_natCast, Int.toNat_natCast, hbd, hb]
        exact List.take_of_length_le (by omega)
theorem lRead_write (ses : Nat) (seq ack : Int) (d : List UInt8) (h1 : ses < 18446744073709551616) (hf : lFits seq ack d.length = true) : lRead (lWrite ses seq ack d) = ((ses, seq.toNat, ack.toNat, d), 0) := by
  have hw : lWrite ses seq ack d = fWrap (lBody ses seq.toNat ack.toNat d) := by unfold lWrite; rw [if_pos hf]
  unfold lFits at hf
  simp only [Bool.and_eq_true, decide_eq_true_iff] at hf
  have hl := lBody_len ses seq.toNat ack.toNat h1 (by omega) (by omega) d
  have ho := fOpen_wrap (lBody ses seq.toNat ack.toNat d) [] (by omega)
  rw [List.append_nil] at ho
  unfold lRead
  rw [hw, ho, if_neg (by simp), lTake3_body ses seq.toNat ack.toNat h1 (by omega) (by omega) d]
  simp only
  rw [if_neg (by omega)]
end Go.Proofs.Ytjgjhjecgdndjaa
