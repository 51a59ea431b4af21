/- Frames: plain laws. -/
import Derived.Test.YtbamekfebfcleaaFrameScan
import Derived.Test.YtbamekfebfcleaaCrcLaws
import Derived.Test.YtbamekfebfcleaaCrc
namespace Go.Proofs.Ytbamekfebfcleaa
open Go.RowKit
set_option linter.unusedVariables false
theorem vPutText_eq (s : List UInt8) (h : s.length ≤ 65536) : vPutText s = vPut s.length ++ s := by unfold vPutText; rw [if_neg (by omega)]
theorem vPutText_ne (s : List UInt8) (h : s.length ≤ 65536) : vPutText s ≠ [] := by
  rw [vPutText_eq s h]
  intro e
  have := vPut_pos s.length
  have := congrArg List.length e
  rw [List.length_append, List.length_nil] at this
  omega
theorem fWrap_eq (s : List UInt8) (h : s.length ≤ 65536) : fWrap s = vPutText s ++ crcBytes (crcMore 0 (vPutText s)) := by
  unfold fWrap; rw [if_neg (vPutText_ne s h)]
theorem fWrap_len (s : List UInt8) (h : s.length ≤ 65536) : (fWrap s).length = (vPut s.length).length + s.length + 4 := by
  rw [fWrap_eq s h, vPutText_eq s h]; simp [crcBytes_len]; omega
theorem fOpen_wrap (s behind : List UInt8) (h : s.length ≤ 65536) : fOpen (fWrap s ++ behind) = (s, (fWrap s).length, 0) := by
  have ht := vTakeText_put s (crcBytes (crcMore 0 (vPutText s)) ++ behind) h
  rw [fWrap_eq s h, List.append_assoc]
  unfold fOpen
  rw [ht]
  dsimp only
  rw [if_neg (by simp), if_neg (by simp [crcBytes_len]), if_neg ?_]
  · simp [crcBytes_len]
  · rw [List.take_left, List.drop_left, List.take_left' (by rfl)]
    simp
/-- the frames that bytes have: texts, and how long each one's frame is -/
def fGo : Nat → List UInt8 → List (List UInt8 × Nat)
  | 0, _ => []
  | n + 1, s => if s = [] then [] else if (fOpen s).2.2 ≠ 0 then [] else ((fOpen s).1, (fOpen s).2.1) :: fGo n (s.drop (fOpen s).2.1)
def fSum (l : List (List UInt8 × Nat)) : Nat := (l.map (·.2)).sum
theorem fGo_fuel : ∀ (n m : Nat) (s : List UInt8), s.length ≤ n → s.length ≤ m → fGo n s = fGo m s
  | 0, m, s, h, _ => by
    have : s = [] := List.length_eq_zero_iff.1 (by omega)
    subst this
    cases m with
    | zero => rfl
    | succ m => rw [fGo, fGo, if_pos rfl]
  | n + 1, 0, s, _, h => by
    have : s = [] := List.length_eq_zero_iff.1 (by omega)
    subst this
    rw [fGo, fGo, if_pos rfl]
  | n + 1, m + 1, s, h, h' => by
    rw [fGo, fGo]
    split
    · rfl
    · split
      · rfl
      · rename_i h1 h2
        have := (fOpen_le s).1 (by omega)
        rw [fGo_fuel n m _ (by rw [List.length_drop]; omega) (by rw [List.length_drop]; omega)]
def fAll (s : List UInt8) : List (List UInt8 × Nat) := fGo s.length s
theorem fAll_nil : fAll [] = [] := rfl
theorem fAll_wrap (t s : List UInt8) (h : t.length ≤ 65536) : fAll (fWrap t ++ s) = (t, (fWrap t).length) :: fAll s := by
  have hl := fWrap_len t h
  obtain ⟨m, hm⟩ : ∃ m, (fWrap t ++ s).length = m + 1 := ⟨(fWrap t ++ s).length - 1, by rw [List.length_append]; omega⟩
  unfold fAll
  rw [hm, fGo, if_neg (by intro e; rw [e] at hm; simp at hm), fOpen_wrap t s h, if_neg (by simp)]
  dsimp only
  rw [List.drop_left, fGo_fuel m s.length s (by rw [List.length_append] at hm; omega) (Nat.le_refl _)]
theorem fAll_err (s : List UInt8) (h : (fOpen s).2.2 ≠ 0) : fAll s = [] := by
  unfold fAll
  cases s.length with
  | zero => rfl
  | succ m => rw [fGo]; split <;> first | rfl | rw [if_pos h]
theorem fAll_wraps : ∀ (l : List (List UInt8)) (s : List UInt8), (∀ t ∈ l, t.length ≤ 65536) → fAll (l.flatMap fWrap ++ s) = l.map (fun t => (t, (fWrap t).length)) ++ fAll s
  | [], s, _ => rfl
  | t :: l, s, h => by
    rw [List.flatMap_cons, List.append_assoc, fAll_wrap t _ (h t (by simp)), fAll_wraps l s (fun x hx => h x (by simp [hx]))]
    rfl
theorem fSum_wraps : ∀ (l : List (List UInt8)), fSum (l.map fun t => (t, (fWrap t).length)) = (l.flatMap fWrap).length
  | [] => rfl
  | t :: l => by
    have := fSum_wraps l
    unfold fSum at *
    rw [List.map_cons, List.map_cons, List.sum_cons, this, List.flatMap_cons, List.length_append]
theorem fSum_append (a b : List (List UInt8 × Nat)) : fSum (a ++ b) = fSum a + fSum b := by unfold fSum; rw [List.map_append, List.sum_append_nat]
theorem fSum_le : ∀ (n : Nat) (s : List UInt8), fSum (fGo n s) ≤ s.length
  | 0, s => by simp [fGo, fSum]
  | n + 1, s => by
    rw [fGo]
    split
    · simp [fSum]
    · split
      · simp [fSum]
      · rename_i h1 h2
        have := (fOpen_le s).1 (by omega)
        have ih := fSum_le n (s.drop (fOpen s).2.1)
        rw [List.length_drop] at ih
        have e : ∀ (x : List UInt8 × Nat) l, fSum (x :: l) = x.2 + fSum l := fun x l => by simp [fSum]
        rw [e]
        dsimp only
        omega
theorem fRest_go : ∀ (n k : Nat) (s : List UInt8), fTexts (fRest n k s) = (fGo n (s.drop k)).map (fun x => (⟨x.1.toArray⟩ : ByteArray)) ∧ (fRest n k s = [] ↔ fGo n (s.drop k) = []) ∧ (fRest n k s ≠ [] → fEnd (fRest n k s) = k + fSum (fGo n (s.drop k)))
  | 0, k, s => by simp [fRest, fGo, fTexts]
  | n + 1, k, s => by
    rw [fRest, fGo]
    by_cases h : s.length ≤ k
    · rw [if_pos h, if_pos (List.drop_of_length_le h)]; simp [fTexts]
    · have hd : s.drop k ≠ [] := by intro e; have := congrArg List.length e; rw [List.length_drop, List.length_nil] at this; omega
      rw [if_neg h, if_neg hd]
      by_cases he : (fOpen (s.drop k)).2.2 ≠ 0
      · rw [if_pos he, if_pos he]; simp [fTexts]
      · rw [if_neg he, if_neg he]
        obtain ⟨h1, h2, h3⟩ := fRest_go n (k + (fOpen (s.drop k)).2.1) s
        rw [List.drop_drop]
        generalize fRest n (k + (fOpen (s.drop k)).2.1) s = R at *
        generalize fGo n (s.drop (k + (fOpen (s.drop k)).2.1)) = G at *
        refine ⟨by simp only [fTexts, List.map_cons] at h1 ⊢; rw [h1], by simp, fun _ => ?_⟩
        have e : ∀ (x : List UInt8 × Nat) l, fSum (x :: l) = x.2 + fSum l := fun x l => by simp [fSum]
        rw [e]
        cases R with
        | nil =>
          have hg := h2.1 rfl
          subst hg
          simp [fEnd, fSum]
        | cons y R =>
          have := h3 (by simp)
          rw [show fEnd ((⟨(fOpen (s.drop k)).1.toArray⟩, k + (fOpen (s.drop k)).2.1) :: y :: R) = fEnd (y :: R) from rfl, this]
          dsimp only
          omega
theorem fPairs_texts (s : List UInt8) : fTexts (fPairs s) = (fAll s).map (fun x => (⟨x.1.toArray⟩ : ByteArray)) := by
  have := (fRest_go s.length 0 s).1
  simpa [fPairs, fAll] using this
theorem fPairs_end (s : List UInt8) : fEnd (fPairs s) = fSum (fAll s) := by
  obtain ⟨_, h2, h3⟩ := fRest_go s.length 0 s
  simp only [List.drop_zero, Nat.zero_add] at h2 h3
  by_cases h : fRest s.length 0 s = []
  · have hg := h2.1 h
    show fEnd (fRest s.length 0 s) = fSum (fGo s.length s)
    rw [h, hg]; rfl
  · exact h3 h
theorem fEnd_le (s : List UInt8) : fEnd (fPairs s) ≤ s.length := by rw [fPairs_end]; exact fSum_le _ _
theorem vGo_part : ∀ (k m : Nat) (q : List UInt8), k < (vPut m).length → q.length + k ≤ 9 → vGo q ((vPut m).take k) = (0, 0, 1)
  | 0, m, q, _, _ => rfl
  | k + 1, m, q, h, hq => by
    by_cases hm : m < 128
    · rw [vPut_small m hm] at h; simp at h
    · rw [vPut_step m (by omega)] at h ⊢
      rw [List.length_cons] at h
      rw [List.take_succ_cons, vGo, if_neg ?_, vGo_part k (m / 128) _ (by omega) (by simp; omega)]
      unfold vEnds
      have : (UInt8.ofNat (m % 128 + 128)).toNat = m % 128 + 128 := by simp; omega
      omega
theorem vTake_part (m : Nat) (hm : m < 18446744073709551616) (k : Nat) (h : k < (vPut m).length) : vTake ((vPut m).take k) = (0, 0, 1) :=
  vGo_part k m [] h (by have := vPut_len10 m hm; simp; omega)
/-- a part of a frame is too short -/
theorem fOpen_part (s : List UInt8) (h : s.length ≤ 65536) (k : Nat) (hk : k < (fWrap s).length) : (fOpen ((fWrap s).take k)).2.2 ≠ 0 ∧ ((vPut s.length).length ≤ k → (fOpen ((fWrap s).take k)) = ([], 0, 1)) := by
  have hl := fWrap_len s h
  have e := fWrap_eq s h
  rw [vPutText_eq s h, List.append_assoc] at e
  by_cases hp : (vPut s.length).length ≤ k
  · have e2 : (fWrap s).take k = vPut s.length ++ (s ++ crcBytes (crcMore 0 (vPut s.length ++ s))).take (k - (vPut s.length).length) := by
      rw [e, List.take_append, List.take_of_length_le hp]
    have ht := vTake_put s.length (by omega) ((s ++ crcBytes (crcMore 0 (vPut s.length ++ s))).take (k - (vPut s.length).length))
    have hlen : ((fWrap s).take k).length = k := by rw [List.length_take]; omega
    have r : fOpen ((fWrap s).take k) = ([], 0, 1) := by
      rw [← e2] at ht
      unfold fOpen vTakeText
      rw [ht]
      dsimp only
      rw [if_neg (c := (0 : Nat) ≠ 0) (by simp), if_neg (c := 65536 < s.length) (by omega), hlen]
      by_cases hs : k - (vPut s.length).length < s.length
      · rw [if_pos hs, if_pos (by simp)]
      · rw [if_neg hs, if_neg (by simp), if_pos (by dsimp only; omega)]
    exact ⟨by rw [r]; simp, fun _ => r⟩
  · refine ⟨?_, fun h' => absurd h' hp⟩
    have ht := vTake_part s.length (by omega) k (by omega)
    have e2 : (fWrap s).take k = (vPut s.length).take k := by rw [e, List.take_append_of_le_length (by omega)]
    unfold fOpen vTakeText
    rw [e2, ht]
    simp
end Go.Proofs.Ytbamekfebfcleaa
