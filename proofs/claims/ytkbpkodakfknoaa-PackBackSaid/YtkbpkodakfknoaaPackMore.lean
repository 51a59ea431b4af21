/- Plain: what a pack's slots keep: they lie in it, one behind the other; more bytes behind tell no fewer. -/
import Derived.Test.YtkbpkodakfknoaaPackAwake
namespace Go.Proofs.Ytkbpkodakfknoaa
open Go.RowKit
set_option linter.unusedVariables false
set_option linter.unusedSimpArgs false
theorem fOpen_backP (s : List UInt8) (h : (fOpen s).2.2 = 0) : fWrap (fOpen s).1 = s.take (fOpen s).2.1 ∧ (fOpen s).2.1 ≤ s.length := by
  unfold fOpen at h ⊢
  by_cases h1 : (vTakeText s).2.2 ≠ 0
  · rw [if_pos h1] at h; exact absurd h h1
  · rw [if_neg h1] at h ⊢
    by_cases h2 : s.length < (vTakeText s).2.1 + 4
    · rw [if_pos h2] at h; cases h
    · rw [if_neg h2] at h ⊢
      by_cases h3 : crcBytes (crcMore 0 (s.take (vTakeText s).2.1)) ≠ (s.drop (vTakeText s).2.1).take 4
      · rw [if_pos h3] at h; cases h
      · rw [if_neg h3]
        have h1' : (vTakeText s).2.2 = 0 := by omega
        obtain ⟨hle, hb⟩ := vTakeText_back s h1'
        have h3' : crcBytes (crcMore 0 (s.take (vTakeText s).2.1)) = (s.drop (vTakeText s).2.1).take 4 := by
          by_cases e : crcBytes (crcMore 0 (s.take (vTakeText s).2.1)) = (s.drop (vTakeText s).2.1).take 4
          · exact e
          · exact absurd e h3
        have hpos := (vTakeText_pos s h1').1
        have hne : vPutText (vTakeText s).1 ≠ [] := by
          rw [hb]; intro e
          have := congrArg List.length e
          rw [List.length_take, List.length_nil] at this; omega
        refine ⟨?_, by show (vTakeText s).2.1 + 4 ≤ _; omega⟩
        show fWrap (vTakeText s).1 = s.take ((vTakeText s).2.1 + 4)
        unfold fWrap
        rw [if_neg hne, hb, h3', List.take_add]
theorem fOpen_more (a b : List UInt8) (h : (fOpen a).2.2 = 0) (hl : (fOpen a).1.length ≤ 65536) : fOpen (a ++ b) = fOpen a ∧ (fOpen a).1.length + 5 ≤ (fOpen a).2.1 ∧ (fOpen a).2.1 ≤ a.length := by
  obtain ⟨h1, h2⟩ := fOpen_backP a h
  have e : a = fWrap (fOpen a).1 ++ a.drop (fOpen a).2.1 := by rw [h1, List.take_append_drop]
  have h3 := fOpen_wrap (fOpen a).1 (a.drop (fOpen a).2.1 ++ b) hl
  have h4 := fOpen_wrap (fOpen a).1 (a.drop (fOpen a).2.1) hl
  rw [← e] at h4
  rw [← List.append_assoc, ← e] at h3
  have h5 := fWrap_len (fOpen a).1 hl
  have h6 := vPut_pos (fOpen a).1.length
  have h7 : (fOpen a).2.1 = (fWrap (fOpen a).1).length := congrArg (fun x => x.2.1) h4
  refine ⟨by rw [h3, h4], by omega, h2⟩
def sizeS (l : List Slt) : Int := (l.map fun x => x.2.2).foldl (· + ·) 0
theorem foldl_add (l : List Int) : ∀ a : Int, l.foldl (· + ·) a = a + l.foldl (· + ·) 0 := by
  induction l with
  | nil => intro a; simp
  | cons x l ih => intro a; rw [List.foldl_cons, List.foldl_cons, ih, ih (0 + x)]; omega
theorem sizeS_append (a b : List Slt) : sizeS (a ++ b) = sizeS a + sizeS b := by
  unfold sizeS; rw [List.map_append, List.foldl_append, foldl_add]
theorem sizeS_one (x : Slt) : sizeS [x] = x.2.2 := by simp [sizeS]
theorem sizeS_addS (l : List Slt) (x : Slt) (h : 0 ≤ x.2.2) : sizeS (addS l x) ≤ sizeS l + x.2.2 := by
  unfold addS
  split
  · omega
  · rw [sizeS_append, sizeS_append, sizeS_one]
    have := sizeS_append (l.take (place l x.1)) (l.drop (place l x.1))
    rw [List.take_append_drop] at this
    omega
theorem addS_grow (l : List Slt) (x : Slt) : l.length ≤ (addS l x).length := by
  unfold addS
  split
  · omega
  · simp; have := place_le l x.1; omega
/-- slots that lie within their pack -/
def InvP (st : List Slt × Nat) : Prop := (∀ y ∈ st.1, 0 ≤ y.2.1 ∧ 37 ≤ y.2.2 ∧ y.2.1 + y.2.2 ≤ st.2) ∧ sizeS st.1 ≤ st.2
theorem inv_step {st : List Slt × Nat} {f : Frm} (h : InvP st) (hf : f.1 = st.2) (h37 : 37 ≤ f.2.1) : InvP (stepS st f) := by
  obtain ⟨h1, h2⟩ := h
  refine ⟨fun y hy => ?_, ?_⟩
  · show 0 ≤ y.2.1 ∧ 37 ≤ y.2.2 ∧ y.2.1 + y.2.2 ≤ ((f.1 + f.2.1 : Nat) : Int)
    rcases addS_mem _ _ hy with h | h
    · have := h1 y h; omega
    · subst h; dsimp only; omega
  · show sizeS (addS st.1 _) ≤ ((f.1 + f.2.1 : Nat) : Int)
    have := sizeS_addS st.1 (f.2.2.extract 0 32, (f.1 : Int), (f.2.1 : Int)) (by dsimp only; omega)
    dsimp only at this
    omega
theorem good_size {t : ByteArray} (h : goodT t = true) : 32 ≤ t.size := by
  unfold goodT at h
  simp only [Bool.and_eq_true, decide_eq_true_iff] at h
  exact h.1
def runG (n k : Nat) (s : List UInt8) (st : List Slt × Nat) : List Slt × Nat := (goods (fFrames n k s)).foldl stepS st
theorem runG_zero (k : Nat) (s : List UInt8) (st : List Slt × Nat) : runG 0 k s st = st := rfl
/-- one more frame, or the end -/
theorem runG_succ (n k : Nat) (s : List UInt8) (st : List Slt × Nat) (hs : s.length ≤ 65536) (hk : k ≤ s.length) :
    runG (n + 1) k s st = st ∨ ∃ f : Frm, f.1 = k ∧ 37 ≤ f.2.1 ∧ k + f.2.1 ≤ s.length ∧ runG (n + 1) k s st = runG n (k + f.2.1) s (stepS st f) ∧ ∀ (m : Nat) (t : List UInt8), runG (m + 1) k (s ++ t) st = runG m (k + f.2.1) (s ++ t) (stepS st f) := by
  unfold runG
  by_cases h1 : s.length ≤ k
  · left; rw [fFrames, if_pos h1]; rfl
  · by_cases h2 : (fOpen (s.drop k)).2.2 ≠ 0
    · left; rw [fFrames, if_neg h1, if_pos h2]; rfl
    · have h2' : (fOpen (s.drop k)).2.2 = 0 := by omega
      have hlT := fOpen_lenP (s.drop k)
      rw [List.length_drop] at hlT
      obtain ⟨e1, e2, e3⟩ := fOpen_more (s.drop k) [] h2' (by omega)
      rw [List.length_drop] at e3
      obtain ⟨T, hT⟩ : ∃ T : ByteArray, T = ⟨(fOpen (s.drop k)).1.toArray⟩ := ⟨_, rfl⟩
      have hTs : T.size = (fOpen (s.drop k)).1.length := by rw [hT]; exact List.size_toArray
      by_cases hg : goodT T = true
      · right
        refine ⟨(k, (fOpen (s.drop k)).2.1, T), rfl, ?_, ?_, ?_, ?_⟩
        · have := good_size hg; show 37 ≤ (fOpen (s.drop k)).2.1; omega
        · show k + (fOpen (s.drop k)).2.1 ≤ _; omega
        · rw [fFrames, if_neg h1, if_neg h2, ← hT]
          unfold goods
          rw [List.takeWhile_cons, if_pos hg]
          rfl
        · intro m t
          have hdr : (s ++ t).drop k = s.drop k ++ t := List.drop_append_of_le_length hk
          obtain ⟨e4, _, _⟩ := fOpen_more (s.drop k) t h2' (by omega)
          rw [fFrames, if_neg (by rw [List.length_append]; omega), hdr, e4, if_neg h2, ← hT]
          unfold goods
          rw [List.takeWhile_cons, if_pos hg]
          rfl
      · left
        rw [fFrames, if_neg h1, if_neg h2, ← hT]
        unfold goods
        rw [List.takeWhile_cons, if_neg hg]
        rfl
theorem runG_inv : ∀ (n k : Nat) (s : List UInt8) (st : List Slt × Nat), s.length ≤ 65536 → k ≤ s.length → st.2 = k → InvP st → InvP (runG n k s st) ∧ (runG n k s st).2 ≤ s.length ∧ k ≤ (runG n k s st).2 ∧ st.1.length ≤ (runG n k s st).1.length
  | 0, k, s, st, _, hk, he, hi => ⟨hi, by rw [runG_zero]; omega, by rw [runG_zero]; omega, Nat.le_refl _⟩
  | n + 1, k, s, st, hs, hk, he, hi => by
    rcases runG_succ n k s st hs hk with h | ⟨f, hf, h37, hle, h, _⟩
    · rw [h]; exact ⟨hi, by omega, by omega, Nat.le_refl _⟩
    · rw [h]
      obtain ⟨a, b, c, d⟩ := runG_inv n (k + f.2.1) s (stepS st f) hs hle (by show f.1 + f.2.1 = _; omega) (inv_step hi (by omega) h37)
      refine ⟨a, b, by omega, Nat.le_trans ?_ d⟩
      exact addS_grow _ _
theorem runG_more : ∀ (n m k : Nat) (s t : List UInt8) (st : List Slt × Nat), n ≤ m → (s ++ t).length ≤ 65536 → k ≤ s.length → st.2 = k → InvP st → (runG n k s st).2 ≤ (runG m k (s ++ t) st).2 ∧ (runG n k s st).1.length ≤ (runG m k (s ++ t) st).1.length
  | 0, m, k, s, t, st, _, hs, hk, he, hi => by
    obtain ⟨_, _, c, d⟩ := runG_inv m k (s ++ t) st hs (by rw [List.length_append]; omega) he hi
    rw [runG_zero]; exact ⟨by omega, d⟩
  | n + 1, 0, _, _, _, _, h, _, _, _, _ => by omega
  | n + 1, m + 1, k, s, t, st, h, hs, hk, he, hi => by
    have hsl : s.length ≤ 65536 := by rw [List.length_append] at hs; omega
    rcases runG_succ n k s st hsl hk with h1 | ⟨f, hf, h37, hle, h1, h2⟩
    · obtain ⟨_, _, c, d⟩ := runG_inv (m + 1) k (s ++ t) st hs (by rw [List.length_append]; omega) he hi
      rw [h1]; exact ⟨by omega, d⟩
    · rw [h1, h2]
      exact runG_more n m (k + f.2.1) s t (stepS st f) (by omega) hs hle (by show f.1 + f.2.1 = _; omega) (inv_step hi (by omega) h37)
theorem scanP_run (s : List UInt8) : scanP s = runG s.length 0 s ([], 0) := rfl
theorem inv_nil : InvP ([], 0) := ⟨(fun y hy => nomatch hy), by simp [sizeS]⟩
theorem scanP_inv (s : List UInt8) (hs : s.length ≤ 65536) : InvP (scanP s) ∧ (scanP s).2 ≤ s.length := by
  rw [scanP_run]
  obtain ⟨a, b, _, _⟩ := runG_inv s.length 0 s ([], 0) hs (Nat.zero_le _) rfl inv_nil
  exact ⟨a, b⟩
theorem scanP_more (s t : List UInt8) (hs : (s ++ t).length ≤ 65536) : (scanP s).2 ≤ (scanP (s ++ t)).2 ∧ (scanP s).1.length ≤ (scanP (s ++ t)).1.length := by
  rw [scanP_run, scanP_run]
  exact runG_more s.length (s ++ t).length 0 s t ([], 0) (by rw [List.length_append]; omega) hs (Nat.zero_le _) rfl inv_nil
end Go.Proofs.Ytkbpkodakfknoaa
