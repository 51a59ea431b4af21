/- Plain: feeding byte by byte is taking block by block. -/
import Derived.Test.YtkbpkodakfknoaaShaJoin
namespace Go.Proofs.Ytkbpkodakfknoaa
set_option linter.unusedVariables false
/-- q blocks of l, one by one -/
def blocksF (f : Nat → UInt32) (l : List UInt8) : Nat → (Nat → UInt32)
  | 0 => f
  | q + 1 => blocksF (blockF f (l.take 64)) (l.drop 64) q
theorem getD_snoc (l : List UInt8) (c : UInt8) (i : Nat) (hi : i < l.length + 1) : (l ++ [c]).getD i 0 = if i = l.length then c else l.getD i 0 := by
  rw [List.getD_eq_getElem?_getD, List.getElem?_append]
  by_cases h : i = l.length
  · subst h; simp
  · rw [if_pos (by omega), if_neg h, List.getD_eq_getElem?_getD]
theorem snoc_of (l : List UInt8) (m : Nat) (h : l.length = m + 1) : ∃ l0 c, l = l0 ++ [c] ∧ l0.length = m := by
  have h0 : l ≠ [] := by intro e; subst e; simp at h
  exact ⟨l.dropLast, l.getLast h0, (List.dropLast_concat_getLast h0).symm, by simp [h]⟩
/-- the part that is filled: its first bytes are those of l -/
theorem feedL_part (f : Nat → UInt32) (n : Nat) (part : Nat → UInt8) (hn : n % 64 = 0) (m : Nat) : ∀ (l : List UInt8), l.length = m → m < 64 →
    ∃ P, feedL ⟨f, n, part⟩ l = ⟨f, n + m, P⟩ ∧ ∀ i, i < m → P i = l.getD i 0 := by
  induction m with
  | zero =>
    intro l hm _
    have : l = [] := List.eq_nil_of_length_eq_zero hm
    subst this
    exact ⟨part, rfl, fun i hi => absurd hi (by omega)⟩
  | succ m ih =>
    intro l hm hlt
    obtain ⟨l0, c, rfl, h0⟩ := snoc_of l m hm
    obtain ⟨P, h1, h2⟩ := ih l0 h0 (by omega)
    have hq : (n + m) % 64 = m := by omega
    rw [feedL_snoc, h1]
    unfold feed1
    dsimp only
    rw [hq, if_neg (by omega)]
    refine ⟨_, rfl, fun i hi => ?_⟩
    unfold updB
    rw [getD_snoc _ _ _ (by omega), h0]
    by_cases h : i = m
    · rw [if_pos h, if_pos h]
    · rw [if_neg h, if_neg h, h2 i (by omega)]
theorem partL_of (P : Nat → UInt8) (l : List UInt8) (hl : l.length = 64) (h : ∀ i, i < 64 → P i = l.getD i 0) : partL P = l := by
  apply List.ext_getElem?
  intro i
  by_cases hi : i < 64
  · have e1 : (partL P)[i]? = some (P i) := by simp [partL, hi]
    rw [e1, h i hi, List.getD_eq_getElem?_getD, List.getElem?_eq_getElem (by omega)]
    rfl
  · rw [List.getElem?_eq_none (by rw [partL_len]; omega), List.getElem?_eq_none (by omega)]
theorem feedL_block (f : Nat → UInt32) (n : Nat) (part : Nat → UInt8) (hn : n % 64 = 0) (l : List UInt8) (hl : l.length = 64) :
    ∃ P, feedL ⟨f, n, part⟩ l = ⟨blockF f l, n + 64, P⟩ := by
  obtain ⟨l0, c, rfl, h0⟩ := snoc_of l 63 hl
  obtain ⟨P, h1, h2⟩ := feedL_part f n part hn 63 l0 h0 (by omega)
  have hq : (n + 63) % 64 = 63 := by omega
  have hp : partL (updB P 63 c) = l0 ++ [c] := partL_of _ _ hl (fun i hi => by
    unfold updB
    rw [getD_snoc _ _ _ (by omega), h0]
    by_cases h : i = 63
    · rw [if_pos h, if_pos h]
    · rw [if_neg h, if_neg h, h2 i (by omega)])
  rw [feedL_snoc, h1]
  unfold feed1
  dsimp only
  rw [hq, if_pos rfl, hp]
  exact ⟨_, rfl⟩
theorem feedL_blocks : ∀ (q : Nat) (f : Nat → UInt32) (n : Nat) (part : Nat → UInt8) (hn : n % 64 = 0) (l : List UInt8) (hl : l.length = 64 * q),
    ∃ P, feedL ⟨f, n, part⟩ l = ⟨blocksF f l q, n + 64 * q, P⟩
  | 0, f, n, part, hn, l, hl => by
    have : l = [] := List.eq_nil_of_length_eq_zero hl
    subst this
    exact ⟨part, rfl⟩
  | q + 1, f, n, part, hn, l, hl => by
    have e : l = l.take 64 ++ l.drop 64 := (List.take_append_drop 64 l).symm
    obtain ⟨P, h1⟩ := feedL_block f n part hn (l.take 64) (by rw [List.length_take]; omega)
    obtain ⟨P2, h2⟩ := feedL_blocks q (blockF f (l.take 64)) (n + 64) P (by omega) (l.drop 64) (by rw [List.length_drop]; omega)
    refine ⟨P2, ?_⟩
    rw [e, feedL_append, h1, h2, ← e]
    rw [show n + 64 + 64 * q = n + 64 * (q + 1) by omega]
    rfl
theorem blocksF_snoc : ∀ (q : Nat) (f : Nat → UInt32) (l : List UInt8), blocksF f l (q + 1) = blockF (blocksF f l q) ((l.drop (64 * q)).take 64)
  | 0, f, l => rfl
  | q + 1, f, l => by
    show blocksF (blockF f (l.take 64)) (l.drop 64) (q + 1) = blockF (blocksF (blockF f (l.take 64)) (l.drop 64) q) _
    rw [blocksF_snoc q, List.drop_drop, show 64 + 64 * q = 64 * (q + 1) by omega]
/-- a text, filled up -/
def padOf (l : List UInt8) : List UInt8 := l ++ padL l.length
def nBlk (n : Nat) : Nat := (n + 9 + zeros n) / 64
theorem padL_len (n : Nat) : (padL n).length = 9 + zeros n := by simp [padL, len8]; omega
theorem padOf_len (l : List UInt8) : (padOf l).length = 64 * nBlk l.length := by
  have := zeros_end l.length
  rw [padOf, List.length_append, padL_len]; unfold nBlk; omega
def H0 (i : Nat) : UInt32 := shaFirst.getD i 0
theorem shaSum_eq (l : List UInt8) : shaSum l = ⟨(hUp (blocksF H0 (padOf l) (nBlk l.length)) 8).toArray⟩ := by
  have e : sumS (feedL S0 l) = feedL S0 (padOf l) := by
    unfold sumS padOf
    rw [feedL_append, feedL_n]
    show feedL _ (padL (0 + l.length)) = _
    rw [Nat.zero_add]
  obtain ⟨P, h⟩ := feedL_blocks (nBlk l.length) H0 0 (fun _ => 0) rfl (padOf l) (padOf_len l)
  unfold shaSum
  rw [e, show feedL S0 (padOf l) = _ from h]
theorem shaSum_data (l : List UInt8) : (shaSum l).data.toList = hUp (blocksF H0 (padOf l) (nBlk l.length)) 8 := by rw [shaSum_eq]
theorem shaSum_size (l : List UInt8) : (shaSum l).size = 32 := by
  have : (shaSum l).data.toList.length = 32 := by rw [shaSum_data, hUp_len]
  simpa using this
end Go.Proofs.Ytkbpkodakfknoaa
