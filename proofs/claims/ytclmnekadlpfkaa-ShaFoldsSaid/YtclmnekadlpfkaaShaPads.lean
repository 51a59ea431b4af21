/- Plain: texts of whole blocks; short texts. -/
import Derived.Test.YtclmnekadlpfkaaShaPlain
namespace Go.Proofs.Ytclmnekadlpfkaa
set_option linter.unusedVariables false
theorem blocksF_pre : ∀ (q : Nat) (f : Nat → UInt32) (l m : List UInt8), 64 * q ≤ l.length → blocksF f (l ++ m) q = blocksF f l q
  | 0, f, l, m, h => rfl
  | q + 1, f, l, m, h => by
    show blocksF (blockF f ((l ++ m).take 64)) ((l ++ m).drop 64) q = blocksF (blockF f (l.take 64)) (l.drop 64) q
    rw [List.take_append_of_le_length (by omega), List.drop_append_of_le_length (by omega)]
    exact blocksF_pre q _ _ _ (by rw [List.length_drop]; omega)
/-- the block that ends a text of n bytes, n a number of whole blocks -/
def endBlk (n : Nat) : List UInt8 := [128] ++ List.replicate 61 0 ++ [nAt (8 * n) 8, nAt (8 * n) 0]
theorem nAt_high (m k : Nat) (h : m < 2 ^ k) : nAt m k = 0 := by
  unfold nAt; rw [Nat.div_eq_of_lt h]; rfl
theorem len8_small (m : Nat) (h : m < 65536) : len8 m = List.replicate 6 0 ++ [nAt m 8, nAt m 0] := by
  unfold len8
  rw [nAt_high m 56 (by omega), nAt_high m 48 (by omega), nAt_high m 40 (by omega), nAt_high m 32 (by omega), nAt_high m 24 (by omega), nAt_high m 16 (by omega)]
  rfl
theorem fold_sum (l : List UInt8) (q : Nat) (hl : l.length = 64 * q) (hq : q ≤ 12) : shaSum l = ⟨(hUp (blockF (blocksF H0 l q) (endBlk l.length)) 8).toArray⟩ := by
  have hz : zeros l.length = 55 := by unfold zeros; omega
  have hb : nBlk l.length = q + 1 := by unfold nBlk; omega
  rw [shaSum_eq, hb, blocksF_snoc, padOf, blocksF_pre q H0 l _ (by omega)]
  have : ((l ++ padL l.length).drop (64 * q)).take 64 = endBlk l.length := by
    rw [← hl, List.drop_left]
    unfold padL endBlk
    rw [hz, len8_small _ (by omega)]
    rw [List.take_of_length_le (by simp)]
    simp
  rw [this]
/-- a text of less than 56 bytes -/
theorem short_sum (l : List UInt8) (hl : l.length ≤ 55) : shaSum l = ⟨(hUp (blockF H0 (l ++ [128] ++ List.replicate (61 - l.length) 0 ++ [nAt (8 * l.length) 8, nAt (8 * l.length) 0])) 8).toArray⟩ := by
  have hz : zeros l.length = 55 - l.length := by unfold zeros; omega
  have hb : nBlk l.length = 1 := by unfold nBlk; omega
  rw [shaSum_eq, hb]
  show (⟨(hUp (blockF H0 ((padOf l).take 64)) 8).toArray⟩ : ByteArray) = _
  have : (padOf l).take 64 = l ++ [128] ++ List.replicate (61 - l.length) 0 ++ [nAt (8 * l.length) 8, nAt (8 * l.length) 0] := by
    unfold padOf padL
    rw [hz, len8_small _ (by omega), List.take_of_length_le (by simp; omega)]
    have e : 61 - l.length = (55 - l.length) + 6 := by omega
    rw [e, ← List.replicate_append_replicate]
    simp [List.append_assoc]
  rw [this]
end Go.Proofs.Ytclmnekadlpfkaa
