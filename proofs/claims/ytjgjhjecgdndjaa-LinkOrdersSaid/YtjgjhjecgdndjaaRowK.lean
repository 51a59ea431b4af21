/- Plain: copy between rows of elements of several cells; a row's cells behind an insertion. -/
import Derived.Test.YtjgjhjecgdndjaaWords
import Derived.Test.YtjgjhjecgdndjaaProg
import Derived.Laws.CopyOwn
import Derived.Laws.AppendOwn
import Derived.Shelf.Spec.SlicesInsertGrow
import Derived.BigRegion
import Derived.Lib.Hide
namespace Go.Proofs.Ytjgjhjecgdndjaa
open Go.RowKit
set_option linter.unusedVariables false
theorem run_copy_rowK {P : Program} (w : World) (dT sT ty elem : TypeId) (g o dLen dCap : Nat) (a : Addr) (sLen sCap : Nat) (cur : Array Value) (t : TypeId) (cs : List Value) (sz k : Nat)
    (hu : P.underlying dT = some (.slice elem)) (hs : (P.info? elem).map (·.size) = some sz)
    (hg : w.heap[g]? = some (.cells cur t (0, 0))) (hk : k = Nat.min sLen dLen) (hn : cs.length = k * sz)
    (hsrc : ∀ j v, cs[j]? = some v → w.cell? (a.add j) = some v) (hfit : o + cs.length ≤ cur.size) (h1 : ∀ v ∈ cs, v.oneCell' = true) :
    (Builtin.copy_ #[dT, sT] ty #[.slice (some ⟨g, o, none⟩) dLen dCap, .slice (some a) sLen sCap]).run P w =
      .ok (goInt k) (w.setRow g (cur.toList.take o ++ cs ++ cur.toList.drop (o + cs.length)).toArray) := by
  have hl := run_loadCells_list (P := P) w a cs hsrc
  have hst := run_storeCells_at (P := P) g o t cs 0 cur w hg (by simpa using hfit) h1
  cases hq : P.info? elem with
  | none => simp [hq] at hs
  | some i =>
    have hi : i.size = sz := by simpa [hq] using hs
    subst hk
    simp [Builtin.copy_, run_underlying hu, Builtin.lenOf, Builtin.firstCells, sizeOf, typeInfo, hq, hi, ← hn, hl, hst]
theorem row_shift (cur xs ys : List Value) (k n i : Nat) (hx : cur.take (n * k) = xs) (hi : i < n) (hy : ys.length = k) (hc : (n + 1) * k ≤ cur.length) (mid : List Value)
    (hm : mid = cur.take ((i + 1) * k) ++ xs.drop (i * k) ++ cur.drop ((i + 1) * k + (xs.drop (i * k)).length)) :
    mid.length = cur.length ∧ ((mid.take (i * k) ++ ys ++ mid.drop (i * k + ys.length)).length = cur.length) ∧ (mid.take (i * k) ++ ys ++ mid.drop (i * k + ys.length)).take ((n + 1) * k) = xs.take (i * k) ++ ys ++ xs.drop (i * k) := by
  have e1 : (n + 1) * k = n * k + k := by rw [Nat.add_mul, Nat.one_mul]
  have e2 : (i + 1) * k = i * k + k := by rw [Nat.add_mul, Nat.one_mul]
  have e3 : i * k + k ≤ n * k := by rw [← e2]; exact Nat.mul_le_mul_right k hi
  have hxl : xs.length = n * k := by rw [← hx, List.length_take]; omega
  have hml : mid.length = cur.length := by rw [hm]; simp; omega
  refine ⟨hml, by simp [hml]; omega, ?_⟩
  have hA : mid.take (i * k) = xs.take (i * k) := by
    rw [hm, List.append_assoc, List.take_append_of_le_length (by simp; omega), List.take_take, ← hx, List.take_take]
    congr 1; omega
  have hD : (mid.drop (i * k + ys.length)).take (n * k - i * k) = xs.drop (i * k) := by
    rw [hm, List.append_assoc, List.drop_append_of_le_length (by simp; omega), List.drop_take, hy, e2]
    rw [show i * k + k - (i * k + k) = 0 by omega, List.take_zero, List.nil_append, List.take_append_of_le_length (by simp; omega), List.take_of_length_le (by simp; omega)]
  rw [hA, List.take_append, List.take_of_length_le (by simp; omega)]
  congr 1
  rw [← hD]
  congr 1
  simp
  omega
theorem row_grow (cur0 cur1 xs ys : List Value) (k n i : Nat) (hx : xs.length = n * k) (hi : i < n) (hy : ys.length = k) (hc : (n + 1) * k ≤ cur0.length) (h0 : cur0.take (i * k) = xs.take (i * k))
    (h1 : cur1 = cur0.take (i * k) ++ ys ++ cur0.drop (i * k + ys.length)) :
    cur1.length = cur0.length ∧ ((cur1.take ((i + 1) * k) ++ xs.drop (i * k) ++ cur1.drop ((i + 1) * k + (xs.drop (i * k)).length)).length = cur0.length) ∧ (cur1.take ((i + 1) * k) ++ xs.drop (i * k) ++ cur1.drop ((i + 1) * k + (xs.drop (i * k)).length)).take ((n + 1) * k) = xs.take (i * k) ++ ys ++ xs.drop (i * k) := by
  have e1 : (n + 1) * k = n * k + k := by rw [Nat.add_mul, Nat.one_mul]
  have e2 : (i + 1) * k = i * k + k := by rw [Nat.add_mul, Nat.one_mul]
  have e3 : i * k + k ≤ n * k := by rw [← e2]; exact Nat.mul_le_mul_right k hi
  have hl1 : cur1.length = cur0.length := by rw [h1]; simp; omega
  refine ⟨hl1, by simp [hl1]; omega, ?_⟩
  have hA : cur1.take ((i + 1) * k) = xs.take (i * k) ++ ys := by
    rw [h1, h0, List.take_append_of_le_length (by simp; omega), List.take_of_length_le (by simp; omega)]
  rw [hA, List.take_append_of_le_length (by simp; omega), List.take_of_length_le (by simp; omega)]
end Go.Proofs.Ytjgjhjecgdndjaa
