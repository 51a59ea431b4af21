/- Plain: chapter 33's index: where each eight bytes stand; the best of these places is the document's. -/
import Derived.Test.YtlkpgefapcfdbaaDeltaM1
import Derived.Maps.GroupsBeside
import Derived.Maps.Views
namespace Go.Proofs.Ytlkpgefapcfdbaa
open Go.RowKit Go.Maps Go.ChangeShapes
set_option linter.unusedVariables false
set_option linter.unusedSimpArgs false
/-- the first n places at which a key of eight bytes stands -/
def pl (base key : List UInt8) : Nat → List Nat
  | 0 => []
  | i + 1 => if (base.drop i).take 8 = key then pl base key i ++ [i] else pl base key i
theorem pl_lt (base key : List UInt8) : ∀ n, ∀ k ∈ pl base key n, k < n
  | 0, k, h => by simp [pl] at h
  | n + 1, k, h => by
    unfold pl at h
    split at h
    · rw [List.mem_append, List.mem_singleton] at h
      rcases h with h | h
      · have := pl_lt base key n k h; omega
      · omega
    · have := pl_lt base key n k h; omega
theorem pl_len (base key : List UInt8) : ∀ n, (pl base key n).length ≤ n
  | 0 => by simp [pl]
  | n + 1 => by
    unfold pl
    have := pl_len base key n
    split
    · simp; omega
    · omega
theorem pl_stop (base key : List UInt8) (hk : key.length = 8) (m : Nat) (hm : base.length < m + 8) : ∀ d, pl base key (m + d) = pl base key m
  | 0 => rfl
  | d + 1 => by
    show pl base key (m + d + 1) = _
    rw [pl, if_neg, pl_stop base key hk m hm d]
    intro e
    have := congrArg List.length e
    rw [List.length_take, List.length_drop] at this
    omega
def stepB (base s : List UInt8) (r : Nat × Nat) (k : Nat) : Nat × Nat := if r.1 < comm (base.drop k) s then (comm (base.drop k) s, k) else r
def bestL (base s : List UInt8) (l : List Nat) : Nat × Nat := l.foldl (stepB base s) (0, 0)
theorem comm_eight : ∀ (n : Nat) (b s : List UInt8), n ≤ s.length → (n ≤ comm b s ↔ b.take n = s.take n)
  | 0, b, s, _ => by simp
  | n + 1, [], s, h => by
    have h1 := comm_le [] s
    refine ⟨fun h' => by simp at h1; omega, fun e => ?_⟩
    have := congrArg List.length e
    simp at this
    omega
  | n + 1, x :: b, [], h => by simp at h
  | n + 1, x :: b, y :: s, h => by
    have ih := comm_eight n b s (by simpa using h)
    unfold comm
    by_cases e : x = y
    · rw [if_pos e, List.take_succ_cons, List.take_succ_cons, e]
      simp [ih]
    · rw [if_neg e]
      simp [e]
theorem bestL_bestK (base s : List UInt8) (hs : 8 ≤ s.length) : ∀ n, bestL base s (pl base (s.take 8) n) = bestK base s n
  | 0 => rfl
  | n + 1 => by
    have ih := bestL_bestK base s hs n
    have h8 := comm_eight 8 (base.drop n) s hs
    unfold pl bestK
    by_cases h : (base.drop n).take 8 = s.take 8
    · rw [if_pos h]
      unfold bestL at ih ⊢
      rw [List.foldl_append, ih]
      show stepB base s _ n = _
      unfold stepB
      by_cases hh : (bestK base s n).1 < comm (base.drop n) s
      · rw [if_pos hh, if_pos ⟨h8.2 h, hh⟩]
      · rw [if_neg hh, if_neg (fun h => hh h.2)]
    · rw [if_neg h, ih, if_neg (fun hh => h (h8.1 hh.1))]
theorem bestL_bestD (base s : List UInt8) (hs : 8 ≤ s.length) (m : Nat) (h1 : base.length < m + 8) (h2 : m ≤ base.length) : bestL base s (pl base (s.take 8) m) = bestD base s := by
  unfold bestD
  rw [← bestL_bestK base s hs, ← pl_stop base (s.take 8) (by rw [List.length_take]; omega) m h1 (base.length - m), show m + (base.length - m) = base.length by omega]
theorem bestD_short (base s : List UInt8) (hs : s.length < 8) : bestD base s = (0, 0) := by
  unfold bestD
  generalize base.length = n
  induction n with
  | zero => rfl
  | succ n ih =>
    rw [bestK, if_neg, ih]
    intro h
    have := (comm_le (base.drop n) s).2
    omega
section
variable {H : Type}
def plDat (l : List Nat) : DataW H := if l = [] then .nil else .slice (lits .i64 (l.map Int.ofNat)) []
/-- the map as it reads behind m places -/
def PlD (base : List UInt8) (m : Nat) (D : DataW H) : Prop := IsMap D ∧ ∀ key : List UInt8, D.atKey (.string key) .nil = plDat (pl base key m)
theorem PlD_start (base : List UInt8) : PlD base 0 (.map [] : DataW H) := ⟨isMap_empty, fun key => rfl⟩
theorem lits_inj {a b : List Int} (h : lits (H := H) .i64 a = lits .i64 b) : a = b := by
  unfold lits at h
  exact (List.map_inj_right (fun x y hxy => by injection hxy with hxy; injection hxy)).1 h
theorem PlD_at {base key : List UInt8} {m : Nat} {D : DataW H} {w : World} {B : Nat} {e : TypeId} {v : Value} {zs : List Int} (h : PlD base m D) (ho : w.ownsInts B e .i64 v zs) (hat : D.atKey (.string key) .nil = rowDatum .i64 v zs) : zs = (pl base key m).map Int.ofNat := by
  have h1 := (h.2 key).symm.trans hat
  unfold plDat at h1
  rcases ho.datum (H := H) with ⟨h2, h3⟩ | h2
  · rw [h2] at h1
    split at h1
    · rename_i h4; rw [h4, h3]; rfl
    · cases h1
  · rw [h2] at h1
    split at h1
    · cases h1
    · injection h1 with h1 _
      exact (lits_inj h1).symm
theorem PlD_step {base : List UInt8} {m : Nat} {D : DataW H} (h : PlD base m D) : PlD base (m + 1) (D.put (.string ((base.drop m).take 8)) (.slice (lits .i64 ((pl base ((base.drop m).take 8) m).map Int.ofNat ++ [(m : Int)])) [])) := by
  refine ⟨h.1.put _ _, fun key => ?_⟩
  by_cases hk : (base.drop m).take 8 = key
  · rw [hk, atKey_put_same h.1 (show WideAt.IsKeyLit (Lit.string key) from trivial)]
    rw [show pl base key (m + 1) = pl base key m ++ [m] by rw [pl, if_pos hk]]
    unfold plDat
    rw [if_neg (by simp)]
    simp
  · rw [atKey_put_other (by intro e; injection e with e; exact hk e.symm), h.2 key]
    rw [show pl base key (m + 1) = pl base key m by rw [pl, if_neg hk]]
end
end Go.Proofs.Ytlkpgefapcfdbaa
