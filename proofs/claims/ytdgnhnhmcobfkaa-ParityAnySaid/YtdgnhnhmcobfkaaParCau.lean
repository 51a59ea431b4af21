/- Any rows of 1 and 0 and of the Cauchy matrix: no kernel. Plain. -/
import Derived.Test.YtdgnhnhmcobfkaaParPick
namespace Go.Proofs.Ytdgnhnhmcobfkaa
set_option linter.unusedVariables false
set_option linter.unusedSimpArgs false
/-- how many of v's first k are not nought -/
def nz (v : Nat → UInt8) : Nat → Nat
  | 0 => 0
  | k + 1 => nz v k + if v k = 0 then 0 else 1
theorem nz_le (v w : Nat → UInt8) (h : ∀ j, v j = 0 → w j = 0) : ∀ k, nz w k ≤ nz v k
  | 0 => Nat.le_refl _
  | k + 1 => by
    have := nz_le v w h k
    unfold nz
    by_cases e : v k = 0
    · rw [if_pos e, if_pos (h k e)]; omega
    · rw [if_neg e]; split <;> omega
theorem nz_lt (v w : Nat → UInt8) (h : ∀ j, v j = 0 → w j = 0) (j0 : Nat) (h0 : v j0 ≠ 0) (h1 : w j0 = 0) : ∀ k, j0 < k → nz w k < nz v k
  | 0, hk => by omega
  | k + 1, hk => by
    unfold nz
    by_cases e : j0 = k
    · subst e
      have := nz_le v w h j0
      rw [if_neg h0, if_pos h1]; omega
    · have := nz_lt v w h j0 h0 h1 k (by omega)
      by_cases e2 : v k = 0
      · rw [if_pos e2, if_pos (h k e2)]; omega
      · rw [if_neg e2]; split <;> omega
theorem nz_zero (v : Nat → UInt8) : ∀ k, nz v k = 0 → ∀ j, j < k → v j = 0
  | 0, _, j, hj => by omega
  | k + 1, h, j, hj => by
    unfold nz at h
    by_cases e : j = k
    · subst e
      by_cases e2 : v j = 0
      · exact e2
      · rw [if_neg e2] at h; omega
    · exact nz_zero v k (by omega) j (by omega)
theorem um_zero_iff {a b : UInt8} (h : um a b = 0) (hb : b ≠ 0) : a = 0 := um_cancel hb h
theorem ui_ne {a : UInt8} (h : a ≠ 0) : ui a ≠ 0 := fun e => by
  have := um_ui a h
  rw [e, um_zero] at this
  exact absurd this (by decide)
theorem ui_um (a : UInt8) (h : a ≠ 0) : um (ui a) a = 1 := by rw [um_comm, um_ui a h]
theorem xor_ne {a b : UInt8} (h : a ≠ b) : a ^^^ b ≠ 0 := fun e => h (xor_eq_zero e)
/-- 1/(x+a) + 1/(y+a) = (x+y) 1/(x+a) 1/(y+a) -/
theorem ui_sum (p q : UInt8) (hp : p ≠ 0) (hq : q ≠ 0) : ui p ^^^ ui q = um (p ^^^ q) (um (ui p) (ui q)) := by
  rw [add_um]
  have e1 : um p (um (ui p) (ui q)) = ui q := by rw [um_assoc, um_ui p hp, one_um]
  have e2 : um q (um (ui p) (ui q)) = ui p := by rw [um_comm (ui p), um_assoc, um_ui q hq, one_um]
  rw [e1, e2, UInt8.xor_comm]
instance : Std.Associative um := ⟨fun a b c => (um_assoc a b c).symm⟩
instance : Std.Commutative um := ⟨um_comm⟩
theorem um_ac (D E a b z : UInt8) : um D (um (um E (um a b)) z) = um E (um a (um (um D b) z)) := by ac_rfl
/-- a sum over Cauchy's row x: so many rows as v has places that are not nought: v is nought -/
theorem cauchy (k : Nat) (y : Nat → UInt8) (hy : ∀ i j, i < k → j < k → y i = y j → i = j) : ∀ (xs : List UInt8) (v : Nat → UInt8), xs.Nodup → (∀ x ∈ xs, ∀ j, j < k → x ≠ y j) → nz v k ≤ xs.length →
    (∀ x ∈ xs, sg k (fun j => um (ui (x ^^^ y j)) (v j)) = 0) → ∀ j, j < k → v j = 0
  | [], v, _, _, hn, _ => nz_zero v k (by simpa using hn)
  | x :: xs, v, hnd, hxy, hn, hs => by
    rw [List.nodup_cons] at hnd
    by_cases hz : ∀ j, j < k → v j = 0
    · exact hz
    · exfalso
      obtain ⟨j0, hj0⟩ := Classical.not_forall.1 hz
      obtain ⟨hj, hv0⟩ := Classical.not_imp.1 hj0
      have hxne : ∀ j, j < k → x ^^^ y j ≠ 0 := fun j hj => xor_ne (hxy x (by simp) j hj)
      -- the smaller vector
      let w : Nat → UInt8 := fun j => um (um (y j ^^^ y j0) (ui (x ^^^ y j))) (v j)
      have hw0 : w j0 = 0 := by show um (um (y j0 ^^^ y j0) _) _ = 0; rw [xx, zero_um, zero_um]
      have hwv : ∀ j, v j = 0 → w j = 0 := fun j h => by show um _ (v j) = 0; rw [h, um_zero]
      have hwz := cauchy k y hy xs w hnd.2 (fun x' hx' j hj => hxy x' (by simp [hx']) j hj) (by
        have := nz_lt v w hwv j0 hv0 hw0 k hj
        simp at hn; omega) (fun x' hx' => by
        have hx'ne : ∀ j, j < k → x' ^^^ y j ≠ 0 := fun j hj => xor_ne (hxy x' (by simp [hx']) j hj)
        have hxx : x' ^^^ x ≠ 0 := xor_ne (fun e => hnd.1 (e ▸ hx'))
        -- (x'+y0) S(x') + (x+y0) S(x) = (x'+x) W(x')
        have key : um (x' ^^^ y j0) (sg k (fun j => um (ui (x' ^^^ y j)) (v j))) ^^^ um (x ^^^ y j0) (sg k (fun j => um (ui (x ^^^ y j)) (v j))) = um (x' ^^^ x) (sg k (fun j => um (ui (x' ^^^ y j)) (w j))) := by
          rw [um_sg, um_sg, um_sg, ← sg_add]
          refine sg_congr fun j hjk => ?_
          have hp := hx'ne j hjk
          have hq := hxne j hjk
          have hwj : w j = um (um (y j ^^^ y j0) (ui (x ^^^ y j))) (v j) := rfl
          rw [hwj]
          clear hwj
          clear hwv hw0
          clear_value w
          generalize hP : x' ^^^ y j = P at *
          generalize hQ : x ^^^ y j = Q at *
          have e1 : x' ^^^ y j0 = P ^^^ (y j ^^^ y j0) := by rw [← hP, UInt8.xor_assoc, ← UInt8.xor_assoc (y j), xx, UInt8.zero_xor]
          have e2 : x ^^^ y j0 = Q ^^^ (y j ^^^ y j0) := by rw [← hQ, UInt8.xor_assoc, ← UInt8.xor_assoc (y j), xx, UInt8.zero_xor]
          have e3 : x' ^^^ x = P ^^^ Q := by rw [← hP, ← hQ, x22, xx, UInt8.xor_zero]
          rw [e1, e2, e3]
          clear e1 e2 e3
          show um (P ^^^ (y j ^^^ y j0)) (um (ui P) (v j)) ^^^ um (Q ^^^ (y j ^^^ y j0)) (um (ui Q) (v j)) = um (P ^^^ Q) (um (ui P) (um (um (y j ^^^ y j0) (ui Q)) (v j)))
          generalize y j ^^^ y j0 = D
          generalize v j = z
          rw [add_um, add_um, um_assoc P, um_ui P hp, one_um, um_assoc Q, um_ui Q hq, one_um, x22, xx, UInt8.zero_xor, ← um_add, ← add_um]
          rw [ui_sum P Q hp hq]
          generalize P ^^^ Q = E
          generalize ui P = a
          generalize ui Q = b
          exact um_ac D E a b z
        have h1 := hs x' (by simp [hx'])
        have h2 := hs x (by simp)
        rw [h1, h2, um_zero, um_zero, xx] at key
        exact um_cancel hxx (by rw [um_comm]; exact key.symm))
      -- all but j0 are nought
      have hall : ∀ j, j < k → j ≠ j0 → v j = 0 := fun j hjk hne => by
        have hw : um (um (y j ^^^ y j0) (ui (x ^^^ y j))) (v j) = 0 := hwz j hjk
        have hyy : y j ^^^ y j0 ≠ 0 := xor_ne (fun e => hne (hy j j0 hjk hj e))
        rw [← um_assoc, um_comm] at hw
        have h2 := um_cancel hyy hw
        rw [um_comm] at h2
        exact um_cancel (ui_ne (hxne j hjk)) h2
      have hsx := hs x (by simp)
      rw [sg_one (i := j0) _ hj (fun j hjk hne => by rw [hall j hjk hne, um_zero])] at hsx
      rw [um_comm] at hsx
      exact hv0 (um_cancel (ui_ne (hxne j0 hj)) hsx)
end Go.Proofs.Ytdgnhnhmcobfkaa
