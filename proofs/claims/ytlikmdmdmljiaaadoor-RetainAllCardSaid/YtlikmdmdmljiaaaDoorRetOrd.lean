/- The order of names: plain (lines of PackPlain). -/
import Derived.Test.YtlikmdmdmljiaaaDoorRetPl5
import Derived.Test.YtlikmdmdmljiaaaDoorWords
namespace Go.Proofs.YtlikmdmdmljiaaaDoor
open Go.RowKit
set_option linter.unusedVariables false
set_option linter.unusedSimpArgs false
theorem less_asymm : ∀ {l m : List UInt8}, Op.bytesLess l m = true → Op.bytesLess m l = false
  | _, [], h => by rw [Op.bytesLess.eq_1] at h; exact absurd h (by decide)
  | [], d :: m, _ => by rw [Op.bytesLess.eq_1]
  | c :: l, d :: m, h => by
    have hc : c < d ↔ c.toNat < d.toNat := Iff.rfl
    have hd : d < c ↔ d.toNat < c.toNat := Iff.rfl
    have he : c = d ↔ c.toNat = d.toNat := UInt8.toNat_inj.symm
    have hf : d = c ↔ d.toNat = c.toNat := UInt8.toNat_inj.symm
    rw [Op.bytesLess.eq_3] at h ⊢
    have ih := @less_asymm l m
    simp [hc, hd, he, hf] at h ⊢
    refine ⟨by omega, fun e => ?_⟩
    rcases h with h | ⟨_, h⟩
    · omega
    · exact ih h
theorem less_irrefl (l : List UInt8) : Op.bytesLess l l = false := by
  cases h : Op.bytesLess l l
  · rfl
  · rw [less_asymm h] at h; exact absurd h (by decide)
theorem less_total : ∀ {l m : List UInt8}, Op.bytesLess l m = false → Op.bytesLess m l = false → l = m
  | [], [], _, _ => rfl
  | c :: l, [], _, h => by rw [Op.bytesLess.eq_2] at h; exact absurd h (by decide)
  | [], d :: m, h, _ => by rw [Op.bytesLess.eq_2] at h; exact absurd h (by decide)
  | c :: l, d :: m, h, h' => by
    have hc : c < d ↔ c.toNat < d.toNat := Iff.rfl
    have hd : d < c ↔ d.toNat < c.toNat := Iff.rfl
    have he : c = d ↔ c.toNat = d.toNat := UInt8.toNat_inj.symm
    have hf : d = c ↔ d.toNat = c.toNat := UInt8.toNat_inj.symm
    rw [Op.bytesLess.eq_3] at h h'
    simp [hc, hd, he, hf] at h h'
    have e : c.toNat = d.toNat := by omega
    rw [UInt8.toNat_inj.1 e, less_total (h.2 e) (h'.2 e.symm)]
theorem less_trans : ∀ {l m n : List UInt8}, Op.bytesLess l m = true → Op.bytesLess m n = true → Op.bytesLess l n = true
  | _, [], _, h, _ => by rw [Op.bytesLess.eq_1] at h; exact absurd h (by decide)
  | _, _ :: _, [], _, h => by rw [Op.bytesLess.eq_1] at h; exact absurd h (by decide)
  | [], c :: m, d :: n, _, _ => by rw [Op.bytesLess.eq_2]
  | b :: l, c :: m, d :: n, h, h' => by
    have h1 : b < c ↔ b.toNat < c.toNat := Iff.rfl
    have h2 : c < d ↔ c.toNat < d.toNat := Iff.rfl
    have h3 : b < d ↔ b.toNat < d.toNat := Iff.rfl
    have e1 : b = c ↔ b.toNat = c.toNat := UInt8.toNat_inj.symm
    have e2 : c = d ↔ c.toNat = d.toNat := UInt8.toNat_inj.symm
    have e3 : b = d ↔ b.toNat = d.toNat := UInt8.toNat_inj.symm
    rw [Op.bytesLess.eq_3] at h h' ⊢
    have ih := @less_trans l m n
    simp [h1, h2, h3, e1, e2, e3] at h h' ⊢
    rcases h with h | ⟨h, hl⟩
    · rcases h' with h' | ⟨h', hl'⟩
      · left; omega
      · left; omega
    · rcases h' with h' | ⟨h', hl'⟩
      · left; omega
      · right; exact ⟨by omega, ih hl hl'⟩
def bl (x y : ByteArray) : Bool := Op.bytesLess x.data.toList y.data.toList
theorem bl_trans {x y z : ByteArray} (h : bl x y = true) (h' : bl y z = true) : bl x z = true := less_trans h h'
theorem bl_irrefl (x : ByteArray) : bl x x = false := less_irrefl _
theorem bl_asymm {x y : ByteArray} (h : bl x y = true) : bl y x = false := less_asymm h
theorem bl_total {x y : ByteArray} (h : bl x y = false) (h' : bl y x = false) : x = y := ByteArray.ext (Array.toList_inj.1 (less_total h h'))
def cmpS (a b : ByteArray) : Int := if bl a b = true then -1 else if bl b a = true then 1 else 0
theorem nord_bl : NOrd bl := ⟨bl_irrefl, fun _ _ _ h h' => bl_trans h h', fun _ _ h h' => bl_total h h'⟩
/-- what 'order' answers -/
def ordM (x y : Mk) : Int := if y.2 < x.2 then -1 else if x.2 < y.2 then 1 else cmpS x.1 y.1
theorem ordM_lt (x y : Mk) : decide (ordM x y < 0) = ltM bl x y := by
  unfold ordM ltM
  by_cases h1 : y.2 < x.2
  · rw [if_pos h1]; simp [h1]
  · rw [if_neg h1]
    by_cases h2 : x.2 < y.2
    · rw [if_pos h2]
      have h3 : x.2 ≠ y.2 := by omega
      simp [h1, h3]
    · rw [if_neg h2]
      have h3 : x.2 = y.2 := by omega
      unfold cmpS
      cases h4 : bl x.1 y.1 with
      | true => simp [h1, h3]
      | false =>
        cases h5 : bl y.1 x.1 <;> simp [h1, h3]
end Go.Proofs.YtlikmdmdmljiaaaDoor
