/- Plain: the order of texts, and rising lists of them. (cut from KeysMerge and KeysPlain by program) -/
import Derived.WalkKit
namespace Go.Proofs.Yteidlngffikboaa
set_option linter.unusedVariables false
set_option linter.unusedSimpArgs false
instance memDec (z : ByteArray) (l : List ByteArray) : Decidable (z ∈ l) := decidable_of_iff (l.any (fun x => decide (x = z)) = true) (by simp)
theorem less_asymm : ∀ {l m : List UInt8}, Op.bytesLess l m = true → Op.bytesLess m l = false
  | _, [], h => by rw [Op.bytesLess.eq_1] at h; exact absurd h (by decide)
  | [], d :: m, _ => by rw [Op.bytesLess.eq_1]
  | c :: l, d :: m, h => by
    have hc : c < d ↔ c.toNat < d.toNat := Iff.rfl
    have hd : d < c ↔ d.toNat < c.toNat := Iff.rfl
    have he : c = d ↔ c.toNat = d.toNat := UInt8.toNat_inj.symm
    have hf : d = c ↔ d.toNat = c.toNat := UInt8.toNat_inj.symm
    rw [Op.bytesLess.eq_3] at h ⊢
    have ih := @less_asymm l m
    simp [hc, hd, he, hf] at h ⊢
    refine ⟨by omega, fun e => ?_⟩
    rcases h with h | ⟨_, h⟩
    · omega
    · exact ih h
theorem less_total : ∀ {l m : List UInt8}, Op.bytesLess l m = false → Op.bytesLess m l = false → l = m
  | [], [], _, _ => rfl
  | c :: l, [], _, h => by rw [Op.bytesLess.eq_2] at h; exact absurd h (by decide)
  | [], d :: m, h, _ => by rw [Op.bytesLess.eq_2] at h; exact absurd h (by decide)
  | c :: l, d :: m, h, h' => by
    have hc : c < d ↔ c.toNat < d.toNat := Iff.rfl
    have hd : d < c ↔ d.toNat < c.toNat := Iff.rfl
    have he : c = d ↔ c.toNat = d.toNat := UInt8.toNat_inj.symm
    have hf : d = c ↔ d.toNat = c.toNat := UInt8.toNat_inj.symm
    rw [Op.bytesLess.eq_3] at h h'
    simp [hc, hd, he, hf] at h h'
    have e : c.toNat = d.toNat := by omega
    rw [UInt8.toNat_inj.1 e, less_total (h.2 e) (h'.2 e.symm)]
theorem less_irrefl (l : List UInt8) : Op.bytesLess l l = false := by
  cases h : Op.bytesLess l l
  · rfl
  · rw [less_asymm h] at h; exact absurd h (by decide)
theorem toList_ne {x y : ByteArray} (h : x ≠ y) : (x.toList == y.toList) = false := by
  rw [beq_eq_false_iff_ne, ByteArray.toList_eq, ByteArray.toList_eq]
  intro e
  exact h (ByteArray.ext (Array.toList_inj.1 e))
/-- what is left of a list behind its first text -/
theorem less_eq : ∀ (x y : List UInt8), Op.bytesLess x y = decide (x < y)
  | [], [] => by simp [Op.bytesLess]
  | _ :: _, [] => by simp [Op.bytesLess]
  | [], _ :: _ => by simp [Op.bytesLess]
  | a :: x, b :: y => by
    rw [Op.bytesLess, less_eq x y]
    simp only [List.cons_lt_cons_iff]
    by_cases h1 : a < b <;> by_cases h2 : a = b <;> by_cases h3 : x < y <;> simp [h1, h2, h3]
theorem less_trans : ∀ {l m n : List UInt8}, Op.bytesLess l m = true → Op.bytesLess m n = true → Op.bytesLess l n = true
  | _, [], _, h, _ => by rw [Op.bytesLess.eq_1] at h; exact absurd h (by decide)
  | _, _ :: _, [], _, h => by rw [Op.bytesLess.eq_1] at h; exact absurd h (by decide)
  | [], c :: m, d :: n, _, _ => by rw [Op.bytesLess.eq_2]
  | b :: l, c :: m, d :: n, h, h' => by
    have h1 : b < c ↔ b.toNat < c.toNat := Iff.rfl
    have h2 : c < d ↔ c.toNat < d.toNat := Iff.rfl
    have h3 : b < d ↔ b.toNat < d.toNat := Iff.rfl
    have e1 : b = c ↔ b.toNat = c.toNat := UInt8.toNat_inj.symm
    have e2 : c = d ↔ c.toNat = d.toNat := UInt8.toNat_inj.symm
    have e3 : b = d ↔ b.toNat = d.toNat := UInt8.toNat_inj.symm
    rw [Op.bytesLess.eq_3] at h h' ⊢
    have ih := @less_trans l m n
    simp [h1, h2, h3, e1, e2, e3] at h h' ⊢
    rcases h with h | ⟨h, hl⟩
    · rcases h' with h' | ⟨h', hl'⟩
      · left; omega
      · left; omega
    · rcases h' with h' | ⟨h', hl'⟩
      · left; omega
      · right; exact ⟨by omega, ih hl hl'⟩
def bl (x y : ByteArray) : Bool := Op.bytesLess x.data.toList y.data.toList
theorem bl_trans {x y z : ByteArray} (h : bl x y = true) (h' : bl y z = true) : bl x z = true := less_trans h h'
theorem bl_irrefl (x : ByteArray) : bl x x = false := less_irrefl _
theorem bl_asymm {x y : ByteArray} (h : bl x y = true) : bl y x = false := less_asymm h
theorem bl_total {x y : ByteArray} (h : bl x y = false) (h' : bl y x = false) : x = y := ByteArray.ext (Array.toList_inj.1 (less_total h h'))
def Ris (l : List ByteArray) : Prop := l.Pairwise (fun x y => bl x y = true)
instance risDec (l : List ByteArray) : Decidable (Ris l) := by unfold Ris; infer_instance
theorem ris_cons {x : ByteArray} {l : List ByteArray} : Ris (x :: l) ↔ (∀ y ∈ l, bl x y = true) ∧ Ris l := List.pairwise_cons
theorem ris_ext : ∀ {a b : List ByteArray}, Ris a → Ris b → (∀ x, x ∈ a ↔ x ∈ b) → a = b
  | [], [], _, _, _ => rfl
  | [], y :: ys, _, _, h => absurd ((h y).2 (by simp)) (by simp)
  | x :: xs, [], _, _, h => absurd ((h x).1 (by simp)) (by simp)
  | x :: xs, y :: ys, ha, hb, h => by
    obtain ⟨ha1, ha2⟩ := ris_cons.1 ha
    obtain ⟨hb1, hb2⟩ := ris_cons.1 hb
    have e : x = y := by
      rcases List.mem_cons.1 ((h x).1 (by simp)) with e | hx
      · exact e
      rcases List.mem_cons.1 ((h y).2 (by simp)) with e | hy
      · exact e.symm
      have := bl_asymm (hb1 x hx)
      rw [ha1 y hy] at this
      exact absurd this (by decide)
    subst e
    rw [ris_ext ha2 hb2 fun z => ?_]
    constructor
    · intro hz
      rcases List.mem_cons.1 ((h z).1 (by simp [hz])) with e | hz'
      · subst e; have := ha1 z hz; rw [bl_irrefl] at this; exact absurd this (by decide)
      · exact hz'
    · intro hz
      rcases List.mem_cons.1 ((h z).2 (by simp [hz])) with e | hz'
      · subst e; have := hb1 z hz; rw [bl_irrefl] at this; exact absurd this (by decide)
      · exact hz'
theorem ris_nmem {x : ByteArray} {l : List ByteArray} (h : ∀ y ∈ l, bl x y = true) : x ∉ l := fun hx => by
  have := h x hx; rw [bl_irrefl] at this; exact absurd this (by decide)
end Go.Proofs.Yteidlngffikboaa
