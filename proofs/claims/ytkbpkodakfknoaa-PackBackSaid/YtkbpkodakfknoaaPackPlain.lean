/- Plain: slots in the order of their keys; a key's place; one more slot. -/
import Derived.Test.YtkbpkodakfknoaaWords
import Derived.Lib.Hide
import Derived.Laws.AppendOwn
namespace Go.Proofs.Ytkbpkodakfknoaa
open Go.RowKit
set_option linter.unusedVariables false
set_option linter.unusedSimpArgs false
theorem less_asymm : ∀ {l m : List UInt8}, Op.bytesLess l m = true → Op.bytesLess m l = false
  | _, [], h => by rw [Op.bytesLess.eq_1] at h; exact absurd h (by decide)
  | [], d :: m, _ => by rw [Op.bytesLess.eq_1]
  | c :: l, d :: m, h => by
    have hc : c < d ↔ c.toNat < d.toNat := Iff.rfl
    have hd : d < c ↔ d.toNat < c.toNat := Iff.rfl
    have he : c = d ↔ c.toNat = d.toNat := UInt8.toNat_inj.symm
    have hf : d = c ↔ d.toNat = c.toNat := UInt8.toNat_inj.symm
    rw [Op.bytesLess.eq_3] at h ⊢
    have ih := @less_asymm l m
    simp [hc, hd, he, hf] at h ⊢
    refine ⟨by omega, fun e => ?_⟩
    rcases h with h | ⟨_, h⟩
    · omega
    · exact ih h
theorem less_irrefl (l : List UInt8) : Op.bytesLess l l = false := by
  cases h : Op.bytesLess l l
  · rfl
  · rw [less_asymm h] at h; exact absurd h (by decide)
theorem less_total : ∀ {l m : List UInt8}, Op.bytesLess l m = false → Op.bytesLess m l = false → l = m
  | [], [], _, _ => rfl
  | c :: l, [], _, h => by rw [Op.bytesLess.eq_2] at h; exact absurd h (by decide)
  | [], d :: m, h, _ => by rw [Op.bytesLess.eq_2] at h; exact absurd h (by decide)
  | c :: l, d :: m, h, h' => by
    have hc : c < d ↔ c.toNat < d.toNat := Iff.rfl
    have hd : d < c ↔ d.toNat < c.toNat := Iff.rfl
    have he : c = d ↔ c.toNat = d.toNat := UInt8.toNat_inj.symm
    have hf : d = c ↔ d.toNat = c.toNat := UInt8.toNat_inj.symm
    rw [Op.bytesLess.eq_3] at h h'
    simp [hc, hd, he, hf] at h h'
    have e : c.toNat = d.toNat := by omega
    rw [UInt8.toNat_inj.1 e, less_total (h.2 e) (h'.2 e.symm)]
theorem less_trans : ∀ {l m n : List UInt8}, Op.bytesLess l m = true → Op.bytesLess m n = true → Op.bytesLess l n = true
  | _, [], _, h, _ => by rw [Op.bytesLess.eq_1] at h; exact absurd h (by decide)
  | _, _ :: _, [], _, h => by rw [Op.bytesLess.eq_1] at h; exact absurd h (by decide)
  | [], c :: m, d :: n, _, _ => by rw [Op.bytesLess.eq_2]
  | b :: l, c :: m, d :: n, h, h' => by
    have h1 : b < c ↔ b.toNat < c.toNat := Iff.rfl
    have h2 : c < d ↔ c.toNat < d.toNat := Iff.rfl
    have h3 : b < d ↔ b.toNat < d.toNat := Iff.rfl
    have e1 : b = c ↔ b.toNat = c.toNat := UInt8.toNat_inj.symm
    have e2 : c = d ↔ c.toNat = d.toNat := UInt8.toNat_inj.symm
    have e3 : b = d ↔ b.toNat = d.toNat := UInt8.toNat_inj.symm
    rw [Op.bytesLess.eq_3] at h h' ⊢
    have ih := @less_trans l m n
    simp [h1, h2, h3, e1, e2, e3] at h h' ⊢
    rcases h with h | ⟨h, hl⟩
    · rcases h' with h' | ⟨h', hl'⟩
      · left; omega
      · left; omega
    · rcases h' with h' | ⟨h', hl'⟩
      · left; omega
      · right; exact ⟨by omega, ih hl hl'⟩
def bl (x y : ByteArray) : Bool := Op.bytesLess x.data.toList y.data.toList
theorem bl_trans {x y z : ByteArray} (h : bl x y = true) (h' : bl y z = true) : bl x z = true := less_trans h h'
theorem bl_irrefl (x : ByteArray) : bl x x = false := less_irrefl _
theorem bl_asymm {x y : ByteArray} (h : bl x y = true) : bl y x = false := less_asymm h
theorem bl_total {x y : ByteArray} (h : bl x y = false) (h' : bl y x = false) : x = y := ByteArray.ext (Array.toList_inj.1 (less_total h h'))
/-- a slot: key, place, size -/
abbrev Slt := ByteArray × Int × Int
def ESlt (x : Slt) : List Value := [.string x.1, .int .i64 x.2.1, .int .i64 x.2.2]
def slts (l : List Slt) : List Value := l.flatMap ESlt
theorem slts_len (l : List Slt) : (slts l).length = l.length * 3 := by
  induction l with
  | nil => rfl
  | cons x l ih => simp only [slts, List.flatMap_cons, List.length_append] at ih ⊢; rw [ih]; simp [ESlt]; omega
theorem slts_append (a b : List Slt) : slts (a ++ b) = slts a ++ slts b := by simp [slts]
theorem slts_take : ∀ (l : List Slt) (i : Nat), (slts l).take (i * 3) = slts (l.take i)
  | [], i => by simp [slts]
  | x :: l, 0 => by simp [slts]
  | x :: l, i + 1 => by
    have ih := slts_take l i
    show (ESlt x ++ slts l).take ((i + 1) * 3) = ESlt x ++ slts (l.take i)
    rw [show (i + 1) * 3 = (ESlt x).length + i * 3 by simp [ESlt]; omega, List.take_length_add_append, ih]
theorem slts_drop : ∀ (l : List Slt) (i : Nat), (slts l).drop (i * 3) = slts (l.drop i)
  | [], i => by simp [slts]
  | x :: l, 0 => by simp [slts]
  | x :: l, i + 1 => by
    have ih := slts_drop l i
    show (ESlt x ++ slts l).drop ((i + 1) * 3) = slts (l.drop i)
    rw [show (i + 1) * 3 = (ESlt x).length + i * 3 by simp [ESlt]; omega, List.drop_length_add_append, ih]
theorem slts_one {l : List Slt} : ∀ v ∈ slts l, v.oneCell' = true := by
  intro v hv
  obtain ⟨x, _, hx⟩ := List.mem_flatMap.1 hv
  simp [ESlt] at hx
  rcases hx with rfl | rfl | rfl <;> rfl
theorem slts_get (l : List Slt) (i : Nat) (h : i < l.length) : (slts l)[i * 3]? = some (.string l[i].1) ∧ (slts l)[i * 3 + 1]? = some (.int .i64 l[i].2.1) ∧ (slts l)[i * 3 + 2]? = some (.int .i64 l[i].2.2) := by
  have hd : (slts l).drop (i * 3) = ESlt l[i] ++ slts (l.drop (i + 1)) := by
    rw [slts_drop, List.drop_eq_getElem_cons h]; rfl
  refine ⟨?_, ?_, ?_⟩
  · have : ((slts l).drop (i * 3))[0]? = some (.string l[i].1) := by rw [hd]; rfl
    simpa using this
  · have : ((slts l).drop (i * 3))[1]? = some (.int .i64 l[i].2.1) := by rw [hd]; rfl
    simpa using this
  · have : ((slts l).drop (i * 3))[2]? = some (.int .i64 l[i].2.2) := by rw [hd]; rfl
    simpa using this
def RisS (l : List Slt) : Prop := l.Pairwise fun x y => bl x.1 y.1 = true
/-- where a key stands, or would stand -/
def place (l : List Slt) (k : ByteArray) : Nat := (l.takeWhile fun x => bl x.1 k).length
theorem place_le (l : List Slt) (k : ByteArray) : place l k ≤ l.length := by
  unfold place
  have := congrArg List.length (List.takeWhile_append_dropWhile (p := fun x : Slt => bl x.1 k) (l := l))
  rw [List.length_append] at this
  omega
theorem place_lt : ∀ (l : List Slt) (k : ByteArray), RisS l → ∀ (i : Nat) (h : i < l.length), bl l[i].1 k = decide (i < place l k)
  | [], k, _, i, h => absurd h (Nat.not_lt_zero _)
  | x :: l, k, hr, i, h => by
    obtain ⟨hx, hl⟩ := List.pairwise_cons.1 hr
    by_cases hk : bl x.1 k = true
    · have hp : place (x :: l) k = place l k + 1 := by simp [place, List.takeWhile_cons, hk]
      cases i with
      | zero => rw [hp]; simpa using hk
      | succ i =>
        have := place_lt l k hl i (by simpa using h)
        rw [hp]
        simp only [List.getElem_cons_succ, this]
        simp
    · have hk' : bl x.1 k = false := by simpa using hk
      have hp : place (x :: l) k = 0 := by simp [place, List.takeWhile_cons, hk']
      rw [hp]
      simp only [Nat.not_lt_zero, decide_false]
      cases i with
      | zero => simpa using hk'
      | succ i =>
        have hi' : i < l.length := by simpa using h
        simp only [List.getElem_cons_succ]
        cases hb : bl l[i].1 k with
        | false => rfl
        | true =>
          have := hx l[i] (List.getElem_mem _)
          exact absurd (bl_trans this hb) (by rw [hk']; decide)
def cmpS (a b : ByteArray) : Int := if bl a b = true then -1 else if bl b a = true then 1 else 0
theorem cmpS_zero {a b : ByteArray} : cmpS a b = 0 ↔ a = b := by
  unfold cmpS
  constructor
  · intro h
    cases h1 : bl a b with
    | true => rw [h1] at h; simp at h
    | false =>
      cases h2 : bl b a with
      | true => rw [h1, h2] at h; simp at h
      | false => exact bl_total h1 h2
  · rintro rfl; simp [bl_irrefl]
theorem cmpS_neg {a b : ByteArray} : decide (cmpS a b < 0) = bl a b := by
  unfold cmpS
  cases h1 : bl a b with
  | true => simp
  | false => cases h2 : bl b a <;> simp
/-- is the key there? -/
def hasAt (l : List Slt) (k : ByteArray) : Bool := match l[place l k]? with | some x => decide (x.1 = k) | none => false
theorem hasAt_iff {l : List Slt} (k : ByteArray) (hr : RisS l) : hasAt l k = true ↔ ∃ x ∈ l, x.1 = k := by
  constructor
  · intro h
    unfold hasAt at h
    cases hq : l[place l k]? with
    | none => rw [hq] at h; cases h
    | some x => rw [hq] at h; exact ⟨x, List.mem_of_getElem? hq, by simpa using h⟩
  · rintro ⟨x, hx, rfl⟩
    obtain ⟨i, hi, rfl⟩ := List.getElem_of_mem hx
    have h1 := place_lt l l[i].1 hr i hi
    rw [bl_irrefl] at h1
    have h2 : place l l[i].1 ≤ i := by simpa using h1.symm
    have h3 : place l l[i].1 = i := by
      rcases Nat.lt_or_ge (place l l[i].1) i with h4 | h4
      · have h5 := List.pairwise_iff_getElem.1 hr (place l l[i].1) i (by omega) hi h4
        rw [place_lt l l[i].1 hr _ (by omega)] at h5
        simp at h5
      · omega
    unfold hasAt
    rw [h3, List.getElem?_eq_getElem hi]
    simp
/-- one more slot, unless its key has one -/
def addS (l : List Slt) (x : Slt) : List Slt := if hasAt l x.1 = true then l else l.take (place l x.1) ++ [x] ++ l.drop (place l x.1)
theorem addS_ris {l : List Slt} (x : Slt) (hr : RisS l) : RisS (addS l x) := by
  unfold addS
  split
  · exact hr
  · rename_i hh
    have hp := place_lt l x.1 hr
    have hno : ∀ y ∈ l, y.1 ≠ x.1 := fun y hy e => hh ((hasAt_iff x.1 hr).2 ⟨y, hy, e⟩)
    unfold RisS
    rw [List.append_assoc, List.pairwise_append]
    refine ⟨hr.sublist (List.take_sublist _ _), ?_, ?_⟩
    · rw [List.singleton_append, List.pairwise_cons]
      refine ⟨fun y hy => ?_, hr.sublist (List.drop_sublist _ _)⟩
      obtain ⟨i, hi, rfl⟩ := List.getElem_of_mem hy
      rw [List.length_drop] at hi
      rw [List.getElem_drop]
      have h1 := hp (place l x.1 + i) (by omega)
      have h2 : bl l[place l x.1 + i].1 x.1 = false := by rw [h1]; simp
      cases h3 : bl x.1 l[place l x.1 + i].1 with
      | true => rfl
      | false => exact absurd (bl_total h2 h3) (hno _ (List.getElem_mem _))
    · intro y hy z hz
      obtain ⟨i, hi, rfl⟩ := List.getElem_of_mem hy
      rw [List.length_take] at hi
      have h1 : bl (l.take (place l x.1))[i].1 x.1 = true := by
        rw [List.getElem_take, hp i (by omega)]; simp; omega
      rcases List.mem_append.1 hz with hz | hz
      · rw [List.mem_singleton.1 hz]; exact h1
      · obtain ⟨j, hj, rfl⟩ := List.getElem_of_mem hz
        rw [List.length_drop] at hj
        rw [List.getElem_drop, List.getElem_take]
        exact List.pairwise_iff_getElem.1 hr i (place l x.1 + j) (by omega) (by omega) (by omega)
theorem addS_len (l : List Slt) (x : Slt) : (addS l x).length ≤ l.length + 1 := by
  unfold addS
  split
  · omega
  · simp; have := place_le l x.1; omega
theorem addS_mem {l : List Slt} (x y : Slt) (h : y ∈ addS l x) : y ∈ l ∨ y = x := by
  unfold addS at h
  split at h
  · exact .inl h
  · rw [List.append_assoc, List.mem_append, List.mem_append] at h
    rcases h with h | h | h
    · exact .inl (List.mem_of_mem_take h)
    · exact .inr (List.mem_singleton.1 h)
    · exact .inl (List.mem_of_mem_drop h)
theorem addS_has {l : List Slt} (x : Slt) : (∃ y ∈ addS l x, y.1 = x.1) ∧ ∀ y ∈ l, y ∈ addS l x := by
  unfold addS
  split
  · rename_i h
    refine ⟨?_, fun y hy => hy⟩
    unfold hasAt at h
    cases hq : l[place l x.1]? with
    | none => rw [hq] at h; cases h
    | some z => rw [hq] at h; exact ⟨z, List.mem_of_getElem? hq, by simpa using h⟩
  · refine ⟨⟨x, by simp, rfl⟩, fun y hy => ?_⟩
    rw [← List.take_append_drop (place l x.1) l] at hy
    rcases List.mem_append.1 hy with h | h
    · simp [h]
    · simp [h]
end Go.Proofs.Ytkbpkodakfknoaa
