/- Plain: rising lists of texts; merged ones; sorted and compacted ones; lists with one more. -/
import Derived.Test.YtjbnkheghafgoaaKeysMerge
import Derived.Lib.SlicesCompact
import Derived.Shelf.Spec.SearchS
namespace Go.Proofs.Ytjbnkheghafgoaa
set_option linter.unusedVariables false
set_option linter.unusedSimpArgs false
instance memDec (z : ByteArray) (l : List ByteArray) : Decidable (z ∈ l) := decidable_of_iff (l.any (fun x => decide (x = z)) = true) (by simp)
theorem less_eq : ∀ (x y : List UInt8), Op.bytesLess x y = decide (x < y)
  | [], [] => by simp [Op.bytesLess]
  | _ :: _, [] => by simp [Op.bytesLess]
  | [], _ :: _ => by simp [Op.bytesLess]
  | a :: x, b :: y => by
    rw [Op.bytesLess, less_eq x y]
    simp only [List.cons_lt_cons_iff]
    by_cases h1 : a < b <;> by_cases h2 : a = b <;> by_cases h3 : x < y <;> simp [h1, h2, h3]
theorem less_trans : ∀ {l m n : List UInt8}, Op.bytesLess l m = true → Op.bytesLess m n = true → Op.bytesLess l n = true
  | _, [], _, h, _ => by rw [Op.bytesLess.eq_1] at h; exact absurd h (by decide)
  | _, _ :: _, [], _, h => by rw [Op.bytesLess.eq_1] at h; exact absurd h (by decide)
  | [], c :: m, d :: n, _, _ => by rw [Op.bytesLess.eq_2]
  | b :: l, c :: m, d :: n, h, h' => by
    have h1 : b < c ↔ b.toNat < c.toNat := Iff.rfl
    have h2 : c < d ↔ c.toNat < d.toNat := Iff.rfl
    have h3 : b < d ↔ b.toNat < d.toNat := Iff.rfl
    have e1 : b = c ↔ b.toNat = c.toNat := UInt8.toNat_inj.symm
    have e2 : c = d ↔ c.toNat = d.toNat := UInt8.toNat_inj.symm
    have e3 : b = d ↔ b.toNat = d.toNat := UInt8.toNat_inj.symm
    rw [Op.bytesLess.eq_3] at h h' ⊢
    have ih := @less_trans l m n
    simp [h1, h2, h3, e1, e2, e3] at h h' ⊢
    rcases h with h | ⟨h, hl⟩
    · rcases h' with h' | ⟨h', hl'⟩
      · left; omega
      · left; omega
    · rcases h' with h' | ⟨h', hl'⟩
      · left; omega
      · right; exact ⟨by omega, ih hl hl'⟩
def bl (x y : ByteArray) : Bool := Op.bytesLess x.data.toList y.data.toList
theorem bl_trans {x y z : ByteArray} (h : bl x y = true) (h' : bl y z = true) : bl x z = true := less_trans h h'
theorem bl_irrefl (x : ByteArray) : bl x x = false := less_irrefl _
theorem bl_asymm {x y : ByteArray} (h : bl x y = true) : bl y x = false := less_asymm h
theorem bl_total {x y : ByteArray} (h : bl x y = false) (h' : bl y x = false) : x = y := ByteArray.ext (Array.toList_inj.1 (less_total h h'))
def Ris (l : List ByteArray) : Prop := l.Pairwise (fun x y => bl x y = true)
instance risDec (l : List ByteArray) : Decidable (Ris l) := by unfold Ris; infer_instance
theorem ris_cons {x : ByteArray} {l : List ByteArray} : Ris (x :: l) ↔ (∀ y ∈ l, bl x y = true) ∧ Ris l := List.pairwise_cons
theorem ris_ext : ∀ {a b : List ByteArray}, Ris a → Ris b → (∀ x, x ∈ a ↔ x ∈ b) → a = b
  | [], [], _, _, _ => rfl
  | [], y :: ys, _, _, h => absurd ((h y).2 (by simp)) (by simp)
  | x :: xs, [], _, _, h => absurd ((h x).1 (by simp)) (by simp)
  | x :: xs, y :: ys, ha, hb, h => by
    obtain ⟨ha1, ha2⟩ := ris_cons.1 ha
    obtain ⟨hb1, hb2⟩ := ris_cons.1 hb
    have e : x = y := by
      rcases List.mem_cons.1 ((h x).1 (by simp)) with e | hx
      · exact e
      rcases List.mem_cons.1 ((h y).2 (by simp)) with e | hy
      · exact e.symm
      have := bl_asymm (hb1 x hx)
      rw [ha1 y hy] at this
      exact absurd this (by decide)
    subst e
    rw [ris_ext ha2 hb2 fun z => ?_]
    constructor
    · intro hz
      rcases List.mem_cons.1 ((h z).1 (by simp [hz])) with e | hz'
      · subst e; have := ha1 z hz; rw [bl_irrefl] at this; exact absurd this (by decide)
      · exact hz'
    · intro hz
      rcases List.mem_cons.1 ((h z).2 (by simp [hz])) with e | hz'
      · subst e; have := hb1 z hz; rw [bl_irrefl] at this; exact absurd this (by decide)
      · exact hz'
theorem ris_nmem {x : ByteArray} {l : List ByteArray} (h : ∀ y ∈ l, bl x y = true) : x ∉ l := fun hx => by
  have := h x hx; rw [bl_irrefl] at this; exact absurd this (by decide)
/-- what is merged is of the two -/
theorem mMerge_sub (k : Bool → Bool → Bool) : ∀ (a b : List ByteArray) (z : ByteArray), z ∈ mMerge k a b → z ∈ a ∨ z ∈ b
  | [], [], z, h => by rw [mMerge_nn] at h; exact absurd h (by simp)
  | [], y :: ys, z, h => by
    rw [mMerge_ny, List.mem_append] at h
    rcases h with h | h
    · split at h
      · simp at h; exact .inr (by simp [h])
      · simp at h
    · rcases mMerge_sub k [] ys z h with h | h
      · exact .inl h
      · exact .inr (by simp [h])
  | x :: xs, [], z, h => by
    rw [mMerge_xn, List.mem_append] at h
    rcases h with h | h
    · split at h
      · simp at h; exact .inl (by simp [h])
      · simp at h
    · rcases mMerge_sub k xs [] z h with h | h
      · exact .inl (by simp [h])
      · exact .inr h
  | x :: xs, y :: ys, z, h => by
    rw [mMerge_xy] at h
    split at h
    · rw [List.mem_append] at h
      rcases h with h | h
      · split at h
        · simp at h; exact .inl (by simp [h])
        · simp at h
      · rcases mMerge_sub k xs (y :: ys) z h with h | h
        · exact .inl (by simp [h])
        · exact .inr h
    · split at h
      · rw [List.mem_append] at h
        rcases h with h | h
        · split at h
          · simp at h; exact .inr (by simp [h])
          · simp at h
        · rcases mMerge_sub k (x :: xs) ys z h with h | h
          · exact .inl h
          · exact .inr (by simp [h])
      · rw [List.mem_append] at h
        rcases h with h | h
        · split at h
          · simp at h; exact .inl (by simp [h])
          · simp at h
        · rcases mMerge_sub k xs ys z h with h | h
          · exact .inl (by simp [h])
          · exact .inr (by simp [h])
termination_by a b => a.length + b.length
theorem ris_head (c : Bool) {x : ByteArray} {l : List ByteArray} (h : ∀ z ∈ l, bl x z = true) (hl : Ris l) : Ris ((if c then [x] else []) ++ l) := by
  cases c
  · simpa using hl
  · exact ris_cons.2 ⟨h, hl⟩
theorem mMerge_ris (k : Bool → Bool → Bool) : ∀ (a b : List ByteArray), Ris a → Ris b → Ris (mMerge k a b)
  | [], [], ha, hb => by rw [mMerge_nn]; exact List.Pairwise.nil
  | [], y :: ys, ha, hb => by
    obtain ⟨h1, h2⟩ := ris_cons.1 hb
    rw [mMerge_ny]
    exact ris_head _ (fun z hz => (mMerge_sub k [] ys z hz).elim (fun h => absurd h (by simp)) (h1 z)) (mMerge_ris k [] ys ha h2)
  | x :: xs, [], ha, hb => by
    obtain ⟨h1, h2⟩ := ris_cons.1 ha
    rw [mMerge_xn]
    exact ris_head _ (fun z hz => (mMerge_sub k xs [] z hz).elim (h1 z) (fun h => absurd h (by simp))) (mMerge_ris k xs [] h2 hb)
  | x :: xs, y :: ys, ha, hb => by
    obtain ⟨a1, a2⟩ := ris_cons.1 ha
    obtain ⟨b1, b2⟩ := ris_cons.1 hb
    rw [mMerge_xy]
    split
    · rename_i hlt
      refine ris_head _ (fun z hz => ?_) (mMerge_ris k xs (y :: ys) a2 hb)
      rcases mMerge_sub k _ _ z hz with h | h
      · exact a1 z h
      · rcases List.mem_cons.1 h with e | h
        · subst e; exact hlt
        · exact bl_trans hlt (b1 z h)
    · split
      · rename_i hlt
        refine ris_head _ (fun z hz => ?_) (mMerge_ris k (x :: xs) ys ha b2)
        rcases mMerge_sub k _ _ z hz with h | h
        · rcases List.mem_cons.1 h with e | h
          · subst e; exact hlt
          · exact bl_trans hlt (a1 z h)
        · exact b1 z h
      · rename_i n1 n2
        have e : x = y := bl_total (by unfold bl; simpa using n1) (by unfold bl; simpa using n2)
        subst e
        refine ris_head _ (fun z hz => ?_) (mMerge_ris k xs ys a2 b2)
        rcases mMerge_sub k _ _ z hz with h | h
        · exact a1 z h
        · exact b1 z h
termination_by a b => a.length + b.length
theorem mem_if {c : Bool} {x z : ByteArray} {l : List ByteArray} : z ∈ (if c then [x] else []) ++ l ↔ (z = x ∧ c = true) ∨ z ∈ l := by
  cases c <;> simp
theorem mMerge_mem (k : Bool → Bool → Bool) : ∀ (a b : List ByteArray), Ris a → Ris b → ∀ z, z ∈ mMerge k a b ↔ (z ∈ a ∨ z ∈ b) ∧ k (decide (z ∈ a)) (decide (z ∈ b)) = true
  | [], [], ha, hb, z => by rw [mMerge_nn]; simp
  | [], y :: ys, ha, hb, z => by
    obtain ⟨h1, h2⟩ := ris_cons.1 hb
    rw [mMerge_ny, mem_if, mMerge_mem k [] ys ha h2 z]
    by_cases e : z = y
    · subst e
      have := ris_nmem h1
      simp [this]
    · simp [e]
  | x :: xs, [], ha, hb, z => by
    obtain ⟨h1, h2⟩ := ris_cons.1 ha
    rw [mMerge_xn, mem_if, mMerge_mem k xs [] h2 hb z]
    by_cases e : z = x
    · subst e
      have := ris_nmem h1
      simp [this]
    · simp [e]
  | x :: xs, y :: ys, ha, hb, z => by
    obtain ⟨a1, a2⟩ := ris_cons.1 ha
    obtain ⟨b1, b2⟩ := ris_cons.1 hb
    rw [mMerge_xy]
    split
    · rename_i hlt
      have hxb : x ∉ y :: ys := ris_nmem fun z hz => by
        rcases List.mem_cons.1 hz with e | h
        · subst e; exact hlt
        · exact bl_trans hlt (b1 z h)
      rw [mem_if, mMerge_mem k xs (y :: ys) a2 hb z]
      by_cases e : z = x
      · subst e
        have := ris_nmem a1
        simp [this, hxb]
      · simp [e]
    · split
      · rename_i hlt
        have hya : y ∉ x :: xs := ris_nmem fun z hz => by
          rcases List.mem_cons.1 hz with e | h
          · subst e; exact hlt
          · exact bl_trans hlt (a1 z h)
        rw [mem_if, mMerge_mem k (x :: xs) ys ha b2 z]
        by_cases e : z = y
        · subst e
          have := ris_nmem b1
          simp [this, hya]
        · simp [e]
      · rename_i n1 n2
        have e : x = y := bl_total (by unfold bl; simpa using n1) (by unfold bl; simpa using n2)
        subst e
        rw [mem_if, mMerge_mem k xs ys a2 b2 z]
        by_cases e : z = x
        · subst e
          have := ris_nmem a1
          have := ris_nmem b1
          simp [*]
        · simp [e]
termination_by a b => a.length + b.length
theorem mMerge_lens : ∀ (a b : List ByteArray), (mMerge (fun _ _ => true) a b).length = (mMerge (fun x y => x && !y) a b).length + b.length ∧ a.length = (mMerge (fun x y => x && !y) a b).length + (mMerge (fun x y => x && y) a b).length
  | [], [] => by simp [mMerge_nn]
  | [], y :: ys => by
    have := mMerge_lens [] ys
    simp [mMerge_ny] at this ⊢; omega
  | x :: xs, [] => by
    have := mMerge_lens xs []
    simp [mMerge_xn] at this ⊢; omega
  | x :: xs, y :: ys => by
    simp only [mMerge_xy]
    split
    · have := mMerge_lens xs (y :: ys)
      simp at this ⊢; omega
    · split
      · have := mMerge_lens (x :: xs) ys
        simp at this ⊢; omega
      · have := mMerge_lens xs ys
        simp at this ⊢; omega
termination_by a b => a.length + b.length
theorem mMerge_le (k : Bool → Bool → Bool) : ∀ (a b : List ByteArray), (mMerge k a b).length ≤ a.length + b.length
  | [], [] => by simp [mMerge_nn]
  | [], y :: ys => by
    have := mMerge_le k [] ys
    rw [mMerge_ny]; split <;> simp at this ⊢ <;> omega
  | x :: xs, [] => by
    have := mMerge_le k xs []
    rw [mMerge_xn]; split <;> simp at this ⊢ <;> omega
  | x :: xs, y :: ys => by
    have h1 := mMerge_le k xs (y :: ys)
    have h2 := mMerge_le k (x :: xs) ys
    have h3 := mMerge_le k xs ys
    rw [mMerge_xy]; repeat' split
    all_goals (simp at h1 h2 h3 ⊢; omega)
termination_by a b => a.length + b.length
/-- sorted, and each once -/
theorem compact_up (zs : List (List UInt8)) (hs : zs.Pairwise fun x y => Op.bytesLess y x = false) : ∀ m, m ≤ zs.length → (Lib.compactUpTo zs.toArray m).Pairwise (fun x y => Op.bytesLess x y = true) ∧ ∀ z, z ∈ Lib.compactUpTo zs.toArray m ↔ z ∈ zs.take m
  | 0, _ => by simp [Lib.compactUpTo]
  | m + 1, hm => by
    obtain ⟨h1, h2⟩ := compact_up zs hs m (by omega)
    have hg : zs.toArray[m]! = zs[m]'(by omega) := by rw [getElem!_pos zs.toArray m (by simp; omega)]; simp
    rw [Lib.compactUpTo_succ]
    have ht : zs.take (m + 1) = zs.take m ++ [zs[m]'(by omega)] := List.take_succ_eq_append_getElem (by omega)
    by_cases hk : Lib.keeps zs.toArray m = true
    · rw [if_pos hk, hg]
      refine ⟨List.pairwise_append.2 ⟨h1, by simp, fun x hx y hy => ?_⟩, fun z => by rw [List.mem_append, h2 z, ht, List.mem_append]⟩
      simp at hy; subst hy
      have hx' := (h2 x).1 hx
      have hm0 : 0 < m := by
        rcases Nat.eq_zero_or_pos m with e | e
        · subst e; simp at hx'
        · exact e
      have hne : zs[m] ≠ zs[m - 1] := by
        have hg' : zs.toArray[m - 1]! = zs[m - 1] := by rw [getElem!_pos zs.toArray (m - 1) (by simp; omega)]; simp
        simp [Lib.keeps] at hk
        rcases hk with e | e
        · omega
        · intro e'; apply e
          rw [List.getElem?_eq_getElem (by omega), List.getElem?_eq_getElem (by omega), e']
      have hle : Op.bytesLess zs[m] zs[m - 1] = false := List.pairwise_iff_getElem.1 hs (m - 1) m (by omega) (by omega) (by omega)
      have hlt : Op.bytesLess zs[m - 1] zs[m] = true := by
        cases h : Op.bytesLess zs[m - 1] zs[m]
        · exact absurd (less_total hle h) hne
        · rfl
      obtain ⟨j, hj, rfl⟩ := List.getElem_of_mem hx'
      have hj' : j < m := by simp at hj; omega
      rw [List.getElem_take]
      by_cases e : j = m - 1
      · subst e; exact hlt
      · have hle2 : Op.bytesLess zs[m - 1] zs[j] = false := List.pairwise_iff_getElem.1 hs j (m - 1) (by omega) (by omega) (by omega)
        cases h : Op.bytesLess zs[j] zs[m - 1]
        · rw [less_total h hle2]; exact hlt
        · exact less_trans h hlt
    · rw [if_neg hk, List.append_nil]
      refine ⟨h1, fun z => ?_⟩
      rw [h2 z, ht, List.mem_append]
      constructor
      · exact .inl
      · rintro (h | h)
        · exact h
        · simp at h; subst h
          simp [Lib.keeps] at hk
          obtain ⟨hk1, hk2⟩ := hk
          rw [List.getElem?_eq_getElem (by omega), List.getElem?_eq_getElem (by omega)] at hk2
          simp at hk2
          rw [hk2]
          exact List.mem_take_iff_getElem.2 ⟨m - 1, by omega, rfl⟩
theorem sort_pair (l : List (List UInt8)) : (l.mergeSort fun x y => decide (x ≤ y)).Pairwise fun x y => Op.bytesLess y x = false := by
  have h := List.pairwise_mergeSort (le := fun x y : List UInt8 => decide (x ≤ y)) (fun a b c h1 h2 => decide_eq_true (List.le_trans (of_decide_eq_true h1) (of_decide_eq_true h2))) (fun a b => by
    rcases List.le_total a b with h | h
    · simp [h]
    · simp [h]) l
  refine h.imp ?_
  intro a b hab
  rw [less_eq, decide_eq_false_iff_not]
  exact List.not_lt.2 (of_decide_eq_true hab)
def bmk (l : List UInt8) : ByteArray := ⟨l.toArray⟩
theorem bmk_data (x : ByteArray) : bmk x.data.toList = x := by apply ByteArray.ext; simp [bmk]
theorem data_bmk (l : List UInt8) : (bmk l).data.toList = l := by simp [bmk]
/-- the set of a list of texts -/
def rawOf (l : List ByteArray) : List (List UInt8) := ((l.map fun x => x.data.toList).filter fun x => !(x.length != 32))
def kOf (l : List ByteArray) : List ByteArray := (Lib.compact ((rawOf l).mergeSort fun x y => decide (x ≤ y))).map bmk
theorem kOf_spec (l : List ByteArray) : Ris (kOf l) ∧ ∀ z, z ∈ kOf l ↔ z ∈ l ∧ z.size = 32 := by
  obtain ⟨h1, h2⟩ := compact_up _ (sort_pair (rawOf l)) _ (Nat.le_refl _)
  constructor
  · refine List.pairwise_map.2 (h1.imp ?_)
    intro a b h
    show Op.bytesLess (bmk a).data.toList (bmk b).data.toList = true
    rw [data_bmk, data_bmk]; exact h
  · intro z
    unfold kOf Lib.compact
    rw [List.mem_map]
    constructor
    · rintro ⟨x, hx, rfl⟩
      rw [h2 x, List.take_of_length_le (Nat.le_refl _), List.mem_mergeSort] at hx
      simp [rawOf] at hx
      obtain ⟨⟨y, hy, rfl⟩, hs⟩ := hx
      rw [bmk_data]
      exact ⟨hy, by simpa using hs⟩
    · rintro ⟨hz, hs⟩
      refine ⟨z.data.toList, ?_, bmk_data z⟩
      rw [h2, List.take_of_length_le (Nat.le_refl _), List.mem_mergeSort]
      simp [rawOf]
      exact ⟨⟨z, hz, rfl⟩, by simpa using hs⟩
theorem kOf_len (l : List ByteArray) : (kOf l).length ≤ l.length := by
  unfold kOf
  rw [List.length_map]
  refine Nat.le_trans (?_ : _ ≤ ((rawOf l).mergeSort fun x y => decide (x ≤ y)).length) ?_
  · unfold Lib.compact Lib.compactUpTo
    rw [List.length_map]
    exact Nat.le_trans (List.length_filter_le _ _) (by simp)
  · rw [List.length_mergeSort]
    exact Nat.le_trans (List.length_filter_le _ _) (by simp)
/-- one more, in its place -/
def rIns (k : ByteArray) : List ByteArray → List ByteArray
  | [] => [k]
  | x :: xs => if bl k x then k :: x :: xs else x :: rIns k xs
def rAdd (l : List ByteArray) (k : ByteArray) : List ByteArray := if decide (k ∈ l) then l else rIns k l
theorem rIns_mem (k : ByteArray) : ∀ (l : List ByteArray) (z : ByteArray), z ∈ rIns k l ↔ z = k ∨ z ∈ l
  | [], z => by simp [rIns]
  | x :: xs, z => by
    rw [rIns]; split
    · simp
    · rw [List.mem_cons, rIns_mem k xs z, List.mem_cons]
      constructor
      · rintro (h | h | h) <;> simp [h]
      · rintro (h | h | h) <;> simp [h]
theorem rIns_ris (k : ByteArray) : ∀ (l : List ByteArray), Ris l → k ∉ l → Ris (rIns k l)
  | [], _, _ => by simp [rIns, Ris]
  | x :: xs, h, hn => by
    obtain ⟨h1, h2⟩ := ris_cons.1 h
    rw [rIns]; split
    · rename_i hlt
      refine ris_cons.2 ⟨fun y hy => ?_, h⟩
      rcases List.mem_cons.1 hy with e | hy
      · subst e; exact hlt
      · exact bl_trans hlt (h1 y hy)
    · rename_i hlt
      refine ris_cons.2 ⟨fun y hy => ?_, rIns_ris k xs h2 (fun hh => hn (by simp [hh]))⟩
      rcases (rIns_mem k xs y).1 hy with e | hy
      · subst e
        cases hb : bl x y
        · exact absurd (bl_total (by simpa using hlt) hb) (fun e => hn (by simp [e]))
        · rfl
      · exact h1 y hy
theorem rAdd_spec {l : List ByteArray} (k : ByteArray) (h : Ris l) : Ris (rAdd l k) ∧ ∀ z, z ∈ rAdd l k ↔ z = k ∨ z ∈ l := by
  unfold rAdd
  by_cases hk : k ∈ l
  · rw [if_pos (by simpa using hk)]
    exact ⟨h, fun z => ⟨.inr, fun hz => hz.elim (fun e => e ▸ hk) id⟩⟩
  · rw [if_neg (by simpa using hk)]
    exact ⟨rIns_ris k l h hk, rIns_mem k l⟩
theorem rIns_len (k : ByteArray) : ∀ (l : List ByteArray), (rIns k l).length = l.length + 1
  | [] => rfl
  | x :: xs => by
    rw [rIns]; split
    · rfl
    · rw [List.length_cons, rIns_len k xs]; rfl
theorem rAdd_len (l : List ByteArray) (k : ByteArray) : (rAdd l k).length ≤ l.length + 1 := by
  unfold rAdd; split
  · omega
  · rw [rIns_len]; omega
def rJoin (a b : List ByteArray) : List ByteArray := b.foldl rAdd a
theorem rJoin_spec : ∀ (b a : List ByteArray), Ris a → Ris (rJoin a b) ∧ ∀ z, z ∈ rJoin a b ↔ z ∈ a ∨ z ∈ b
  | [], a, h => ⟨h, fun z => by simp [rJoin]⟩
  | y :: ys, a, h => by
    obtain ⟨h1, h2⟩ := rAdd_spec y h
    obtain ⟨h3, h4⟩ := rJoin_spec ys (rAdd a y) h1
    refine ⟨h3, fun z => ?_⟩
    show z ∈ rJoin (rAdd a y) ys ↔ _
    rw [h4 z, h2 z, List.mem_cons]
    constructor
    · rintro ((h | h) | h) <;> simp [h]
    · rintro (h | h | h) <;> simp [h]
theorem rJoin_snoc (a b : List ByteArray) (y : ByteArray) : rJoin a (b ++ [y]) = rAdd (rJoin a b) y := by simp [rJoin]
theorem rJoin_len : ∀ (b a : List ByteArray), (rJoin a b).length ≤ a.length + b.length
  | [], a => by simp [rJoin]
  | y :: ys, a => by
    have := rJoin_len ys (rAdd a y)
    have h := rAdd_len a y
    show (rJoin (rAdd a y) ys).length ≤ _
    simp; omega
def rOf (l : List ByteArray) : List ByteArray := rJoin [] (l.filter fun x => decide (x.size = 32))
theorem rOf_eq (l : List ByteArray) : rOf l = kOf l := by
  obtain ⟨h1, h2⟩ := rJoin_spec (l.filter fun x => decide (x.size = 32)) [] List.Pairwise.nil
  obtain ⟨h3, h4⟩ := kOf_spec l
  exact ris_ext h1 h3 fun z => by rw [show rOf l = rJoin [] _ from rfl] at *; rw [h2 z, h4 z]; simp
def rSome (a b : List ByteArray) (i : Bool) : List ByteArray := a.filter fun x => decide (x ∈ b) == i
/-- can it be a set? -/
def fitL (l : List ByteArray) : Bool := decide ((∀ x ∈ l, x.size = 32) ∧ Ris l)
theorem join_eq {a b : List ByteArray} (ha : Ris a) (hb : Ris b) : mMerge (fun _ _ => true) a b = rJoin a b :=
  ris_ext (mMerge_ris _ a b ha hb) (rJoin_spec b a ha).1 fun z => by rw [mMerge_mem _ a b ha hb z, (rJoin_spec b a ha).2 z]; simp
theorem ris_filter {a : List ByteArray} (h : Ris a) (p : ByteArray → Bool) : Ris (a.filter p) := List.Pairwise.filter p h
theorem both_eq {a b : List ByteArray} (ha : Ris a) (hb : Ris b) : mMerge (fun x y => x && y) a b = rSome a b true :=
  ris_ext (mMerge_ris _ a b ha hb) (ris_filter ha _) fun z => by rw [mMerge_mem _ a b ha hb z, rSome, List.mem_filter]; simp; intro h _; exact .inl h
theorem lessL_eq {a b : List ByteArray} (ha : Ris a) (hb : Ris b) : mMerge (fun x y => x && !y) a b = rSome a b false :=
  ris_ext (mMerge_ris _ a b ha hb) (ris_filter ha _) fun z => by rw [mMerge_mem _ a b ha hb z, rSome, List.mem_filter]; simp; intro h _; exact .inl h
end Go.Proofs.Ytjbnkheghafgoaa
