/- Plain: rising lists of texts out of any list. (cut from KeysPlain by gen-lsm-keys.py) -/
import Derived.Test.YteidlngffikboaaKeysOrd
import Derived.Lib.SlicesCompact
import Derived.Shelf.Spec.SearchS
namespace Go.Proofs.Yteidlngffikboaa
set_option linter.unusedVariables false
set_option linter.unusedSimpArgs false
theorem compact_up (zs : List (List UInt8)) (hs : zs.Pairwise fun x y => Op.bytesLess y x = false) : ∀ m, m ≤ zs.length → (Lib.compactUpTo zs.toArray m).Pairwise (fun x y => Op.bytesLess x y = true) ∧ ∀ z, z ∈ Lib.compactUpTo zs.toArray m ↔ z ∈ zs.take m
  | 0, _ => by simp [Lib.compactUpTo]
  | m + 1, hm => by
    obtain ⟨h1, h2⟩ := compact_up zs hs m (by omega)
    have hg : zs.toArray[m]! = zs[m]'(by omega) := by rw [getElem!_pos zs.toArray m (by simp; omega)]; simp
    rw [Lib.compactUpTo_succ]
    have ht : zs.take (m + 1) = zs.take m ++ [zs[m]'(by omega)] := List.take_succ_eq_append_getElem (by omega)
    by_cases hk : Lib.keeps zs.toArray m = true
    · rw [if_pos hk, hg]
      refine ⟨List.pairwise_append.2 ⟨h1, by simp, fun x hx y hy => ?_⟩, fun z => by rw [List.mem_append, h2 z, ht, List.mem_append]⟩
      simp at hy; subst hy
      have hx' := (h2 x).1 hx
      have hm0 : 0 < m := by
        rcases Nat.eq_zero_or_pos m with e | e
        · subst e; simp at hx'
        · exact e
      have hne : zs[m] ≠ zs[m - 1] := by
        have hg' : zs.toArray[m - 1]! = zs[m - 1] := by rw [getElem!_pos zs.toArray (m - 1) (by simp; omega)]; simp
        simp [Lib.keeps] at hk
        rcases hk with e | e
        · omega
        · intro e'; apply e
          rw [List.getElem?_eq_getElem (by omega), List.getElem?_eq_getElem (by omega), e']
      have hle : Op.bytesLess zs[m] zs[m - 1] = false := List.pairwise_iff_getElem.1 hs (m - 1) m (by omega) (by omega) (by omega)
      have hlt : Op.bytesLess zs[m - 1] zs[m] = true := by
        cases h : Op.bytesLess zs[m - 1] zs[m]
        · exact absurd (less_total hle h) hne
        · rfl
      obtain ⟨j, hj, rfl⟩ := List.getElem_of_mem hx'
      have hj' : j < m := by simp at hj; omega
      rw [List.getElem_take]
      by_cases e : j = m - 1
      · subst e; exact hlt
      · have hle2 : Op.bytesLess zs[m - 1] zs[j] = false := List.pairwise_iff_getElem.1 hs j (m - 1) (by omega) (by omega) (by omega)
        cases h : Op.bytesLess zs[j] zs[m - 1]
        · rw [less_total h hle2]; exact hlt
        · exact less_trans h hlt
    · rw [if_neg hk, List.append_nil]
      refine ⟨h1, fun z => ?_⟩
      rw [h2 z, ht, List.mem_append]
      constructor
      · exact .inl
      · rintro (h | h)
        · exact h
        · simp at h; subst h
          simp [Lib.keeps] at hk
          obtain ⟨hk1, hk2⟩ := hk
          rw [List.getElem?_eq_getElem (by omega), List.getElem?_eq_getElem (by omega)] at hk2
          simp at hk2
          rw [hk2]
          exact List.mem_take_iff_getElem.2 ⟨m - 1, by omega, rfl⟩
theorem sort_pair (l : List (List UInt8)) : (l.mergeSort fun x y => decide (x ≤ y)).Pairwise fun x y => Op.bytesLess y x = false := by
  have h := List.pairwise_mergeSort (le := fun x y : List UInt8 => decide (x ≤ y)) (fun a b c h1 h2 => decide_eq_true (List.le_trans (of_decide_eq_true h1) (of_decide_eq_true h2))) (fun a b => by
    rcases List.le_total a b with h | h
    · simp [h]
    · simp [h]) l
  refine h.imp ?_
  intro a b hab
  rw [less_eq, decide_eq_false_iff_not]
  exact List.not_lt.2 (of_decide_eq_true hab)
def bmk (l : List UInt8) : ByteArray := ⟨l.toArray⟩
theorem bmk_data (x : ByteArray) : bmk x.data.toList = x := by apply ByteArray.ext; simp [bmk]
theorem data_bmk (l : List UInt8) : (bmk l).data.toList = l := by simp [bmk]
/-- the set of a list of texts -/
def rawOf (l : List ByteArray) : List (List UInt8) := ((l.map fun x => x.data.toList).filter fun x => !(x.length != 32))
def kOf (l : List ByteArray) : List ByteArray := (Lib.compact ((rawOf l).mergeSort fun x y => decide (x ≤ y))).map bmk
theorem kOf_spec (l : List ByteArray) : Ris (kOf l) ∧ ∀ z, z ∈ kOf l ↔ z ∈ l ∧ z.size = 32 := by
  obtain ⟨h1, h2⟩ := compact_up _ (sort_pair (rawOf l)) _ (Nat.le_refl _)
  constructor
  · refine List.pairwise_map.2 (h1.imp ?_)
    intro a b h
    show Op.bytesLess (bmk a).data.toList (bmk b).data.toList = true
    rw [data_bmk, data_bmk]; exact h
  · intro z
    unfold kOf Lib.compact
    rw [List.mem_map]
    constructor
    · rintro ⟨x, hx, rfl⟩
      rw [h2 x, List.take_of_length_le (Nat.le_refl _), List.mem_mergeSort] at hx
      simp [rawOf] at hx
      obtain ⟨⟨y, hy, rfl⟩, hs⟩ := hx
      rw [bmk_data]
      exact ⟨hy, by simpa using hs⟩
    · rintro ⟨hz, hs⟩
      refine ⟨z.data.toList, ?_, bmk_data z⟩
      rw [h2, List.take_of_length_le (Nat.le_refl _), List.mem_mergeSort]
      simp [rawOf]
      exact ⟨⟨z, hz, rfl⟩, by simpa using hs⟩
theorem kOf_len (l : List ByteArray) : (kOf l).length ≤ l.length := by
  unfold kOf
  rw [List.length_map]
  refine Nat.le_trans (?_ : _ ≤ ((rawOf l).mergeSort fun x y => decide (x ≤ y)).length) ?_
  · unfold Lib.compact Lib.compactUpTo
    rw [List.length_map]
    exact Nat.le_trans (List.length_filter_le _ _) (by simp)
  · rw [List.length_mergeSort]
    exact Nat.le_trans (List.length_filter_le _ _) (by simp)
/-- one more, in its place -/
def rIns (k : ByteArray) : List ByteArray → List ByteArray
  | [] => [k]
  | x :: xs => if bl k x then k :: x :: xs else x :: rIns k xs
def rAdd (l : List ByteArray) (k : ByteArray) : List ByteArray := if decide (k ∈ l) then l else rIns k l
theorem rIns_mem (k : ByteArray) : ∀ (l : List ByteArray) (z : ByteArray), z ∈ rIns k l ↔ z = k ∨ z ∈ l
  | [], z => by simp [rIns]
  | x :: xs, z => by
    rw [rIns]; split
    · simp
    · rw [List.mem_cons, rIns_mem k xs z, List.mem_cons]
      constructor
      · rintro (h | h | h) <;> simp [h]
      · rintro (h | h | h) <;> simp [h]
theorem rIns_ris (k : ByteArray) : ∀ (l : List ByteArray), Ris l → k ∉ l → Ris (rIns k l)
  | [], _, _ => by simp [rIns, Ris]
  | x :: xs, h, hn => by
    obtain ⟨h1, h2⟩ := ris_cons.1 h
    rw [rIns]; split
    · rename_i hlt
      refine ris_cons.2 ⟨fun y hy => ?_, h⟩
      rcases List.mem_cons.1 hy with e | hy
      · subst e; exact hlt
      · exact bl_trans hlt (h1 y hy)
    · rename_i hlt
      refine ris_cons.2 ⟨fun y hy => ?_, rIns_ris k xs h2 (fun hh => hn (by simp [hh]))⟩
      rcases (rIns_mem k xs y).1 hy with e | hy
      · subst e
        cases hb : bl x y
        · exact absurd (bl_total (by simpa using hlt) hb) (fun e => hn (by simp [e]))
        · rfl
      · exact h1 y hy
theorem rAdd_spec {l : List ByteArray} (k : ByteArray) (h : Ris l) : Ris (rAdd l k) ∧ ∀ z, z ∈ rAdd l k ↔ z = k ∨ z ∈ l := by
  unfold rAdd
  by_cases hk : k ∈ l
  · rw [if_pos (by simpa using hk)]
    exact ⟨h, fun z => ⟨.inr, fun hz => hz.elim (fun e => e ▸ hk) id⟩⟩
  · rw [if_neg (by simpa using hk)]
    exact ⟨rIns_ris k l h hk, rIns_mem k l⟩
theorem rIns_len (k : ByteArray) : ∀ (l : List ByteArray), (rIns k l).length = l.length + 1
  | [] => rfl
  | x :: xs => by
    rw [rIns]; split
    · rfl
    · rw [List.length_cons, rIns_len k xs]; rfl
theorem rAdd_len (l : List ByteArray) (k : ByteArray) : (rAdd l k).length ≤ l.length + 1 := by
  unfold rAdd; split
  · omega
  · rw [rIns_len]; omega
def rJoin (a b : List ByteArray) : List ByteArray := b.foldl rAdd a
theorem rJoin_spec : ∀ (b a : List ByteArray), Ris a → Ris (rJoin a b) ∧ ∀ z, z ∈ rJoin a b ↔ z ∈ a ∨ z ∈ b
  | [], a, h => ⟨h, fun z => by simp [rJoin]⟩
  | y :: ys, a, h => by
    obtain ⟨h1, h2⟩ := rAdd_spec y h
    obtain ⟨h3, h4⟩ := rJoin_spec ys (rAdd a y) h1
    refine ⟨h3, fun z => ?_⟩
    show z ∈ rJoin (rAdd a y) ys ↔ _
    rw [h4 z, h2 z, List.mem_cons]
    constructor
    · rintro ((h | h) | h) <;> simp [h]
    · rintro (h | h | h) <;> simp [h]
theorem rJoin_snoc (a b : List ByteArray) (y : ByteArray) : rJoin a (b ++ [y]) = rAdd (rJoin a b) y := by simp [rJoin]
theorem rJoin_len : ∀ (b a : List ByteArray), (rJoin a b).length ≤ a.length + b.length
  | [], a => by simp [rJoin]
  | y :: ys, a => by
    have := rJoin_len ys (rAdd a y)
    have h := rAdd_len a y
    show (rJoin (rAdd a y) ys).length ≤ _
    simp; omega
def rOf (l : List ByteArray) : List ByteArray := rJoin [] (l.filter fun x => decide (x.size = 32))
theorem rOf_eq (l : List ByteArray) : rOf l = kOf l := by
  obtain ⟨h1, h2⟩ := rJoin_spec (l.filter fun x => decide (x.size = 32)) [] List.Pairwise.nil
  obtain ⟨h3, h4⟩ := kOf_spec l
  exact ris_ext h1 h3 fun z => by rw [show rOf l = rJoin [] _ from rfl] at *; rw [h2 z, h4 z]; simp
end Go.Proofs.Yteidlngffikboaa
