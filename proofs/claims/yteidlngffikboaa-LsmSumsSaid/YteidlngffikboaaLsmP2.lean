/- Plain: chapter 38: rows that are fit; rows that come; all counts. -/
import Derived.Test.YteidlngffikboaaKeysOrd
namespace Go.Proofs.Yteidlngffikboaa
set_option linter.unusedVariables false
set_option linter.unusedSimpArgs false
abbrev Cnt := ByteArray × Int
/-- a key's number in a row: the first that stands there -/
def inL : List Cnt → ByteArray → Int
  | [], _ => 0
  | x :: l, k => if x.1 = k then x.2 else inL l k
def RisC (l : List Cnt) : Prop := l.Pairwise (fun x y => bl x.1 y.1 = true)
theorem risC_cons {x : Cnt} {l : List Cnt} : RisC (x :: l) ↔ (∀ y ∈ l, bl x.1 y.1 = true) ∧ RisC l := List.pairwise_cons
theorem inL_none : ∀ {l : List Cnt} {k : ByteArray}, (∀ y ∈ l, y.1 ≠ k) → inL l k = 0
  | [], _, _ => rfl
  | x :: l, k, h => by
    rw [inL, if_neg (h x (by simp)), inL_none (fun y hy => h y (by simp [hy]))]
theorem inL_low {l : List Cnt} {k : ByteArray} (h : ∀ y ∈ l, bl k y.1 = true) : inL l k = 0 :=
  inL_none fun y hy e => by have := h y hy; rw [e, bl_irrefl] at this; cases this
theorem inL_mem : ∀ {l : List Cnt}, RisC l → ∀ x ∈ l, inL l x.1 = x.2
  | [], _, x, h => by simp at h
  | y :: l, hr, x, h => by
    obtain ⟨h1, h2⟩ := risC_cons.1 hr
    rcases List.mem_cons.1 h with rfl | h
    · rw [inL, if_pos rfl]
    · rw [inL, if_neg, inL_mem h2 x h]
      intro e
      have := h1 x h
      rw [e, bl_irrefl] at this
      cases this
theorem inL_some : ∀ {l : List Cnt} {k : ByteArray}, inL l k ≠ 0 → ∃ x ∈ l, x.1 = k ∧ x.2 = inL l k
  | [], _, h => absurd rfl h
  | x :: l, k, h => by
    rw [inL] at h
    by_cases e : x.1 = k
    · exact ⟨x, by simp, e, by rw [inL, if_pos e]⟩
    · rw [if_neg e] at h
      obtain ⟨y, h1, h2, h3⟩ := inL_some h
      exact ⟨y, by simp [h1], h2, by rw [inL, if_neg e, h3]⟩
/-- rising rows without noughts that tell the same numbers are the same -/
theorem cnt_ext : ∀ {a b : List Cnt}, RisC a → RisC b → (∀ x ∈ a, x.2 ≠ 0) → (∀ x ∈ b, x.2 ≠ 0) → (∀ k, inL a k = inL b k) → a = b
  | [], [], _, _, _, _, _ => rfl
  | [], y :: b, _, hb, _, nb, h => by
    have := h y.1
    rw [inL_mem hb y (by simp)] at this
    exact absurd this.symm (nb y (by simp))
  | x :: a, [], ha, _, na, _, h => by
    have := h x.1
    rw [inL_mem ha x (by simp)] at this
    exact absurd this (na x (by simp))
  | x :: a, y :: b, ha, hb, na, nb, h => by
    obtain ⟨ha1, ha2⟩ := risC_cons.1 ha
    obtain ⟨hb1, hb2⟩ := risC_cons.1 hb
    have hxy : x.1 = y.1 := by
      refine bl_total ?_ ?_
      · refine Bool.eq_false_iff.2 fun hl => ?_
        have h1 := h x.1
        rw [inL_mem ha x (by simp), inL_low (l := y :: b)] at h1
        · exact na x (by simp) h1
        · intro z hz
          rcases List.mem_cons.1 hz with rfl | hz
          · exact hl
          · exact bl_trans hl (hb1 z hz)
      · refine Bool.eq_false_iff.2 fun hl => ?_
        have h1 := h y.1
        rw [inL_mem hb y (by simp), inL_low (l := x :: a)] at h1
        · exact nb y (by simp) h1.symm
        · intro z hz
          rcases List.mem_cons.1 hz with rfl | hz
          · exact hl
          · exact bl_trans hl (ha1 z hz)
    have hn : x.2 = y.2 := by
      have h1 := h x.1
      rw [inL_mem ha x (by simp), hxy, inL_mem hb y (by simp)] at h1
      exact h1
    have e : x = y := Prod.ext hxy hn
    subst e
    rw [cnt_ext ha2 hb2 (fun z hz => na z (by simp [hz])) (fun z hz => nb z (by simp [hz])) fun k => ?_]
    by_cases hk : x.1 = k
    · subst hk
      rw [inL_low ha1, inL_low hb1]
    · have h1 := h k
      rw [inL, inL, if_neg hk, if_neg hk] at h1
      exact h1
/-- two rows, one behind the other by their keys, with sums -/
def bothL : List Cnt → List Cnt → List Cnt
  | [], [] => []
  | x :: a, [] => x :: bothL a []
  | [], y :: b => y :: bothL [] b
  | x :: a, y :: b => if bl x.1 y.1 = true then x :: bothL a (y :: b) else if bl y.1 x.1 = true then y :: bothL (x :: a) b else (x.1, x.2 + y.2) :: bothL a b
termination_by a b => a.length + b.length
theorem bothL_nil (a : List Cnt) : bothL a [] = a := by
  induction a with
  | nil => rw [bothL]
  | cons x a ih => rw [bothL, ih]
theorem bothL_nil' (b : List Cnt) : bothL [] b = b := by
  induction b with
  | nil => rw [bothL]
  | cons x a ih => rw [bothL, ih]
theorem bothL_mem : ∀ (a b : List Cnt) (z : Cnt), z ∈ bothL a b → (∃ y ∈ a, y.1 = z.1) ∨ (∃ y ∈ b, y.1 = z.1)
  | [], b, z, h => by rw [bothL_nil'] at h; exact .inr ⟨z, h, rfl⟩
  | x :: a, [], z, h => by rw [bothL_nil] at h; exact .inl ⟨z, h, rfl⟩
  | x :: a, y :: b, z, h => by
    rw [bothL] at h
    split at h
    · rcases List.mem_cons.1 h with rfl | h
      · exact .inl ⟨z, by simp, rfl⟩
      · rcases bothL_mem a (y :: b) z h with ⟨u, h1, h2⟩ | ⟨u, h1, h2⟩
        · exact .inl ⟨u, by simp [h1], h2⟩
        · exact .inr ⟨u, h1, h2⟩
    · split at h
      · rcases List.mem_cons.1 h with rfl | h
        · exact .inr ⟨z, by simp, rfl⟩
        · rcases bothL_mem (x :: a) b z h with ⟨u, h1, h2⟩ | ⟨u, h1, h2⟩
          · exact .inl ⟨u, h1, h2⟩
          · exact .inr ⟨u, by simp [h1], h2⟩
      · rcases List.mem_cons.1 h with rfl | h
        · exact .inl ⟨x, by simp, rfl⟩
        · rcases bothL_mem a b z h with ⟨u, h1, h2⟩ | ⟨u, h1, h2⟩
          · exact .inl ⟨u, by simp [h1], h2⟩
          · exact .inr ⟨u, by simp [h1], h2⟩
termination_by a b => a.length + b.length
theorem bothL_ris : ∀ (a b : List Cnt), RisC a → RisC b → RisC (bothL a b)
  | [], b, _, hb => by rw [bothL_nil']; exact hb
  | x :: a, [], ha, _ => by rw [bothL_nil]; exact ha
  | x :: a, y :: b, ha, hb => by
    obtain ⟨ha1, ha2⟩ := risC_cons.1 ha
    obtain ⟨hb1, hb2⟩ := risC_cons.1 hb
    rw [bothL]
    split
    · rename_i h
      refine risC_cons.2 ⟨fun z hz => ?_, bothL_ris a (y :: b) ha2 hb⟩
      rcases bothL_mem _ _ z hz with ⟨u, h1, h2⟩ | ⟨u, h1, h2⟩
      · rw [← h2]; exact ha1 u h1
      · rw [← h2]
        rcases List.mem_cons.1 h1 with rfl | h1
        · exact h
        · exact bl_trans h (hb1 u h1)
    · split
      · rename_i _ h
        refine risC_cons.2 ⟨fun z hz => ?_, bothL_ris (x :: a) b ha hb2⟩
        rcases bothL_mem _ _ z hz with ⟨u, h1, h2⟩ | ⟨u, h1, h2⟩
        · rw [← h2]
          rcases List.mem_cons.1 h1 with rfl | h1
          · exact h
          · exact bl_trans h (ha1 u h1)
        · rw [← h2]; exact hb1 u h1
      · rename_i h h'
        have e := bl_total (Bool.eq_false_iff.2 h) (Bool.eq_false_iff.2 h')
        refine risC_cons.2 ⟨fun z hz => ?_, bothL_ris a b ha2 hb2⟩
        rcases bothL_mem _ _ z hz with ⟨u, h1, h2⟩ | ⟨u, h1, h2⟩
        · rw [← h2]; exact ha1 u h1
        · rw [← h2]; show bl x.1 u.1 = true; rw [e]; exact hb1 u h1
termination_by a b => a.length + b.length
theorem bothL_in : ∀ (a b : List Cnt), RisC a → RisC b → ∀ k, inL (bothL a b) k = inL a k + inL b k
  | [], b, _, hb, k => by rw [bothL_nil']; simp [inL]
  | x :: a, [], ha, _, k => by rw [bothL_nil]; simp [inL]
  | x :: a, y :: b, ha, hb, k => by
    obtain ⟨ha1, ha2⟩ := risC_cons.1 ha
    obtain ⟨hb1, hb2⟩ := risC_cons.1 hb
    rw [bothL]
    split
    · rename_i h
      rw [inL]
      by_cases hk : x.1 = k
      · subst hk
        rw [if_pos rfl, inL, if_pos rfl, inL_low (l := y :: b)]
        · omega
        · intro z hz
          rcases List.mem_cons.1 hz with rfl | hz
          · exact h
          · exact bl_trans h (hb1 z hz)
      · rw [if_neg hk, bothL_in a (y :: b) ha2 hb k]
        rw [show inL (x :: a) k = inL a k by rw [inL, if_neg hk]]
    · split
      · rename_i _ h
        rw [inL]
        by_cases hk : y.1 = k
        · subst hk
          rw [if_pos rfl, show inL (y :: b) y.1 = y.2 by rw [inL, if_pos rfl], inL_low (l := x :: a)]
          · omega
          · intro z hz
            rcases List.mem_cons.1 hz with rfl | hz
            · exact h
            · exact bl_trans h (ha1 z hz)
        · rw [if_neg hk, bothL_in (x :: a) b ha hb2 k]
          rw [show inL (y :: b) k = inL b k by rw [inL, if_neg hk]]
      · rename_i h h'
        have e := bl_total (Bool.eq_false_iff.2 h) (Bool.eq_false_iff.2 h')
        rw [inL, inL, inL, ← e]
        by_cases hk : x.1 = k
        · rw [if_pos hk, if_pos hk, if_pos hk]
        · rw [if_neg hk, if_neg hk, if_neg hk, bothL_in a b ha2 hb2 k]
termination_by a b => a.length + b.length
theorem bothL_len : ∀ (a b : List Cnt), (bothL a b).length ≤ a.length + b.length
  | [], b => by rw [bothL_nil']; simp
  | x :: a, [] => by rw [bothL_nil]; simp
  | x :: a, y :: b => by
    rw [bothL]
    split
    · have := bothL_len a (y :: b); simp at this ⊢; omega
    · split
      · have := bothL_len (x :: a) b; simp at this ⊢; omega
      · have := bothL_len a b; simp at this ⊢; omega
termination_by a b => a.length + b.length
/-- numbers passed through a function, noughts left out -/
def clipL (f : Int → Int) (l : List Cnt) : List Cnt := l.filterMap fun x => if f x.2 = 0 then none else some (x.1, f x.2)
theorem clipL_mem {f : Int → Int} {l : List Cnt} {z : Cnt} : z ∈ clipL f l ↔ ∃ x ∈ l, z = (x.1, f x.2) ∧ f x.2 ≠ 0 := by
  unfold clipL
  rw [List.mem_filterMap]
  constructor
  · rintro ⟨x, h1, h2⟩
    split at h2
    · cases h2
    · rename_i h; injection h2 with h2; exact ⟨x, h1, h2.symm, h⟩
  · rintro ⟨x, h1, h2, h3⟩
    exact ⟨x, h1, by rw [if_neg h3, h2]⟩
theorem clipL_cons (f : Int → Int) (x : Cnt) (l : List Cnt) : clipL f (x :: l) = if f x.2 = 0 then clipL f l else (x.1, f x.2) :: clipL f l := by
  unfold clipL
  rw [List.filterMap_cons]
  split
  · rename_i h
    split at h
    · rename_i h'; rw [if_pos h']
    · cases h
  · rename_i h
    split at h
    · cases h
    · rename_i h'; injection h with h; rw [if_neg h', ← h]
theorem clipL_ris {f : Int → Int} : ∀ {l : List Cnt}, RisC l → RisC (clipL f l)
  | [], _ => List.Pairwise.nil
  | x :: l, h => by
    obtain ⟨h1, h2⟩ := risC_cons.1 h
    rw [clipL_cons]
    split
    · exact clipL_ris h2
    · refine risC_cons.2 ⟨fun z hz => ?_, clipL_ris h2⟩
      obtain ⟨u, h3, rfl, _⟩ := clipL_mem.1 hz
      exact h1 u h3
theorem clipL_in {f : Int → Int} (hf : f 0 = 0) : ∀ {l : List Cnt}, RisC l → ∀ k, inL (clipL f l) k = f (inL l k)
  | [], _, k => by simp [clipL, inL, hf]
  | x :: l, h, k => by
    obtain ⟨h1, h2⟩ := risC_cons.1 h
    rw [clipL_cons]
    by_cases hk : x.1 = k
    · subst hk
      rw [show inL (x :: l) x.1 = x.2 by rw [inL, if_pos rfl]]
      split
      · rename_i h0
        rw [h0, inL_none]
        intro z hz e
        obtain ⟨u, h3, rfl, _⟩ := clipL_mem.1 hz
        have := h1 u h3
        rw [show u.1 = x.1 from e, bl_irrefl] at this
        cases this
      · rw [inL, if_pos rfl]
    · rw [show inL (x :: l) k = inL l k by rw [inL, if_neg hk]]
      split
      · exact clipL_in hf h2 k
      · rw [inL, if_neg hk]; exact clipL_in hf h2 k
theorem clipL_nz {f : Int → Int} {l : List Cnt} : ∀ x ∈ clipL f l, x.2 ≠ 0 := fun z hz => by
  obtain ⟨u, _, rfl, h⟩ := clipL_mem.1 hz
  exact h
end Go.Proofs.Yteidlngffikboaa

/- Here ends the text LsmPlain; here begins LsmP2. -/
namespace Go.Proofs.Yteidlngffikboaa
set_option linter.unusedVariables false
set_option linter.unusedSimpArgs false
def bnd : Int := 1000000000
def okR (l : List Cnt) : Prop := RisC l ∧ ∀ x ∈ l, x.1.size = 32 ∧ x.2 ≠ 0 ∧ -bnd ≤ x.2 ∧ x.2 ≤ bnd
theorem okR_nil : okR [] := ⟨List.Pairwise.nil, by simp⟩
theorem okR_nz {l : List Cnt} (h : okR l) : ∀ x ∈ l, x.2 ≠ 0 := fun x hx => (h.2 x hx).2.1
/-- a table: of each key its number, noughts left out -/
def tabL (ks : List ByteArray) (g : ByteArray → Int) : List Cnt := ks.filterMap fun k => if g k = 0 then none else some (k, g k)
theorem tabL_cons (k : ByteArray) (ks : List ByteArray) (g : ByteArray → Int) : tabL (k :: ks) g = if g k = 0 then tabL ks g else (k, g k) :: tabL ks g := by
  unfold tabL
  rw [List.filterMap_cons]
  split
  · rename_i h
    split at h
    · rename_i h'; rw [if_pos h']
    · cases h
  · rename_i h
    split at h
    · cases h
    · rename_i h'; injection h with h; rw [if_neg h', ← h]
theorem tabL_mem {ks : List ByteArray} {g : ByteArray → Int} {z : Cnt} : z ∈ tabL ks g ↔ z.1 ∈ ks ∧ z.2 = g z.1 ∧ g z.1 ≠ 0 := by
  induction ks with
  | nil => simp [tabL]
  | cons k ks ih =>
    rw [tabL_cons]
    split
    · rename_i h0
      rw [ih, List.mem_cons]
      constructor
      · rintro ⟨a, b, c⟩; exact ⟨.inr a, b, c⟩
      · rintro ⟨a | a, b, c⟩
        · rw [a] at c; exact absurd h0 c
        · exact ⟨a, b, c⟩
    · rename_i h0
      rw [List.mem_cons, ih, List.mem_cons]
      constructor
      · rintro (rfl | ⟨a, b, c⟩)
        · exact ⟨.inl rfl, rfl, h0⟩
        · exact ⟨.inr a, b, c⟩
      · rintro ⟨a | a, b, c⟩
        · exact .inl (Prod.ext a (by rw [b, a]))
        · exact .inr ⟨a, b, c⟩
theorem tabL_ris {ks : List ByteArray} {g : ByteArray → Int} (h : Ris ks) : RisC (tabL ks g) := by
  induction ks with
  | nil => exact List.Pairwise.nil
  | cons k ks ih =>
    obtain ⟨h1, h2⟩ := ris_cons.1 h
    rw [tabL_cons]
    split
    · exact ih h2
    · exact risC_cons.2 ⟨fun z hz => h1 _ (tabL_mem.1 hz).1, ih h2⟩
theorem tabL_nz {ks : List ByteArray} {g : ByteArray → Int} : ∀ x ∈ tabL ks g, x.2 ≠ 0 := fun z hz => by
  obtain ⟨_, h1, h2⟩ := tabL_mem.1 hz
  rw [h1]; exact h2
theorem tabL_in {ks : List ByteArray} {g : ByteArray → Int} (h : Ris ks) (k : ByteArray) : inL (tabL ks g) k = if k ∈ ks then g k else 0 := by
  by_cases hk : k ∈ ks
  · rw [if_pos hk]
    by_cases h0 : g k = 0
    · rw [h0, inL_none]
      intro z hz e
      have := (tabL_mem.1 hz).2.2
      rw [e] at this
      exact this h0
    · exact inL_mem (tabL_ris h) (k, g k) (tabL_mem.2 ⟨hk, rfl, h0⟩)
  · rw [if_neg hk, inL_none]
    intro z hz e
    exact hk (e ▸ (tabL_mem.1 hz).1)
/-- a table over other keys tells the same, if all that are no nought are among both -/
theorem tabL_keys {ks js : List ByteArray} {g : ByteArray → Int} (h : Ris ks) (h' : Ris js) (hk : ∀ k, g k ≠ 0 → (k ∈ ks ↔ k ∈ js)) : tabL ks g = tabL js g := by
  refine cnt_ext (tabL_ris h) (tabL_ris h') tabL_nz tabL_nz fun k => ?_
  rw [tabL_in h, tabL_in h']
  by_cases h0 : g k = 0
  · simp [h0]
  · by_cases hm : k ∈ ks
    · rw [if_pos hm, if_pos ((hk k h0).1 hm)]
    · rw [if_neg hm, if_neg (fun h => hm ((hk k h0).2 h))]
theorem tabL_len (ks : List ByteArray) (g : ByteArray → Int) : (tabL ks g).length ≤ ks.length := List.length_filterMap_le _ _
def clipV (n : Int) : Int := max (-bnd) (min n bnd)
theorem clipV_zero : clipV 0 = 0 := by decide
theorem clipV_ok (n : Int) : -bnd ≤ clipV n ∧ clipV n ≤ bnd := by unfold clipV bnd; omega
/-- two rows in one -/
def mergeL (a b : List Cnt) : List Cnt := clipL clipV (bothL a b)
theorem mergeL_in {a b : List Cnt} (ha : okR a) (hb : okR b) (k : ByteArray) : inL (mergeL a b) k = clipV (inL a k + inL b k) := by
  unfold mergeL
  rw [clipL_in clipV_zero (bothL_ris a b ha.1 hb.1), bothL_in a b ha.1 hb.1]
theorem mergeL_ok {a b : List Cnt} (ha : okR a) (hb : okR b) : okR (mergeL a b) := by
  refine ⟨clipL_ris (bothL_ris a b ha.1 hb.1), fun z hz => ?_⟩
  obtain ⟨u, h1, rfl, h2⟩ := clipL_mem.1 hz
  refine ⟨?_, h2, clipV_ok _⟩
  rcases bothL_mem a b u h1 with ⟨y, h3, h4⟩ | ⟨y, h3, h4⟩
  · show u.1.size = 32; rw [← h4]; exact (ha.2 y h3).1
  · show u.1.size = 32; rw [← h4]; exact (hb.2 y h3).1
theorem mergeL_len (a b : List Cnt) : (mergeL a b).length ≤ a.length + b.length :=
  Nat.le_trans (List.length_filterMap_le _ _) (bothL_len a b)
/-- .. by a list of the keys of both -/
theorem mergeL_tab {a b : List Cnt} (ha : okR a) (hb : okR b) {ks : List ByteArray} (hk : Ris ks) (h : ∀ k, k ∈ ks ↔ (∃ x ∈ a, x.1 = k) ∨ ∃ x ∈ b, x.1 = k) : tabL ks (fun k => clipV (inL a k + inL b k)) = mergeL a b := by
  refine cnt_ext (tabL_ris hk) (mergeL_ok ha hb).1 tabL_nz (okR_nz (mergeL_ok ha hb)) fun k => ?_
  rw [tabL_in hk, mergeL_in ha hb]
  split
  · rfl
  · rename_i hn
    have h1 : inL a k = 0 := inL_none fun y hy e => hn ((h k).2 (.inl ⟨y, hy, e⟩))
    have h2 : inL b k = 0 := inL_none fun y hy e => hn ((h k).2 (.inr ⟨y, hy, e⟩))
    rw [h1, h2]; exact clipV_zero.symm
/-- while the first is not small enough, the first two are one -/
def comeL : List (List Cnt) → List (List Cnt)
  | r :: s :: rest => if s.length ≤ 2 * r.length then (if mergeL r s = [] then comeL rest else comeL (mergeL r s :: rest)) else r :: s :: rest
  | [r] => [r]
  | [] => []
termination_by l => l.length
def comeP (runs : List (List Cnt)) (row : List Cnt) : List (List Cnt) := if row = [] then runs else comeL (row :: runs)
/-- each of less than half as many as the next one -/
def Half (l : List (List Cnt)) : Prop := match l with
  | r :: s :: rest => 2 * r.length < s.length ∧ Half (s :: rest)
  | _ => True
def okRuns (l : List (List Cnt)) : Prop := (∀ r ∈ l, r ≠ [] ∧ okR r) ∧ Half l
def total (l : List (List Cnt)) : Nat := (l.map List.length).sum
def sumIn (l : List (List Cnt)) (k : ByteArray) : Int := (l.map fun r => inL r k).sum
theorem half_tail {r : List Cnt} {l : List (List Cnt)} (h : Half (r :: l)) : Half l := by
  cases l with
  | nil => trivial
  | cons s l => exact h.2
theorem comeL_ok : ∀ (l : List (List Cnt)), (∀ r ∈ l, r ≠ [] ∧ okR r) → Half l.tail → okRuns (comeL l) ∧ (comeL l).length ≤ l.length ∧ total (comeL l) ≤ total l
  | [], _, _ => by rw [comeL]; exact ⟨⟨by simp, trivial⟩, Nat.le_refl _, Nat.le_refl _⟩
  | [r], h, _ => by rw [comeL]; exact ⟨⟨h, trivial⟩, Nat.le_refl _, Nat.le_refl _⟩
  | r :: s :: rest, h, hh => by
    have hr := h r (by simp)
    have hs := h s (by simp)
    have hrest : ∀ z ∈ rest, z ≠ [] ∧ okR z := fun z hz => h z (by simp [hz])
    have hhr : Half rest := half_tail hh
    rw [comeL]
    split
    · split
      · rename_i h1 h2
        have hhr' : Half rest.tail := by
          cases rest with
          | nil => trivial
          | cons u v => exact half_tail hhr
        obtain ⟨i1, i2, i3⟩ := comeL_ok rest hrest hhr'
        refine ⟨i1, ?_, ?_⟩
        · simp only [List.length_cons]; omega
        · unfold total at i3 ⊢; simp only [List.map_cons, List.sum_cons]; omega
      · rename_i h1 h2
        obtain ⟨i1, i2, i3⟩ := comeL_ok (mergeL r s :: rest) (fun z hz => by
          rcases List.mem_cons.1 hz with rfl | hz
          · exact ⟨h2, mergeL_ok hr.2 hs.2⟩
          · exact hrest z hz) hhr
        have hl := mergeL_len r s
        refine ⟨i1, ?_, ?_⟩
        · simp only [List.length_cons] at i2 ⊢; omega
        · unfold total at i3 ⊢; simp only [List.map_cons, List.sum_cons] at i3 ⊢; omega
    · rename_i h1
      exact ⟨⟨h, by omega, hh⟩, Nat.le_refl _, Nat.le_refl _⟩
termination_by l => l.length
theorem comeP_ok {runs : List (List Cnt)} {row : List Cnt} (h : okRuns runs) (hr : okR row) : okRuns (comeP runs row) ∧ (comeP runs row).length ≤ runs.length + 1 ∧ total (comeP runs row) ≤ total runs + row.length := by
  unfold comeP
  split
  · exact ⟨h, by omega, by omega⟩
  · rename_i h0
    obtain ⟨i1, i2, i3⟩ := comeL_ok (row :: runs) (fun z hz => by
      rcases List.mem_cons.1 hz with rfl | hz
      · exact ⟨h0, hr⟩
      · exact h.1 z hz) h.2
    refine ⟨i1, i2, ?_⟩
    unfold total at i3 ⊢
    simp only [List.map_cons, List.sum_cons] at i3
    omega
/-- of sums that pass no bound a key's number stays -/
theorem comeL_sum (k : ByteArray) : ∀ (l : List (List Cnt)), (∀ r ∈ l, okR r) → (∀ m n, m ++ n = l → -bnd ≤ sumIn m k ∧ sumIn m k ≤ bnd) → sumIn (comeL l) k = sumIn l k
  | [], _, _ => by rw [comeL]
  | [r], _, _ => by rw [comeL]
  | r :: s :: rest, h, hb => by
    have hr := h r (by simp)
    have hs := h s (by simp)
    have hin := mergeL_in hr hs k
    have hrs := hb [r, s] rest rfl
    have hc : clipV (inL r k + inL s k) = inL r k + inL s k := by
      simp only [sumIn, List.map_cons, List.map_nil, List.sum_cons, List.sum_nil] at hrs
      unfold clipV; omega
    rw [hc] at hin
    rw [comeL]
    split
    · split
      · rename_i h1 h2
        rw [h2] at hin
        have h0 : inL r k + inL s k = 0 := hin.symm
        rw [comeL_sum k rest (fun z hz => h z (by simp [hz])) (fun m n e => by
          have := hb (r :: s :: m) n (by rw [← e]; rfl)
          simp only [sumIn, List.map_cons, List.sum_cons] at this ⊢
          omega)]
        simp only [sumIn, List.map_cons, List.sum_cons]
        omega
      · rename_i h1 h2
        rw [comeL_sum k (mergeL r s :: rest) (fun z hz => by
          rcases List.mem_cons.1 hz with rfl | hz
          · exact mergeL_ok hr hs
          · exact h z (by simp [hz])) (fun m n e => by
          cases m with
          | nil => simp [sumIn, bnd]
          | cons u m =>
            injection e with e1 e2
            subst e1
            have := hb (r :: s :: m) n (by rw [← e2]; rfl)
            simp only [sumIn, List.map_cons, List.sum_cons] at this ⊢
            rw [hin]
            omega)]
        simp only [sumIn, List.map_cons, List.sum_cons]
        rw [hin]
        omega
    · rfl
termination_by l => l.length
end Go.Proofs.Yteidlngffikboaa
