/- Plain: what LeaseAlone asks of locks behind each thing that is done. -/
import Derived.Test.YtffnkgfpbjmkbaaLkPlain
namespace Go.Proofs.Ytffnkgfpbjmkbaa
open Go.RowKit
set_option linter.unusedVariables false
set_option linter.unusedSimpArgs false
/-- what one thing that is asked for makes of locks: the time, the locks, the code -/
def runP (now : Int) (l : List Lk) (o : UInt64) (kind : Nat) (shared : Bool) (t : Int) : Int × List Lk × Int :=
  if kind = 0 then (now, askP now l o shared t) else if kind = 1 then (now, renP now l o t) else if kind = 2 then (now, relP l o) else if kind = 3 then (now, turnP l o shared) else (passN now t, keepL l (overB (passN now t)), 0)
/-- all owners are below five -/
def Few5 (l : List Lk) : Prop := ∀ x ∈ l, x.o < 5
theorem run_fit (now : Int) (l : List Lk) (o : UInt64) (kind : Nat) (shared : Bool) (t : Int) (h : FitP now l) : FitP (runP now l o kind shared t).1 (runP now l o kind shared t).2.1 := by
  unfold runP
  split
  · exact fit_ask now l o shared t h
  split
  · exact fit_ren now l o t h
  split
  · exact fit_rel now l o h
  split
  · exact fit_turn now l o shared h
  · exact fit_pass now l t h
theorem run_now (now : Int) (l : List Lk) (o : UInt64) (kind : Nat) (shared : Bool) (t : Int) (h : FitP now l) : now ≤ (runP now l o kind shared t).1 := by
  unfold runP
  have := passN_ge now t h.2.1 h.1
  split
  · exact Int.le_refl _
  split
  · exact Int.le_refl _
  split
  · exact Int.le_refl _
  split
  · exact Int.le_refl _
  · exact this.1
theorem few_modify {l : List Lk} {i : Nat} {f : Lk → Lk} (hf : ∀ x, (f x).o = x.o) (h : Few5 l) : Few5 (l.modify i f) := by
  intro x hx
  rcases mem_modify hx with hx | ⟨y, hy, rfl⟩
  · exact h x hx
  · rw [hf]; exact h y hy
theorem run_few (now : Int) (l : List Lk) (o : UInt64) (kind : Nat) (shared : Bool) (t : Int) (h : Few5 l) (ho : o < 5) : Few5 (runP now l o kind shared t).2.1 := by
  unfold runP
  split
  · dsimp only
    unfold askP
    split
    · exact h
    split
    · exact h
    split
    · exact h
    split
    · exact h
    · intro x hx
      dsimp only at hx
      unfold insL at hx
      rw [List.append_assoc, List.mem_append, List.mem_append] at hx
      rcases hx with hx | hx | hx
      · exact h x (List.mem_of_mem_take hx)
      · simp only [List.mem_singleton] at hx; subst hx; exact ho
      · exact h x (List.mem_of_mem_drop hx)
  split
  · dsimp only
    unfold renP
    split
    · exact h
    split
    · exact few_modify (fun _ => rfl) h
    · exact h
  split
  · dsimp only
    unfold relP
    split
    · exact fun x hx => h x ((List.eraseIdx_sublist _ _).subset hx)
    · exact h
  split
  · dsimp only
    unfold turnP
    split
    · split
      · exact h
      · exact few_modify (fun _ => rfl) h
    · exact h
  · exact fun x hx => h x (List.filter_sublist.subset hx)
/-- beside an error all is as it was -/
theorem run_err (now : Int) (l : List Lk) (o : UInt64) (kind : Nat) (shared : Bool) (t : Int) (h : (runP now l o kind shared t).2.2 ≠ 0) : (runP now l o kind shared t).1 = now ∧ (runP now l o kind shared t).2.1 = l := by
  revert h
  unfold runP
  split
  · dsimp only
    unfold askP
    split
    · exact fun _ => ⟨rfl, rfl⟩
    split
    · exact fun _ => ⟨rfl, rfl⟩
    split
    · exact fun _ => ⟨rfl, rfl⟩
    split
    · exact fun _ => ⟨rfl, rfl⟩
    · exact fun h => absurd rfl h
  split
  · dsimp only
    unfold renP
    split
    · exact fun _ => ⟨rfl, rfl⟩
    split
    · exact fun h => absurd rfl h
    · exact fun _ => ⟨rfl, rfl⟩
  split
  · dsimp only
    unfold relP
    split
    · exact fun h => absurd rfl h
    · exact fun _ => ⟨rfl, rfl⟩
  split
  · dsimp only
    unfold turnP
    split
    · split
      · exact fun _ => ⟨rfl, rfl⟩
      · exact fun h => absurd rfl h
    · exact fun _ => ⟨rfl, rfl⟩
  · exact fun h => absurd rfl h
theorem hasO_iff {l : List Lk} {k : UInt64} (hr : RisO l) : hasO l k = true ↔ ∃ x ∈ l, x.o = k := by
  constructor
  · intro h
    exact ⟨_, List.getElem_mem (hasO_lt h), hasO_at h⟩
  · rintro ⟨x, hx, rfl⟩
    obtain ⟨i, hi, rfl⟩ := List.getElem_of_mem hx
    exact (place_of hr i hi rfl).2
theorem run_holds (now : Int) (l : List Lk) (o : UInt64) (kind : Nat) (shared : Bool) (t : Int) (hf : FitP now l) (h : (runP now l o kind shared t).2.2 = 0) :
    (kind = 0 ∨ kind = 1 → hasO (runP now l o kind shared t).2.1 o = true) ∧ (kind = 2 → hasO (runP now l o kind shared t).2.1 o = false) := by
  have hfit := run_fit now l o kind shared t hf
  have hris := hfit.2.2.2.1
  constructor
  · intro hk
    rw [hasO_iff hris]
    rcases hk with rfl | rfl
    · unfold runP at h ⊢
      rw [if_pos rfl] at h ⊢
      dsimp only at h ⊢
      unfold askP at h ⊢
      split at h
      · cases h
      rename_i h1
      rw [if_neg h1]
      split at h
      · cases h
      rename_i h2
      rw [if_neg h2]
      split at h
      · cases h
      rename_i h3
      rw [if_neg h3]
      split at h
      · cases h
      rename_i h4
      rw [if_neg h4]
      exact ⟨⟨o, shared, now + t⟩, by unfold insL; simp, rfl⟩
    · unfold runP at h ⊢
      rw [if_neg (by decide), if_pos rfl] at h ⊢
      dsimp only at h ⊢
      unfold renP at h ⊢
      split at h
      · cases h
      rename_i h1
      rw [if_neg h1]
      split at h
      · rename_i h2
        rw [if_pos h2]
        have hlt := hasO_lt h2
        have hat := hasO_at h2
        refine ⟨(setU l (placeO l o) (now + t))[placeO l o]'(by rw [setU_len]; exact hlt), List.getElem_mem _, ?_⟩
        unfold setU
        rw [List.getElem_modify, if_pos rfl]
        exact hat
      · cases h
  · rintro rfl
    unfold runP at h hris ⊢
    rw [if_neg (by decide), if_neg (by decide), if_pos rfl] at h hris ⊢
    dsimp only at h hris ⊢
    unfold relP at h hris ⊢
    split at h
    · rename_i h2
      rw [if_pos h2] at hris ⊢
      dsimp only at hris ⊢
      cases hq : hasO (l.eraseIdx (placeO l o)) o with
      | false => rfl
      | true =>
        obtain ⟨x, hx, e⟩ := (hasO_iff hris).1 hq
        rw [← relL_erase l o hf.2.2.2.1 h2] at hx
        unfold relL at hx
        have := (List.mem_filter.1 hx).2
        simp [e] at this
    · cases h
/-- counting those that hold -/
theorem place_succ (l : List Lk) (hr : RisO l) (j : Nat) (hj : j < 5) : placeO l (UInt64.ofNat (j + 1)) = placeO l (UInt64.ofNat j) + (if hasO l (UInt64.ofNat j) = true then 1 else 0) := by
  have hlt : ∀ (x : Lk), x.o < UInt64.ofNat (j + 1) ↔ x.o < UInt64.ofNat j ∨ x.o = UInt64.ofNat j := by
    intro x
    have e1 : (UInt64.ofNat (j + 1)).toNat = j + 1 := by
      rw [UInt64.toNat_ofNat']; omega
    have e2 : (UInt64.ofNat j).toNat = j := by
      rw [UInt64.toNat_ofNat']; omega
    constructor
    · intro h
      have h' : x.o.toNat < (UInt64.ofNat (j + 1)).toNat := h
      by_cases h2 : x.o.toNat < j
      · left; show x.o.toNat < (UInt64.ofNat j).toNat; omega
      · right; exact UInt64.toNat_inj.1 (by omega)
    · rintro (h | h)
      · have h' : x.o.toNat < (UInt64.ofNat j).toNat := h
        show x.o.toNat < (UInt64.ofNat (j + 1)).toNat
        omega
      · show x.o.toNat < (UInt64.ofNat (j + 1)).toNat
        rw [h]; omega
  have h1 := placeO_lt l (UInt64.ofNat (j + 1)) hr
  have h2 := placeO_lt l (UInt64.ofNat j) hr
  have l1 := placeO_le l (UInt64.ofNat (j + 1))
  have l2 := placeO_le l (UInt64.ofNat j)
  by_cases hh : hasO l (UInt64.ofNat j) = true
  · rw [if_pos hh]
    have hp := hasO_lt hh
    have hat := hasO_at hh
    have a1 := (h1 _ hp).1 ((hlt _).2 (.inr hat))
    refine Nat.le_antisymm (Nat.le_of_not_lt fun h => ?_) a1
    have hp2 : placeO l (UInt64.ofNat j) + 1 < l.length := by omega
    have a2 := (h1 _ hp2).2 (by omega)
    rcases (hlt _).1 a2 with h3 | h3
    · have := (h2 _ hp2).1 h3; omega
    · have := (place_of hr _ hp2 h3).1; omega
  · rw [if_neg hh]
    refine Nat.le_antisymm (Nat.le_of_not_lt fun h => ?_) (Nat.le_of_not_lt fun h => ?_)
    · have hp2 : placeO l (UInt64.ofNat j) < l.length := by omega
      have a2 := (h1 _ hp2).2 (by omega)
      rcases (hlt _).1 a2 with h3 | h3
      · have := (h2 _ hp2).1 h3; omega
      · exact hh (place_of hr _ hp2 h3).2
    · have hp2 : placeO l (UInt64.ofNat (j + 1)) < l.length := by omega
      have a2 := (h2 _ hp2).2 (by omega)
      have := (h1 _ hp2).1 ((hlt _).2 (.inl a2))
      omega
theorem place_zero (l : List Lk) : placeO l (UInt64.ofNat 0) = 0 := by
  unfold placeO
  cases l with
  | nil => rfl
  | cons x r =>
    have : decide (x.o < UInt64.ofNat 0) = false := by
      rw [decide_eq_false_iff_not]
      intro h
      have h' : x.o.toNat < (UInt64.ofNat 0).toNat := h
      have e : (UInt64.ofNat 0).toNat = 0 := by decide
      omega
    rw [List.takeWhile_cons, this]
    rfl
theorem takeWhile_all {α : Type} (p : α → Bool) : ∀ (l : List α), (∀ x ∈ l, p x = true) → l.takeWhile p = l
  | [], _ => rfl
  | x :: r, h => by rw [List.takeWhile_cons, h x (by simp)]; simp only [if_true]; rw [takeWhile_all p r (fun y hy => h y (by simp [hy]))]
theorem place_five (l : List Lk) (h : Few5 l) : placeO l (UInt64.ofNat 5) = l.length := by
  unfold placeO
  have : l.takeWhile (fun x => decide (x.o < UInt64.ofNat 5)) = l := by
    exact takeWhile_all _ _ fun x hx => decide_eq_true (h x hx)
  rw [this]
theorem alone_one (now : Int) (l : List Lk) (k : UInt64) (hf : FitP now l) (h : (hasO l k && !(l[placeO l k]?.map Lk.s).getD false) = true) : l.length = 1 := by
  rw [Bool.and_eq_true] at h
  obtain ⟨h1, h2⟩ := h
  have hlt := hasO_lt h1
  rw [List.getElem?_eq_getElem hlt] at h2
  simp only [Option.map_some, Option.getD_some, Bool.not_eq_true'] at h2
  have := (bad_iff _ _ _).1 (hf.2.2.2.2 _ (List.getElem_mem hlt))
  rcases this.2.2 with h3 | h3
  · rw [h2] at h3; cases h3
  · omega
end Go.Proofs.Ytffnkgfpbjmkbaa
