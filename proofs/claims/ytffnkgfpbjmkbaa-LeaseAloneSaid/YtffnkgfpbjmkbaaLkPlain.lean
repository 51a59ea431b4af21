/- Plain: locks that can be stay so behind each call. -/
import Derived.Test.YtffnkgfpbjmkbaaLkR5
namespace Go.Proofs.Ytffnkgfpbjmkbaa
open Go.RowKit
set_option linter.unusedVariables false
set_option linter.unusedSimpArgs false
theorem bad_iff (now : Int) (n : Nat) (x : Lk) : badB now n x = false ↔ now < x.u ∧ x.u ≤ now + 1000 ∧ (x.s = true ∨ n ≤ 1) := by
  unfold badB
  cases x.s <;> simp <;> omega
theorem ris_map (l : List Lk) : RisO l ↔ (l.map Lk.o).Pairwise (· < ·) := by
  unfold RisO
  rw [List.pairwise_map]
theorem ris_ins (l : List Lk) (x : Lk) (hr : RisO l) (hh : hasO l x.o = false) : RisO (insL l (placeO l x.o) x) := by
  have hp := placeO_lt l x.o hr
  have hno : ∀ j (h : j < l.length), l[j].o ≠ x.o := fun j h e => by
    have := (place_of hr j h e).2
    rw [hh] at this; cases this
  unfold insL RisO
  rw [List.append_assoc, List.pairwise_append]
  refine ⟨hr.sublist (List.take_sublist _ _), ?_, ?_⟩
  · rw [List.pairwise_append]
    refine ⟨by simp, hr.sublist (List.drop_sublist _ _), ?_⟩
    intro a ha b hb
    simp only [List.mem_singleton] at ha
    subst ha
    obtain ⟨i, hi, rfl⟩ := List.getElem_of_mem hb
    rw [List.length_drop] at hi
    rw [List.getElem_drop]
    have h1 := hp (placeO l a.o + i) (by omega)
    have h2 := hno (placeO l a.o + i) (by omega)
    have h3 : ¬ l[placeO l a.o + i].o < a.o := fun h => by have := h1.1 h; omega
    have h4 : ¬ l[placeO l a.o + i].o.toNat < a.o.toNat := h3
    have h5 : l[placeO l a.o + i].o.toNat ≠ a.o.toNat := fun e => h2 (UInt64.toNat_inj.1 e)
    show a.o.toNat < l[placeO l a.o + i].o.toNat
    omega
  · intro a ha b hb
    obtain ⟨i, hi, rfl⟩ := List.getElem_of_mem ha
    rw [List.length_take] at hi
    rw [List.getElem_take]
    rcases List.mem_append.1 hb with hb | hb
    · simp only [List.mem_singleton] at hb
      subst hb
      exact (hp i (by omega)).2 (by omega)
    · obtain ⟨j, hj, rfl⟩ := List.getElem_of_mem hb
      rw [List.length_drop] at hj
      rw [List.getElem_drop]
      exact List.pairwise_iff_getElem.1 hr i (placeO l x.o + j) (by omega) (by omega) (by omega)
theorem fit_ask (now : Int) (l : List Lk) (owner : UInt64) (shared : Bool) (ticks : Int) (h : FitP now l) : FitP now (askP now l owner shared ticks).1 := by
  unfold askP
  by_cases ht : tickB ticks = false
  · rw [if_pos ht]; exact h
  rw [if_neg ht]
  by_cases hh : hasO l owner = true
  · rw [if_pos hh]; exact h
  rw [if_neg hh]
  by_cases ha : aloneB l = true ∨ (shared = false ∧ 0 < l.length)
  · rw [if_pos ha]; exact h
  rw [if_neg ha]
  by_cases h16 : 16 ≤ l.length
  · rw [if_pos h16]; exact h
  rw [if_neg h16]
  obtain ⟨a1, a2, a3, a4, a5⟩ := h
  have hh' : hasO l owner = false := by cases hq : hasO l owner with | true => exact absurd hq hh | false => rfl
  have htb : 0 < ticks ∧ ticks ≤ 1000 := by
    cases hq : tickB ticks with
    | false => exact absurd hq ht
    | true => unfold tickB at hq; simpa using hq
  have hlen := insL_len l (placeO l owner) ⟨owner, shared, now + ticks⟩ (placeO_le _ _)
  refine ⟨a1, a2, by dsimp only; omega, ris_ins l ⟨owner, shared, now + ticks⟩ a4 hh', fun x hx => ?_⟩
  rw [bad_iff, hlen]
  have hal : ∀ y ∈ l, y.s = true := fun y hy => by
    cases hs : y.s with
    | true => rfl
    | false => exact absurd (Or.inl (List.any_eq_true.2 ⟨y, hy, by simp [hs]⟩)) ha
  unfold insL at hx
  rw [List.append_assoc, List.mem_append, List.mem_append] at hx
  rcases hx with hx | hx | hx
  · have hm := List.mem_of_mem_take hx
    have := (bad_iff _ _ _).1 (a5 x hm)
    exact ⟨this.1, this.2.1, .inl (hal x hm)⟩
  · simp only [List.mem_singleton] at hx
    subst hx
    dsimp only
    refine ⟨by omega, by omega, ?_⟩
    cases shared with
    | true => exact .inl rfl
    | false =>
      right
      have : ¬ 0 < l.length := fun h => ha (.inr ⟨rfl, h⟩)
      omega
  · have hm := List.mem_of_mem_drop hx
    have := (bad_iff _ _ _).1 (a5 x hm)
    exact ⟨this.1, this.2.1, .inl (hal x hm)⟩
theorem mem_modify {l : List Lk} {i : Nat} {f : Lk → Lk} {x : Lk} (h : x ∈ l.modify i f) : x ∈ l ∨ ∃ y ∈ l, x = f y := by
  obtain ⟨j, hj, rfl⟩ := List.getElem_of_mem h
  rw [List.length_modify] at hj
  rw [List.getElem_modify]
  split
  · exact .inr ⟨_, List.getElem_mem hj, rfl⟩
  · exact .inl (List.getElem_mem hj)
theorem ris_modify {l : List Lk} {i : Nat} {f : Lk → Lk} (hf : ∀ x, (f x).o = x.o) (h : RisO l) : RisO (l.modify i f) := by
  rw [ris_map] at h ⊢
  have : (l.modify i f).map Lk.o = l.map Lk.o := by
    refine List.ext_getElem (by simp) fun j h1 h2 => ?_
    rw [List.getElem_map, List.getElem_map, List.getElem_modify]
    split
    · rename_i e; rw [hf]
    · rfl
  rw [this]
  exact h
theorem fit_ren (now : Int) (l : List Lk) (owner : UInt64) (ticks : Int) (h : FitP now l) : FitP now (renP now l owner ticks).1 := by
  unfold renP
  by_cases ht : tickB ticks = false
  · rw [if_pos ht]; exact h
  rw [if_neg ht]
  by_cases hh : hasO l owner = true
  · rw [if_pos hh]
    obtain ⟨a1, a2, a3, a4, a5⟩ := h
    have htb : 0 < ticks ∧ ticks ≤ 1000 := by
      cases hq : tickB ticks with
      | false => exact absurd hq ht
      | true => unfold tickB at hq; simpa using hq
    refine ⟨a1, a2, by rw [setU_len]; exact a3, ris_modify (fun _ => rfl) a4, fun x hx => ?_⟩
    rw [setU_len, bad_iff]
    rcases mem_modify hx with hx | ⟨y, hy, rfl⟩
    · exact (bad_iff _ _ _).1 (a5 x hx)
    · have := (bad_iff _ _ _).1 (a5 y hy)
      exact ⟨by dsimp only; omega, by dsimp only; omega, this.2.2⟩
  · rw [if_neg hh]; exact h
theorem fit_turn (now : Int) (l : List Lk) (owner : UInt64) (shared : Bool) (h : FitP now l) : FitP now (turnP l owner shared).1 := by
  unfold turnP
  by_cases hh : hasO l owner = true
  · rw [if_pos hh]
    by_cases hb : shared = false ∧ 1 < l.length
    · rw [if_pos hb]; exact h
    · rw [if_neg hb]
      obtain ⟨a1, a2, a3, a4, a5⟩ := h
      refine ⟨a1, a2, by rw [setS_len]; exact a3, ris_modify (fun _ => rfl) a4, fun x hx => ?_⟩
      rw [setS_len, bad_iff]
      rcases mem_modify hx with hx | ⟨y, hy, rfl⟩
      · exact (bad_iff _ _ _).1 (a5 x hx)
      · have := (bad_iff _ _ _).1 (a5 y hy)
        refine ⟨this.1, this.2.1, ?_⟩
        dsimp only
        cases shared with
        | true => exact .inl rfl
        | false => exact .inr (by have : ¬ 1 < l.length := fun h => hb ⟨rfl, h⟩; omega)
  · rw [if_neg hh]; exact h
theorem fit_sub {now : Int} {l m : List Lk} (h : FitP now l) (hs : m.Sublist l) : FitP now m := by
  obtain ⟨a1, a2, a3, a4, a5⟩ := h
  have hl := hs.length_le
  refine ⟨a1, a2, by omega, a4.sublist hs, fun x hx => ?_⟩
  have := (bad_iff _ _ _).1 (a5 x (hs.subset hx))
  exact (bad_iff _ _ _).2 ⟨this.1, this.2.1, this.2.2.imp_right (fun h => by omega)⟩
theorem fit_rel (now : Int) (l : List Lk) (owner : UInt64) (h : FitP now l) : FitP now (relP l owner).1 := by
  unfold relP
  by_cases hh : hasO l owner = true
  · rw [if_pos hh]; exact fit_sub h (List.eraseIdx_sublist _ _)
  · rw [if_neg hh]; exact h
theorem passN_ge (now ticks : Int) (h : now ≤ 274877906944) (h0 : 0 ≤ now) : now ≤ passN now ticks ∧ passN now ticks ≤ 274877906944 := by
  unfold passN
  omega
theorem fit_pass (now : Int) (l : List Lk) (ticks : Int) (h : FitP now l) : FitP (passN now ticks) (keepL l (overB (passN now ticks))) := by
  obtain ⟨p1, p2⟩ := passN_ge now ticks h.2.1 h.1
  obtain ⟨a1, a2, a3, a4, a5⟩ := h
  have hs : (keepL l (overB (passN now ticks))).Sublist l := List.filter_sublist
  have hl := hs.length_le
  refine ⟨by omega, p2, by omega, a4.sublist hs, fun x hx => ?_⟩
  have := (bad_iff _ _ _).1 (a5 x (hs.subset hx))
  have hk : overB (passN now ticks) x = false := by
    have := (List.mem_filter.1 hx).2
    simpa using this
  unfold overB at hk
  have hk' : ¬ x.u ≤ passN now ticks := by simpa using hk
  exact (bad_iff _ _ _).2 ⟨by omega, by omega, this.2.2.imp_right (fun h => by omega)⟩
end Go.Proofs.Ytffnkgfpbjmkbaa
