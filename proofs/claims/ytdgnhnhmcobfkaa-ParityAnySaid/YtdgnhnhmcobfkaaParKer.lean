/- Rows that are picked out of all rows: the matrix can be undone. Plain. -/
import Derived.Test.YtdgnhnhmcobfkaaParCau
namespace Go.Proofs.Ytdgnhnhmcobfkaa
set_option linter.unusedVariables false
set_option linter.unusedSimpArgs false
def cntB (h : List Bool) : Nat → Nat
  | 0 => 0
  | j + 1 => cntB h j + if h.getD j false = true then 1 else 0
theorem pickJ_count (l : List ByteArray) (h : List Bool) (n : Nat) : ∀ j, (pickJ l h n j).length = min n (cntB h j)
  | 0 => by simp [pickJ, cntB]
  | j + 1 => by
    have ih := pickJ_count l h n j
    unfold pickJ cntB
    simp only [Nat.min_def] at ih ⊢
    by_cases e : h.getD j false = true
    · by_cases e2 : (pickJ l h n j).length < n
      · rw [if_pos ⟨by omega, e⟩, if_pos e, List.length_append, List.length_singleton]
        split at ih <;> split <;> omega
      · rw [if_neg (fun e3 => by have := e3.1; omega), if_pos e]
        split at ih <;> split <;> omega
    · rw [if_neg (fun e3 => e e3.2), if_neg e]
      exact ih
theorem pickJ_succ (l : List ByteArray) (h : List Bool) (n : Int) (j : Nat) : pickJ l h n (j + 1) = if ((pickJ l h n j).length : Int) < n ∧ h.getD j false = true then pickJ l h n j ++ [l.getD j .empty] else pickJ l h n j := rfl
theorem cntB_le (h : List Bool) : ∀ j, cntB h j ≤ j
  | 0 => Nat.le_refl _
  | j + 1 => by have := cntB_le h j; unfold cntB; split <;> omega
theorem cntB_mono (h : List Bool) (j : Nat) : ∀ d, cntB h j ≤ cntB h (j + d)
  | 0 => Nat.le_refl _
  | d + 1 => by have := cntB_mono h j d; show _ ≤ cntB h (j + d) + (if _ then 1 else 0); omega
theorem pickJ_sub (l : List ByteArray) (h : List Bool) (n : Int) (j : Nat) : ∀ r ∈ pickJ l h n j, r ∈ pickJ l h n (j + 1) := fun r hr => by
  show r ∈ (if _ then _ else _)
  split
  · exact List.mem_append.2 (.inl hr)
  · exact hr
theorem pickJ_mem (l : List ByteArray) (h : List Bool) (n : Int) : ∀ j, ∀ r ∈ pickJ l h n j, ∃ i, i < j ∧ h.getD i false = true ∧ r = l.getD i .empty
  | 0, r, hr => by cases hr
  | j + 1, r, hr => by
    change r ∈ (if _ then _ else _) at hr
    split at hr
    · next hc =>
      rcases List.mem_append.1 hr with h1 | h1
      · obtain ⟨i, a, b, c⟩ := pickJ_mem l h n j r h1; exact ⟨i, by omega, b, c⟩
      · simp at h1; exact ⟨j, by omega, hc.2, by rw [h1]; simp⟩
    · obtain ⟨i, a, b, c⟩ := pickJ_mem l h n j r hr; exact ⟨i, by omega, b, c⟩
/-- all of the first n that are there are picked -/
theorem pickJ_all (l : List ByteArray) (h : List Bool) (n : Nat) : ∀ j, j ≤ n → ∀ i, i < j → h.getD i false = true → l.getD i .empty ∈ pickJ l h n j
  | 0, _, i, hi, _ => by omega
  | j + 1, hj, i, hi, he => by
    by_cases e : i = j
    · subst e
      have h1 := pickJ_len l h n i
      show _ ∈ (if _ then _ else _)
      rw [if_pos ⟨by omega, he⟩]
      simp
    · exact pickJ_sub l h n j _ (pickJ_all l h n j (by omega) i (by omega) he)
/-- those picked behind the first n -/
theorem pickJ_more (l : List ByteArray) (h : List Bool) (n : Nat) : ∀ d, ∃ xs : List Nat, xs.Nodup ∧ (∀ x ∈ xs, n ≤ x ∧ x < n + d) ∧ xs.length + cntB h n = (pickJ l h n (n + d)).length ∧ ∀ x ∈ xs, l.getD x .empty ∈ pickJ l h n (n + d)
  | 0 => by
    refine ⟨[], List.nodup_nil, fun _ h => absurd h (by simp), ?_, fun _ h => absurd h (by simp)⟩
    rw [pickJ_count, Nat.add_zero, Nat.min_def]
    have := cntB_le h n
    simp only [List.length_nil]
    split <;> omega
  | d + 1 => by
    obtain ⟨xs, h1, h2, h3, h4⟩ := pickJ_more l h n d
    have hsub := pickJ_sub l h n (n + d)
    by_cases e : ((pickJ l h n (n + d)).length : Int) < n ∧ h.getD (n + d) false = true
    · refine ⟨(n + d) :: xs, List.nodup_cons.2 ⟨fun hm => by have := h2 _ hm; omega, h1⟩, fun x hx => ?_, ?_, fun x hx => ?_⟩
      · rcases List.mem_cons.1 hx with rfl | hx
        · exact ⟨by omega, by omega⟩
        · have := h2 x hx; exact ⟨by omega, by omega⟩
      · have e2 : pickJ l h n (n + (d + 1)) = pickJ l h n (n + d) ++ [l.getD (n + d) .empty] := by
          rw [show n + (d + 1) = (n + d) + 1 from rfl, pickJ_succ, if_pos e]
        rw [e2, List.length_append, List.length_cons, List.length_singleton]; omega
      · rcases List.mem_cons.1 hx with rfl | hx
        · have e2 : pickJ l h n (n + (d + 1)) = pickJ l h n (n + d) ++ [l.getD (n + d) .empty] := by
            rw [show n + (d + 1) = (n + d) + 1 from rfl, pickJ_succ, if_pos e]
          rw [e2]; simp
        · exact hsub _ (h4 x hx)
    · refine ⟨xs, h1, fun x hx => by have := h2 x hx; exact ⟨by omega, by omega⟩, ?_, fun x hx => hsub _ (h4 x hx)⟩
      have e2 : pickJ l h n (n + (d + 1)) = pickJ l h n (n + d) := by
        rw [show n + (d + 1) = (n + d) + 1 from rfl, pickJ_succ, if_neg e]
      rw [e2]; exact h3
/-- all rows: those of 1 and 0, and the matrix's -/
def rowsP (k p : Nat) : List ByteArray := (List.range k).map (fun i => bytesF k (dI i)) ++ parM k p
theorem rowsP_len (k p : Nat) : (rowsP k p).length = k + p := by simp [rowsP, parM]
theorem rowsP_low (k p i : Nat) (h : i < k) : (rowsP k p).getD i .empty = bytesF k (dI i) := by
  unfold rowsP
  rw [List.getD_eq_getElem?_getD, List.getElem?_append_left (by simpa using h), ← List.getD_eq_getElem?_getD]
  exact mapF_get k k dI i h
theorem rowsP_high (k p i : Nat) (h1 : k ≤ i) (h2 : i < k + p) : (rowsP k p).getD i .empty = bytesF k (cau k (i - k)) := by
  unfold rowsP
  rw [List.getD_eq_getElem?_getD, List.getElem?_append_right (by simpa using h1), ← List.getD_eq_getElem?_getD]
  simp only [List.length_map, List.length_range]
  exact mapF_get p k (cau k) (i - k) (by omega)
theorem rowsP_size (k p i : Nat) (h : i < k + p) : ((rowsP k p).getD i .empty).size = k := by
  by_cases e : i < k
  · rw [rowsP_low k p i e, bytesF_size]
  · rw [rowsP_high k p i (by omega) h, bytesF_size]
theorem nz_cnt (h : List Bool) (v : Nat → UInt8) : ∀ k, (∀ j, j < k → h.getD j false = true → v j = 0) → nz v k + cntB h k ≤ k
  | 0, _ => Nat.le_refl _
  | k + 1, hv => by
    have := nz_cnt h v k fun j hj => hv j (by omega)
    unfold nz cntB
    by_cases e : h.getD k false = true
    · rw [if_pos (hv k (by omega) e), if_pos e]; omega
    · rw [if_neg e]; split <;> omega
theorem ofNat_inj {a b : Nat} (ha : a < 256) (hb : b < 256) (h : UInt8.ofNat a = UInt8.ofNat b) : a = b := by
  have := congrArg UInt8.toNat h
  rwa [UInt8.toNat_ofNat', UInt8.toNat_ofNat', Nat.mod_eq_of_lt ha, Nat.mod_eq_of_lt hb] at this
theorem pick_ker (k p : Nat) (h : List Bool) (hk : k ≤ 16) (hp : p ≤ 16) (hc : k ≤ cntB h (k + p)) (v : Nat → UInt8)
    (hv : ∀ q, q < k → sg k (fun j => um (mt (pickJ (rowsP k p) h k (k + p)) q j) (v j)) = 0) : ∀ j, j < k → v j = 0 := by
  have hlen : (pickJ (rowsP k p) h k (k + p)).length = k := by rw [pickJ_count, Nat.min_def]; split <;> omega
  have hrow : ∀ r ∈ pickJ (rowsP k p) h k (k + p), sg k (fun j => um (rw' r j) (v j)) = 0 := fun r hr => by
    obtain ⟨q, hq, rfl⟩ := List.mem_iff_getElem.1 hr
    rw [← hv q (by omega)]
    exact sg_congr fun j _ => by rw [mt_get hq]
  have hlow : ∀ j, j < k → h.getD j false = true → v j = 0 := fun j hj he => by
    have hm : (rowsP k p).getD j .empty ∈ pickJ (rowsP k p) h k (k + p) := by
      have h1 := pickJ_all (rowsP k p) h k k (Nat.le_refl _) j hj he
      have : ∀ d, (rowsP k p).getD j .empty ∈ pickJ (rowsP k p) h k (k + d) := fun d => by
        induction d with
        | zero => exact h1
        | succ d ih => exact pickJ_sub _ _ _ _ _ ih
      exact this p
    have h2 := hrow _ hm
    rw [rowsP_low k p j hj] at h2
    rw [sg_congr (g := fun q => um (dI j q) (v q)) (fun q hq => by rw [rw_bytesF _ hq]), sg_dI _ hj] at h2
    exact h2
  obtain ⟨xs, x1, x2, x3, x4⟩ := pickJ_more (rowsP k p) h k p
  rw [hlen] at x3
  have hnz := nz_cnt h v k hlow
  refine cauchy k (fun j => UInt8.ofNat j) (fun i j hi hj e => ofNat_inj (by omega) (by omega) e) (xs.map fun x => UInt8.ofNat x) v ?_ ?_ (by rw [List.length_map]; omega) ?_
  · refine List.Pairwise.map _ ?_ (List.Pairwise.and_mem.1 x1)
    rintro a b ⟨ha, hb, hab⟩ e
    have h1 := x2 a ha
    have h2 := x2 b hb
    exact hab (ofNat_inj (by omega) (by omega) e)
  · intro x hx j hj e
    obtain ⟨a, ha, rfl⟩ := List.mem_map.1 hx
    have h1 := x2 a ha
    have := ofNat_inj (by omega) (by omega) e
    omega
  · intro x hx
    obtain ⟨a, ha, rfl⟩ := List.mem_map.1 hx
    have h1 := x2 a ha
    have h2 := hrow _ (x4 a ha)
    rw [rowsP_high k p a h1.1 h1.2] at h2
    rw [← h2]
    refine sg_congr fun j hj => ?_
    rw [rw_bytesF _ hj]
    unfold cau
    rw [show k + (a - k) = a by omega]
theorem pick_inv (k p : Nat) (h : List Bool) (hk0 : 0 < k) (hk : k ≤ 16) (hp : p ≤ 16) (hc : k ≤ cntB h (k + p)) : invOk (pickJ (rowsP k p) h k (k + p)) = true ∧ (pickJ (rowsP k p) h k (k + p)).length = k := by
  have hlen : (pickJ (rowsP k p) h k (k + p)).length = k := by rw [pickJ_count, Nat.min_def]; split <;> omega
  have hker := pick_ker k p h hk hp hc
  have hsz : ∀ r ∈ pickJ (rowsP k p) h k (k + p), r.size = k := fun r hr => by
    obtain ⟨i, hi, _, rfl⟩ := pickJ_mem _ _ _ _ _ hr
    exact rowsP_size k p i hi
  generalize pickJ (rowsP k p) h k (k + p) = M at *
  refine ⟨?_, hlen⟩
  obtain ⟨R, hR⟩ := el_some hker k (Nat.le_refl _)
  have hf : firstN M = k := by
    cases M with
    | nil => simp at hlen; omega
    | cons a t => exact hsz a (by simp)
  have he : evenL M = true := by
    unfold evenL allN
    rw [List.all_eq_true]
    intro r hr
    rw [decide_eq_true_iff, hf]; exact hsz r hr
  have hsq : sqOk M = true := by
    unfold sqOk widthN evenB
    rw [decide_eq_true_iff, hlen, he, hf]
    refine ⟨by omega, ?_⟩
    rw [if_neg]
    rintro (e | e)
    · omega
    · simp at e; omega
  unfold invOk
  rw [hsq, Bool.true_and, hlen]
  unfold inv
  rw [hR]
  rfl
end Go.Proofs.Ytdgnhnhmcobfkaa
