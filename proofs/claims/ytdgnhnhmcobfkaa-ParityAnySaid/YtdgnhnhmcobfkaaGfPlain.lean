/- The plain laws of GfBack. -/
import Derived.Test.YtdgnhnhmcobfkaaGfInv
namespace Go.Proofs.Ytdgnhnhmcobfkaa
open Go.RowKit
set_option linter.unusedVariables false
theorem few_first {l : List ByteArray} (h : fewL l = true) : firstN l ≤ 1000000000 := by
  unfold fewL at h
  rw [Bool.and_eq_true] at h
  cases l with
  | nil => simp [firstN]
  | cons a t =>
    have := allN_get h.2 0 (by simp)
    simp only [decide_eq_true_iff, List.getElem_cons_zero] at this
    show a.size ≤ _
    omega
/-- rows below n alike -/
def RE (n : Nat) (R R' : Rw) : Prop := ∀ i, i < n → R i = R' i
theorem pvt_congr {n : Nat} {R R' : Rw} (h : RE n R R') (c : Nat) : ∀ k, k ≤ n → pvt R c k = pvt R' c k
  | 0, _ => rfl
  | k + 1, hk => by unfold pvt; rw [pvt_congr h c k (by omega), h k (by omega)]
theorem stp_congr {n : Nat} {R R' : Rw} (h : RE n R R') {c p : Nat} (hc : c < n) (hp : p < n) : RE n (stp R c p) (stp R' c p) := by
  have h1 : RE n (sw R c p) (sw R' c p) := fun i hi => by
    unfold sw
    split
    · exact h p hp
    · split
      · exact h c hc
      · exact h i hi
  have h2 : ∀ f, RE n (sc (sw R c p) c f) (sc (sw R' c p) c f) := fun f i hi => by
    funext k
    unfold sc
    rw [h1 c hc, h1 i hi]
  intro i hi
  funext k
  unfold stp wp
  rw [h1 c hc, h2 _ c hc, h2 _ i hi]
theorem el_congr {n : Nat} {R R' : Rw} (h : RE n R R') : ∀ c, c ≤ n → (el n R c = none ∧ el n R' c = none) ∨ ∃ S S', el n R c = some S ∧ el n R' c = some S' ∧ RE n S S'
  | 0, _ => .inr ⟨R, R', rfl, rfl, h⟩
  | c + 1, hc => by
    rcases el_congr h c (by omega) with ⟨h1, h2⟩ | ⟨S, S', h1, h2, h3⟩
    · left; unfold el; rw [h1, h2]; exact ⟨rfl, rfl⟩
    · have hp := pvt_congr h3 c n (Nat.le_refl _)
      cases hq : pvt S c n with
      | none => left; unfold el; rw [h1, h2]; simp only; rw [← hp, hq]; exact ⟨rfl, rfl⟩
      | some p =>
        right
        refine ⟨stp S c p, stp S' c p, by unfold el; rw [h1]; simp only; rw [hq], by unfold el; rw [h2]; simp only; rw [← hp, hq], stp_congr h3 (by omega) (pvt_some hq).2.1⟩
theorem inv_congr {n : Nat} {M M' O : Rw} (h : ∀ i, i < n → ∀ k, k < n → M i k = M' i k) (hO : inv n M = some O) : ∃ O', inv n M' = some O' ∧ ∀ i, i < n → O i = O' i := by
  have hb : RE n (beg n M) (beg n M') := fun i hi => by
    funext k; unfold beg
    by_cases e : k < n
    · rw [if_pos e, if_pos e, h i hi k e]
    · rw [if_neg e, if_neg e]
  unfold inv at hO ⊢
  rcases el_congr hb n (Nat.le_refl _) with ⟨h1, _⟩ | ⟨S, S', h1, h2, h3⟩
  · rw [h1] at hO; cases hO
  · rw [h1] at hO
    rw [h2]
    injection hO with hO; subst hO
    exact ⟨_, rfl, fun i hi => by funext k; show S i (n + k) = S' i (n + k); rw [h3 i hi]⟩
theorem invL_of {m : List ByteArray} (h : sqOk m = true) : invL m = rowsO m.length (inv m.length (mt m)) := by unfold invL; rw [if_pos h]
theorem timesL_of {m l : List ByteArray} (h : timesOk m l = true) : timesL m l = (List.range m.length).map (timesRow m l) := by unfold timesL; rw [if_pos h]
theorem rowsL_len (n : Nat) (N : Rw) : (rowsL n N).length = n := by simp [rowsL]
theorem mapF_get (n W : Nat) (F : Nat → Nat → UInt8) (i : Nat) (hi : i < n) : ((List.range n).map fun i => bytesF W (F i)).getD i .empty = bytesF W (F i) := by
  rw [List.getD_eq_getElem?_getD, List.getElem?_map, List.getElem?_range hi]; rfl
theorem mt_map (n W : Nat) (F : Nat → Nat → UInt8) (i k : Nat) (hi : i < n) (hk : k < W) : mt ((List.range n).map fun i => bytesF W (F i)) i k = F i k := by
  unfold mt; rw [mapF_get n W F i hi, rw_bytesF _ hk]
theorem first_map (n W : Nat) (F : Nat → Nat → UInt8) (h : 0 < n) : firstN ((List.range n).map fun i => bytesF W (F i)) = W := by
  cases n with
  | zero => omega
  | succ n => rw [List.range_succ_eq_map]; simp [firstN, bytesF_size]
theorem even_map (n W : Nat) (F : Nat → Nat → UInt8) : evenL ((List.range n).map fun i => bytesF W (F i)) = true := by
  unfold evenL allN
  rw [List.all_eq_true]
  intro x hx
  obtain ⟨i, hi, rfl⟩ := List.mem_map.1 hx
  have : 0 < n := by have := List.mem_range.1 hi; omega
  rw [first_map n W F this, bytesF_size]
  simp
theorem width_map (n W : Nat) (F : Nat → Nat → UInt8) (h : 0 < n) (h16 : n ≤ 16) : widthN ((List.range n).map fun i => bytesF W (F i)) = W := by
  unfold widthN
  rw [if_neg, first_map n W F h]
  rintro (e | e)
  · simp at e; omega
  · unfold evenB at e
    rw [even_map] at e
    simp at e; omega
theorem list_rows {l : List ByteArray} {n W : Nat} {F : Nat → Nat → UInt8} (hn : l.length = n) (hs : ∀ i (h : i < l.length), l[i].size = W) (he : ∀ i, i < n → ∀ k, k < W → F i k = mt l i k) : ((List.range n).map fun i => bytesF W (F i)) = l := by
  apply List.ext_getElem
  · simp [hn]
  · intro i h1 h2
    rw [List.getElem_map, List.getElem_range]
    have hi : i < n := by omega
    have : bytesF W (F i) = bytesF W (rw' l[i]) := bytesF_congr fun k hk => by rw [he i hi k hk, mt_get h2]
    rw [this, ← hs i h2, bytesF_rw]
theorem invOk_some {m : List ByteArray} (h : invOk m = true) : sqOk m = true ∧ ∃ N, inv m.length (mt m) = some N ∧ invL m = rowsL m.length N := by
  unfold invOk at h
  rw [Bool.and_eq_true] at h
  obtain ⟨h1, h2⟩ := h
  obtain ⟨N, hN⟩ := Option.isSome_iff_exists.1 h2
  refine ⟨h1, N, hN, ?_⟩
  unfold invL
  rw [if_pos h1, hN]
  rfl
theorem back_inv {m : List ByteArray} (h : invOk m = true) : invOk (invL m) = true ∧ invL (invL m) = m := by
  obtain ⟨hs, N, hN, hL⟩ := invOk_some h
  obtain ⟨h0, h16, hr⟩ := sqOk_parts hs
  obtain ⟨O, hO, hOm⟩ := inv_inv hN
  have hsq : sqOk (invL m) = true := by
    unfold sqOk
    rw [decide_eq_true_iff, hL, rowsL_len]
    exact ⟨by omega, width_map m.length m.length N h0 h16⟩
  have hlen : (invL m).length = m.length := by rw [hL, rowsL_len]
  obtain ⟨O', hO', hOO⟩ := inv_congr (M' := mt (invL m)) (fun i hi k hk => by rw [hL]; exact (mt_map m.length m.length N i k hi hk).symm) hO
  have hinv : inv (invL m).length (mt (invL m)) = some O' := by rw [hlen]; exact hO'
  refine ⟨by unfold invOk; rw [hsq, hinv]; rfl, ?_⟩
  rw [invL_of hsq, hinv]
  show rowsL (invL m).length O' = m
  rw [hlen]
  exact list_rows rfl hr fun i hi k hk => by rw [← hOO i hi, hOm i hi k hk]
theorem back_times {m l : List ByteArray} (h : invOk m = true) (ht : timesOk m l = true) : timesOk (invL m) (timesL m l) = true ∧ timesL (invL m) (timesL m l) = l := by
  obtain ⟨hs, N, hN, hL⟩ := invOk_some h
  obtain ⟨h0, h16, hr⟩ := sqOk_parts hs
  have hw : widthN m = m.length := by unfold sqOk at hs; rw [decide_eq_true_iff] at hs; exact hs.2
  have hT : timesL m l = (List.range m.length).map (timesRow m l) := by unfold timesL; rw [if_pos ht]
  unfold timesOk at ht
  rw [Bool.and_eq_true, decide_eq_true_iff] at ht
  obtain ⟨⟨_, hwl⟩, hev⟩ := ht
  have hll : l.length = m.length := by omega
  have hle : evenL l = true ∧ l.length ≤ 16 := by unfold evenB at hev; rwa [Bool.and_eq_true, decide_eq_true_iff] at hev
  have hT' : timesL m l = (List.range m.length).map fun i => bytesF (firstN l) (fun k => sg l.length fun j => um (mt m i j) (mt l j k)) := hT
  have hlen : (timesL m l).length = m.length := by rw [hT']; simp
  have hfir : firstN (timesL m l) = firstN l := by rw [hT']; exact first_map m.length (firstN l) (fun i k => sg l.length fun j => um (mt m i j) (mt l j k)) h0
  have hok : timesOk (invL m) (timesL m l) = true := by
    unfold timesOk evenB
    rw [hL, show widthN (rowsL m.length N) = m.length from width_map m.length m.length N h0 h16, hlen]
    rw [hT', even_map m.length (firstN l) (fun i k => sg l.length fun j => um (mt m i j) (mt l j k))]
    simp only [Bool.true_and, Bool.and_eq_true, decide_eq_true_iff]
    exact ⟨⟨by omega, trivial⟩, h16⟩
  refine ⟨hok, ?_⟩
  rw [timesL_of hok, hL, rowsL_len]
  refine list_rows (F := fun i k => sg (timesL m l).length fun j => um (mt (rowsL m.length N) i j) (mt (timesL m l) j k)) hll (fun i hi => by rw [hfir]; exact evenL_get hle.1 i hi) fun i hi k hk => ?_
  rw [hfir] at hk
  rw [hlen, ← inv_back hN (fun j => mt l j k) i hi]
  refine sg_congr fun j hj => ?_
  rw [hT', mt_map m.length (firstN l) _ j k hj hk, show mt (rowsL m.length N) i j = N i j from mt_map m.length m.length N i j hi hj, hll]
theorem firstN_times {m l : List ByteArray} (ht : timesOk m l = true) : firstN (timesL m l) = firstN l := by
  have hT := timesL_of ht
  unfold timesOk at ht
  rw [Bool.and_eq_true, decide_eq_true_iff] at ht
  rw [hT]
  exact first_map m.length (firstN l) (fun i k => sg l.length fun j => um (mt m i j) (mt l j k)) (widthN_ne ht.1.1).1
theorem invL_no {m : List ByteArray} (h : invOk m = false) : invL m = [] := by
  unfold invOk at h
  unfold invL
  cases hs : sqOk m with
  | false => rw [if_neg (by simp)]
  | true =>
    rw [hs, Bool.true_and] at h
    rw [if_pos rfl]
    cases hi : inv m.length (mt m) with
    | none => rfl
    | some N => rw [hi] at h; cases h
end Go.Proofs.Ytdgnhnhmcobfkaa
