/- Any k of the k + p shards tell the k again, and Join tells the text again: plain laws. -/
import Derived.Test.YtdgnhnhmcobfkaaParLaws2
namespace Go.Proofs.Ytdgnhnhmcobfkaa
open Go.RowKit
set_option linter.unusedVariables false
/-- one row times a list of rows -/
def rp (l : List ByteArray) (r : ByteArray) : ByteArray := bytesF (firstN l) fun q => sg l.length fun j => um (rw' r j) (mt l j q)
theorem timesRow_rp (m l : List ByteArray) (i : Nat) : timesRow m l i = rp l (m.getD i .empty) := rfl
theorem map_getD (f : ByteArray → ByteArray) : ∀ m : List ByteArray, (List.range m.length).map (fun i => f (m.getD i .empty)) = m.map f := fun m => by
  apply List.ext_getElem
  · simp
  · intro i h1 h2
    have hi : i < m.length := by simpa using h1
    simp [hi]
theorem pickJ_map (f : ByteArray → ByteArray) (L l : List ByteArray) (h : List Bool) (n : Int) : ∀ j, (∀ i, i < j → h.getD i false = true → L.getD i .empty = f (l.getD i .empty)) → pickJ L h n j = (pickJ l h n j).map f
  | 0, _ => rfl
  | j + 1, hj => by
    have ih := pickJ_map f L l h n j (fun i hi => hj i (by omega))
    rw [pickJ_succ, pickJ_succ, ih, List.length_map]
    by_cases e : ((pickJ l h n j).length : Int) < n ∧ h.getD j false = true
    · rw [if_pos e, if_pos e, List.map_append, hj j (by omega) e.2]; rfl
    · rw [if_neg e, if_neg e]
/-- the shards and those made, of which only those that are there are told -/
def allB (l more : List ByteArray) (h : List Bool) : List ByteArray := (List.range (l.length + more.length)).map fun i => if h.getD i false = true then (l ++ more).getD i .empty else .empty
theorem allB_len (l more : List ByteArray) (h : List Bool) : (allB l more h).length = l.length + more.length := by simp [allB]
theorem allB_get (l more : List ByteArray) (h : List Bool) (i : Nat) (hi : i < l.length + more.length) (hh : h.getD i false = true) : (allB l more h).getD i .empty = (l ++ more).getD i .empty := by
  unfold allB
  rw [List.getD_eq_getElem?_getD, List.getElem?_map, List.getElem?_range hi]
  simp only [Option.map_some, Option.getD_some]
  rw [if_pos hh]
theorem row_low {l : List ByteArray} (he : evenL l = true) (i : Nat) (hi : i < l.length) : rp l (bytesF l.length (dI i)) = l.getD i .empty := by
  rw [List.getD_eq_getElem?_getD, List.getElem?_eq_getElem hi, Option.getD_some]
  have hs := evenL_get he i hi
  rw [← bytesF_rw l[i], hs]
  unfold rp
  refine bytesF_congr fun q hq => ?_
  rw [show sg l.length (fun j => um (rw' (bytesF l.length (dI i)) j) (mt l j q)) = sg l.length (fun j => um (dI i j) (mt l j q)) from sg_congr fun j hj => by rw [rw_bytesF _ hj], sg_dI _ hi, mt_get hi]
theorem parM_ok {l : List ByteArray} (p : Nat) (h0 : 0 < l.length) (h16 : l.length ≤ 16) (hp0 : 0 < p) (hp : p ≤ 16) (he : evenL l = true) : timesOk (parM l.length p) l = true := by
  unfold timesOk evenB
  rw [show widthN (parM l.length p) = l.length from width_map p l.length _ hp0 hp, he]
  simp only [Bool.true_and, Bool.and_eq_true, decide_eq_true_iff]
  exact ⟨⟨by omega, trivial⟩, h16⟩
theorem rows_all {l : List ByteArray} (p : Nat) (h0 : 0 < l.length) (h16 : l.length ≤ 16) (hp0 : 0 < p) (hp : p ≤ 16) (he : evenL l = true) (i : Nat) (hi : i < l.length + p) :
    (l ++ timesL (parM l.length p) l).getD i .empty = rp l ((rowsP l.length p).getD i .empty) := by
  have hT : timesL (parM l.length p) l = (parM l.length p).map (rp l) := by rw [timesL_of (parM_ok p h0 h16 hp0 hp he)]; exact map_getD (rp l) _
  by_cases hl : i < l.length
  · rw [rowsP_low _ _ _ hl, row_low he i hl, List.getD_eq_getElem?_getD, List.getElem?_append_left hl, ← List.getD_eq_getElem?_getD]
  · rw [rowsP_high _ _ _ (by omega) hi, List.getD_eq_getElem?_getD, List.getElem?_append_right (by omega), hT, List.getElem?_map]
    have hq : i - l.length < (parM l.length p).length := by rw [parM_len]; omega
    have := parM_get l.length p (i - l.length) (by omega)
    rw [List.getD_eq_getElem?_getD, List.getElem?_eq_getElem hq, Option.getD_some] at this
    rw [List.getElem?_eq_getElem hq, Option.map_some, Option.getD_some, this]
theorem timesL_len {m l : List ByteArray} (h : timesOk m l = true) : (timesL m l).length = m.length := by rw [timesL_of h]; simp
theorem mend_all {l : List ByteArray} (p : Nat) (h : List Bool) (h0 : 0 < l.length) (h16 : l.length ≤ 16) (hp0 : 0 < p) (hp : p ≤ 16) (he : evenL l = true) (hh : h.length = l.length + p) :
    mendE (allB l (timesL (parM l.length p) l) h) h l.length = (if cntB h (l.length + p) < l.length then 5 else 0) ∧
    (l.length ≤ cntB h (l.length + p) → mendV (allB l (timesL (parM l.length p) l) h) h l.length = l) := by
  have hok := parM_ok p h0 h16 hp0 hp he
  have hml : (timesL (parM l.length p) l).length = p := by rw [timesL_len hok, parM_len]
  generalize hmore : timesL (parM l.length p) l = more at *
  have hal : (allB l more h).length = l.length + p := by rw [allB_len, hml]
  have hget : ∀ i, i < l.length + p → h.getD i false = true → (allB l more h).getD i .empty = rp l ((rowsP l.length p).getD i .empty) := fun i hi hb => by
    rw [allB_get _ _ _ i (by omega) hb, ← hmore]; exact rows_all p h0 h16 hp0 hp he i hi
  have hpick : ∀ n : Int, pickJ (allB l more h) h n (l.length + p) = (pickJ (rowsP l.length p) h n (l.length + p)).map (rp l) := fun n => pickJ_map _ _ _ _ _ _ hget
  have hA : mendA (allB l more h) h = (pickJ (rowsP l.length p) h ((l.length + p : Nat) : Int) (l.length + p)).map (rp l) := by
    unfold mendA; rw [hal]; exact hpick _
  have hcnt : (mendA (allB l more h) h).length = cntB h (l.length + p) := by rw [cntB_pick, hal]
  have hev : evenL (mendA (allB l more h) h) = true := by
    rw [hA]
    unfold evenL allN
    rw [List.all_eq_true]
    intro x hx
    rw [List.mem_map] at hx
    obtain ⟨r, _, rfl⟩ := hx
    have hf : ∀ L : List ByteArray, 0 < L.length → firstN (L.map (rp l)) = firstN l := fun L hL => by
      cases L with
      | nil => simp at hL
      | cons a t => exact bytesF_size _ _
    rw [hf _ (by
      by_cases e : pickJ (rowsP l.length p) h ((l.length + p : Nat) : Int) (l.length + p) = []
      · rename_i hr; rw [e] at hr; cases hr
      · exact List.length_pos_iff.2 e)]
    simp [rp, bytesF_size]
  have hE : mendE (allB l more h) h l.length = (if cntB h (l.length + p) < l.length then 5 else 0) := by
    unfold mendE
    rw [if_pos (by rw [hal, hh]; omega), hcnt]
    by_cases e : cntB h (l.length + p) < l.length
    · rw [if_pos (by omega), if_pos e]
    · rw [if_neg (by omega), if_neg e, if_pos hev]
  refine ⟨hE, fun hc => ?_⟩
  unfold mendV
  rw [if_pos (by rw [hE, if_neg (by omega)]), Int.toNat_natCast]
  have hpi := pick_inv l.length p h h0 h16 hp hc
  have hM : mendM (allB l more h) h l.length = pickJ (rowsP l.length p) h l.length (l.length + p) := by
    unfold mendM; rw [hal, show l.length + p - l.length = p by omega]
  have hMk : (mendA (allB l more h) h).take l.length = (mendM (allB l more h) h l.length).map (rp l) := by
    rw [hM, ← hpick]
    unfold mendA
    rw [hal, ← pickJ_take _ _ _ _ _ (Nat.le_refl _)]
  rw [← hM] at hpi
  have hok2 : timesOk (mendM (allB l more h) h l.length) l = true := by
    have hw : widthN (mendM (allB l more h) h l.length) = l.length := by
      have := (invOk_some hpi.1).1
      unfold sqOk at this
      rw [decide_eq_true_iff] at this
      rw [this.2, hpi.2]
    unfold timesOk evenB
    rw [hw, he]
    simp only [Bool.true_and, Bool.and_eq_true, decide_eq_true_iff]
    exact ⟨⟨by omega, trivial⟩, h16⟩
  have hMt : (mendM (allB l more h) h l.length).map (rp l) = timesL (mendM (allB l more h) h l.length) l := by
    rw [timesL_of hok2, ← map_getD]; rfl
  unfold mendR
  rw [hMk, hMt, (back_times hpi.1 hok2).2]
  apply List.ext_getElem
  · simp
  · intro i h1 h2
    rw [List.getElem_map, List.getElem_range]
    unfold fillL
    have hgl : l.getD i .empty = l[i] := by rw [List.getD_eq_getElem?_getD, List.getElem?_eq_getElem h2]; rfl
    split
    · rename_i hx
      rw [allB_get _ _ _ i (by omega) hx.2, List.getD_eq_getElem?_getD, List.getElem?_append_left h2, ← List.getD_eq_getElem?_getD, hgl]
    · exact hgl
theorem flat_rows (N : Nat) (f : Nat → UInt8) : ∀ k, ((List.range k).map fun i => (List.range N).map fun q => f (i * N + q)).flatten = (List.range (k * N)).map f
  | 0 => by simp
  | k + 1 => by
    rw [List.range_succ, List.map_append, List.flatten_append, flat_rows N f k, Nat.succ_mul, List.range_add, List.map_append]
    simp [Function.comp_def]
theorem splitL_of {s : ByteArray} {k : Nat} (h0 : 0 < k) (h16 : k ≤ 16) : splitL s k = (List.range k).map (splitR s k) := by
  unfold splitL; rw [if_pos (by unfold fewN; simp; omega), Int.toNat_natCast]
theorem splitL_len {s : ByteArray} {k : Nat} (h0 : 0 < k) (h16 : k ≤ 16) : (splitL s k).length = k := by rw [splitL_of h0 h16]; simp
theorem splitL_even {s : ByteArray} {k : Nat} (h0 : 0 < k) (h16 : k ≤ 16) : evenL (splitL s k) = true := by
  rw [splitL_of h0 h16]; exact even_map k (splitN s k) (fun i q => rw' s (i * splitN s k + q))
theorem splitL_first {s : ByteArray} {k : Nat} (h0 : 0 < k) (h16 : k ≤ 16) : firstN (splitL s k) = splitN s k := by
  rw [splitL_of h0 h16]; exact first_map k (splitN s k) (fun i q => rw' s (i * splitN s k + q)) h0
theorem catL_split {s : ByteArray} {k : Nat} (h0 : 0 < k) (h16 : k ≤ 16) : catL (splitL s k) = (List.range (k * splitN s k)).map (rw' s) := by
  unfold catL
  rw [splitL_of h0 h16, List.map_map, ← flat_rows]
  rfl
theorem splitN_le {s : ByteArray} {k : Nat} (h0 : 0 < k) : s.size ≤ k * splitN s k := by
  unfold splitN
  have h1 := Nat.div_add_mod (s.size + k - 1) k
  have h2 := Nat.mod_lt (s.size + k - 1) h0
  omega
theorem join_split {s : ByteArray} {k : Nat} (h0 : 0 < k) (h16 : k ≤ 16) : joinE (splitL s k) s.size = 0 ∧ joinB (splitL s k) s.size = s := by
  have hok : joinOk (splitL s k) s.size = true := by
    unfold joinOk
    rw [decide_eq_true_iff, catB_size, catL_split h0 h16]
    have := splitN_le (s := s) h0
    simp only [List.length_map, List.length_range]
    omega
  refine ⟨by unfold joinE; rw [if_pos hok], ?_⟩
  unfold joinB
  rw [if_pos hok, Int.toNat_natCast]
  apply ByteArray.ext
  apply Array.toList_inj.1
  have hle := splitN_le (s := s) h0
  have hsz : s.size = s.data.toList.length := by rw [Array.length_toList]; rfl
  rw [ByteArray.data_extract, Array.toList_extract]
  unfold catB
  rw [catL_split h0 h16]
  apply List.ext_getElem
  · simp; omega
  · intro i h1 h2
    have h3 : i < s.data.size := by simpa using h2
    simp [rw']
    rw [Array.getElem?_eq_getElem h3]
    rfl
theorem make_split {s : ByteArray} {k p : Nat} (h0 : 0 < k) (h16 : k ≤ 16) (hp0 : 0 < p) (hp : p ≤ 16) : makeE (splitL s k) p = 0 ∧ makeL (splitL s k) p = timesL (parM k p) (splitL s k) ∧ (makeL (splitL s k) p).length = p := by
  have hl := splitL_len (s := s) h0 h16
  have hf : (fewN (splitL s k).length && fewN p) = true := by rw [hl, Bool.and_eq_true]; unfold fewN; simp only [decide_eq_true_iff]; omega
  have h1 : makeE (splitL s k) p = 0 := makeE_0 hf (splitL_even h0 h16)
  have h2 : makeL (splitL s k) p = timesL (parM k p) (splitL s k) := by
    rw [makeL_0 h1, hl]
    unfold matL
    rw [if_pos (by rw [hl] at hf; exact hf), Int.toNat_natCast, Int.toNat_natCast]
  refine ⟨h1, h2, ?_⟩
  have := parM_ok (l := splitL s k) p (by omega) (by omega) hp0 hp (splitL_even h0 h16)
  rw [hl] at this
  rw [h2, timesL_len this, parM_len]
end Go.Proofs.Ytdgnhnhmcobfkaa
