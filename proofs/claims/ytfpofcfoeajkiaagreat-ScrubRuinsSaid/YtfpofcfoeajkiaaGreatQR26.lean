/- Texts of this claim's author, packed: ParPlainK, ScrRuP, KeysSame. Conditions: none. -/
import Derived.Test.YtfpofcfoeajkiaaGreatQR24
import Derived.Test.YtfpofcfoeajkiaaGreatQR25
import Derived.Test.YtfpofcfoeajkiaaGreatQR05
import Derived.Deep.QuietTactic
import Derived.BigQuiet
/- Any k of the k + p shards tell the k again, and Join tells the text again: plain laws. -/
namespace Go.Proofs.YtfpofcfoeajkiaaGreat
open Go.RowKit
set_option linter.unusedVariables false
/-- one row times a list of rows -/
def rp (l : List ByteArray) (r : ByteArray) : ByteArray := bytesF (firstN l) fun q => sg l.length fun j => um (rw' r j) (mt l j q)
theorem pickJ_take (l : List ByteArray) (h : List Bool) (n : Nat) (N : Nat) : ∀ j, j ≤ N → pickJ l h n j = (pickJ l h N j).take n
  | 0, _ => by simp [pickJ]
  | j + 1, hj => by
    have ih := pickJ_take l h n N j (by omega)
    have hl := pickJ_len l h N j
    rw [pickJ_succ, pickJ_succ]
    by_cases e : h.getD j false = true
    · rw [if_pos (show ((pickJ l h N j).length : Int) < (N : Int) ∧ _ from ⟨by omega, e⟩)]
      by_cases e2 : (pickJ l h N j).length < n
      · have e3 : (pickJ l h n j) = pickJ l h N j := by rw [ih, List.take_of_length_le (by omega)]
        rw [e3, if_pos ⟨by omega, e⟩, List.take_of_length_le (by rw [List.length_append]; simp; omega)]
      · have e3 : (pickJ l h n j).length = n := by rw [ih, List.length_take]; omega
        rw [if_neg (fun e4 => by have := e4.1; omega), ih, List.take_append_of_le_length (by omega)]
    · rw [if_neg (fun e4 => e e4.2), if_neg (fun e4 => e e4.2), ih]
theorem timesRow_rp (m l : List ByteArray) (i : Nat) : timesRow m l i = rp l (m.getD i .empty) := rfl
theorem map_getD (f : ByteArray → ByteArray) : ∀ m : List ByteArray, (List.range m.length).map (fun i => f (m.getD i .empty)) = m.map f := fun m => by
  apply List.ext_getElem
  · simp
  · intro i h1 h2
    have hi : i < m.length := by simpa using h1
    simp [hi]
theorem pickJ_map (f : ByteArray → ByteArray) (L l : List ByteArray) (h : List Bool) (n : Int) : ∀ j, (∀ i, i < j → h.getD i false = true → L.getD i .empty = f (l.getD i .empty)) → pickJ L h n j = (pickJ l h n j).map f
  | 0, _ => rfl
  | j + 1, hj => by
    have ih := pickJ_map f L l h n j (fun i hi => hj i (by omega))
    rw [pickJ_succ, pickJ_succ, ih, List.length_map]
    by_cases e : ((pickJ l h n j).length : Int) < n ∧ h.getD j false = true
    · rw [if_pos e, if_pos e, List.map_append, hj j (by omega) e.2]; rfl
    · rw [if_neg e, if_neg e]
/-- the shards and those made, of which only those that are there are told -/
def allB (l more : List ByteArray) (h : List Bool) : List ByteArray := (List.range (l.length + more.length)).map fun i => if h.getD i false = true then (l ++ more).getD i .empty else .empty
theorem allB_len (l more : List ByteArray) (h : List Bool) : (allB l more h).length = l.length + more.length := by simp [allB]
theorem allB_get (l more : List ByteArray) (h : List Bool) (i : Nat) (hi : i < l.length + more.length) (hh : h.getD i false = true) : (allB l more h).getD i .empty = (l ++ more).getD i .empty := by
  unfold allB
  rw [List.getD_eq_getElem?_getD, List.getElem?_map, List.getElem?_range hi]
  simp only [Option.map_some, Option.getD_some]
  rw [if_pos hh]
theorem row_low {l : List ByteArray} (he : evenL l = true) (i : Nat) (hi : i < l.length) : rp l (bytesF l.length (dI i)) = l.getD i .empty := by
  rw [List.getD_eq_getElem?_getD, List.getElem?_eq_getElem hi, Option.getD_some]
  have hs := evenL_get he i hi
  rw [← bytesF_rw l[i], hs]
  unfold rp
  refine bytesF_congr fun q hq => ?_
  rw [show sg l.length (fun j => um (rw' (bytesF l.length (dI i)) j) (mt l j q)) = sg l.length (fun j => um (dI i j) (mt l j q)) from sg_congr fun j hj => by rw [rw_bytesF _ hj], sg_dI _ hi, mt_get hi]
theorem parM_ok {l : List ByteArray} (p : Nat) (h0 : 0 < l.length) (h16 : l.length ≤ 16) (hp0 : 0 < p) (hp : p ≤ 16) (he : evenL l = true) : timesOk (parM l.length p) l = true := by
  unfold timesOk evenB
  rw [show widthN (parM l.length p) = l.length from width_map p l.length _ hp0 hp, he]
  simp only [Bool.true_and, Bool.and_eq_true, decide_eq_true_iff]
  exact ⟨⟨by omega, trivial⟩, h16⟩
theorem rows_all {l : List ByteArray} (p : Nat) (h0 : 0 < l.length) (h16 : l.length ≤ 16) (hp0 : 0 < p) (hp : p ≤ 16) (he : evenL l = true) (i : Nat) (hi : i < l.length + p) :
    (l ++ timesL (parM l.length p) l).getD i .empty = rp l ((rowsP l.length p).getD i .empty) := by
  have hT : timesL (parM l.length p) l = (parM l.length p).map (rp l) := by rw [timesL_of (parM_ok p h0 h16 hp0 hp he)]; exact map_getD (rp l) _
  by_cases hl : i < l.length
  · rw [rowsP_low _ _ _ hl, row_low he i hl, List.getD_eq_getElem?_getD, List.getElem?_append_left hl, ← List.getD_eq_getElem?_getD]
  · rw [rowsP_high _ _ _ (by omega) hi, List.getD_eq_getElem?_getD, List.getElem?_append_right (by omega), hT, List.getElem?_map]
    have hq : i - l.length < (parM l.length p).length := by rw [parM_len]; omega
    have := parM_get l.length p (i - l.length) (by omega)
    rw [List.getD_eq_getElem?_getD, List.getElem?_eq_getElem hq, Option.getD_some] at this
    rw [List.getElem?_eq_getElem hq, Option.map_some, Option.getD_some, this]
theorem timesL_len {m l : List ByteArray} (h : timesOk m l = true) : (timesL m l).length = m.length := by rw [timesL_of h]; simp
theorem mend_all {l : List ByteArray} (p : Nat) (h : List Bool) (h0 : 0 < l.length) (h16 : l.length ≤ 16) (hp0 : 0 < p) (hp : p ≤ 16) (he : evenL l = true) (hh : h.length = l.length + p) :
    mendE (allB l (timesL (parM l.length p) l) h) h l.length = (if cntB h (l.length + p) < l.length then 5 else 0) ∧
    (l.length ≤ cntB h (l.length + p) → mendV (allB l (timesL (parM l.length p) l) h) h l.length = l) := by
  have hok := parM_ok p h0 h16 hp0 hp he
  have hml : (timesL (parM l.length p) l).length = p := by rw [timesL_len hok, parM_len]
  generalize hmore : timesL (parM l.length p) l = more at *
  have hal : (allB l more h).length = l.length + p := by rw [allB_len, hml]
  have hget : ∀ i, i < l.length + p → h.getD i false = true → (allB l more h).getD i .empty = rp l ((rowsP l.length p).getD i .empty) := fun i hi hb => by
    rw [allB_get _ _ _ i (by omega) hb, ← hmore]; exact rows_all p h0 h16 hp0 hp he i hi
  have hpick : ∀ n : Int, pickJ (allB l more h) h n (l.length + p) = (pickJ (rowsP l.length p) h n (l.length + p)).map (rp l) := fun n => pickJ_map _ _ _ _ _ _ hget
  have hA : mendA (allB l more h) h = (pickJ (rowsP l.length p) h ((l.length + p : Nat) : Int) (l.length + p)).map (rp l) := by
    unfold mendA; rw [hal]; exact hpick _
  have hcnt : (mendA (allB l more h) h).length = cntB h (l.length + p) := by rw [cntB_pick, hal]
  have hev : evenL (mendA (allB l more h) h) = true := by
    rw [hA]
    unfold evenL allN
    rw [List.all_eq_true]
    intro x hx
    rw [List.mem_map] at hx
    obtain ⟨r, _, rfl⟩ := hx
    have hf : ∀ L : List ByteArray, 0 < L.length → firstN (L.map (rp l)) = firstN l := fun L hL => by
      cases L with
      | nil => simp at hL
      | cons a t => exact bytesF_size _ _
    rw [hf _ (by
      by_cases e : pickJ (rowsP l.length p) h ((l.length + p : Nat) : Int) (l.length + p) = []
      · rename_i hr; rw [e] at hr; cases hr
      · exact List.length_pos_iff.2 e)]
    simp [rp, bytesF_size]
  have hE : mendE (allB l more h) h l.length = (if cntB h (l.length + p) < l.length then 5 else 0) := by
    unfold mendE
    rw [if_pos (by rw [hal, hh]; omega), hcnt]
    by_cases e : cntB h (l.length + p) < l.length
    · rw [if_pos (by omega), if_pos e]
    · rw [if_neg (by omega), if_neg e, if_pos hev]
  refine ⟨hE, fun hc => ?_⟩
  unfold mendV
  rw [if_pos (by rw [hE, if_neg (by omega)]), Int.toNat_natCast]
  have hpi := pick_inv l.length p h h0 h16 hp hc
  have hM : mendM (allB l more h) h l.length = pickJ (rowsP l.length p) h l.length (l.length + p) := by
    unfold mendM; rw [hal, show l.length + p - l.length = p by omega]
  have hMk : (mendA (allB l more h) h).take l.length = (mendM (allB l more h) h l.length).map (rp l) := by
    rw [hM, ← hpick]
    unfold mendA
    rw [hal, ← pickJ_take _ _ _ _ _ (Nat.le_refl _)]
  rw [← hM] at hpi
  have hok2 : timesOk (mendM (allB l more h) h l.length) l = true := by
    have hw : widthN (mendM (allB l more h) h l.length) = l.length := by
      have := (invOk_some hpi.1).1
      unfold sqOk at this
      rw [decide_eq_true_iff] at this
      rw [this.2, hpi.2]
    unfold timesOk evenB
    rw [hw, he]
    simp only [Bool.true_and, Bool.and_eq_true, decide_eq_true_iff]
    exact ⟨⟨by omega, trivial⟩, h16⟩
  have hMt : (mendM (allB l more h) h l.length).map (rp l) = timesL (mendM (allB l more h) h l.length) l := by
    rw [timesL_of hok2, ← map_getD]; rfl
  unfold mendR
  rw [hMk, hMt, (back_times hpi.1 hok2).2]
  apply List.ext_getElem
  · simp
  · intro i h1 h2
    rw [List.getElem_map, List.getElem_range]
    unfold fillL
    have hgl : l.getD i .empty = l[i] := by rw [List.getD_eq_getElem?_getD, List.getElem?_eq_getElem h2]; rfl
    split
    · rename_i hx
      rw [allB_get _ _ _ i (by omega) hx.2, List.getD_eq_getElem?_getD, List.getElem?_append_left h2, ← List.getD_eq_getElem?_getD, hgl]
    · exact hgl
theorem flat_rows (N : Nat) (f : Nat → UInt8) : ∀ k, ((List.range k).map fun i => (List.range N).map fun q => f (i * N + q)).flatten = (List.range (k * N)).map f
  | 0 => by simp
  | k + 1 => by
    rw [List.range_succ, List.map_append, List.flatten_append, flat_rows N f k, Nat.succ_mul, List.range_add, List.map_append]
    simp [Function.comp_def]
theorem splitL_of {s : ByteArray} {k : Nat} (h0 : 0 < k) (h16 : k ≤ 16) : splitL s k = (List.range k).map (splitR s k) := by
  unfold splitL; rw [if_pos (by unfold fewN; simp; omega), Int.toNat_natCast]
theorem splitL_len {s : ByteArray} {k : Nat} (h0 : 0 < k) (h16 : k ≤ 16) : (splitL s k).length = k := by rw [splitL_of h0 h16]; simp
theorem splitL_even {s : ByteArray} {k : Nat} (h0 : 0 < k) (h16 : k ≤ 16) : evenL (splitL s k) = true := by
  rw [splitL_of h0 h16]; exact even_map k (splitN s k) (fun i q => rw' s (i * splitN s k + q))
theorem splitL_first {s : ByteArray} {k : Nat} (h0 : 0 < k) (h16 : k ≤ 16) : firstN (splitL s k) = splitN s k := by
  rw [splitL_of h0 h16]; exact first_map k (splitN s k) (fun i q => rw' s (i * splitN s k + q)) h0
theorem catL_split {s : ByteArray} {k : Nat} (h0 : 0 < k) (h16 : k ≤ 16) : catL (splitL s k) = (List.range (k * splitN s k)).map (rw' s) := by
  unfold catL
  rw [splitL_of h0 h16, List.map_map, ← flat_rows]
  rfl
theorem splitN_le {s : ByteArray} {k : Nat} (h0 : 0 < k) : s.size ≤ k * splitN s k := by
  unfold splitN
  have h1 := Nat.div_add_mod (s.size + k - 1) k
  have h2 := Nat.mod_lt (s.size + k - 1) h0
  omega
theorem join_split {s : ByteArray} {k : Nat} (h0 : 0 < k) (h16 : k ≤ 16) : joinE (splitL s k) s.size = 0 ∧ joinB (splitL s k) s.size = s := by
  have hok : joinOk (splitL s k) s.size = true := by
    unfold joinOk
    rw [decide_eq_true_iff, catB_size, catL_split h0 h16]
    have := splitN_le (s := s) h0
    simp only [List.length_map, List.length_range]
    omega
  refine ⟨by unfold joinE; rw [if_pos hok], ?_⟩
  unfold joinB
  rw [if_pos hok, Int.toNat_natCast]
  apply ByteArray.ext
  apply Array.toList_inj.1
  have hle := splitN_le (s := s) h0
  have hsz : s.size = s.data.toList.length := by rw [Array.length_toList]; rfl
  rw [ByteArray.data_extract, Array.toList_extract]
  unfold catB
  rw [catL_split h0 h16]
  apply List.ext_getElem
  · simp; omega
  · intro i h1 h2
    have h3 : i < s.data.size := by simpa using h2
    simp [rw']
    rw [Array.getElem?_eq_getElem h3]
    rfl
theorem make_split {s : ByteArray} {k p : Nat} (h0 : 0 < k) (h16 : k ≤ 16) (hp0 : 0 < p) (hp : p ≤ 16) : makeE (splitL s k) p = 0 ∧ makeL (splitL s k) p = timesL (parM k p) (splitL s k) ∧ (makeL (splitL s k) p).length = p := by
  have hl := splitL_len (s := s) h0 h16
  have hf : (fewN (splitL s k).length && fewN p) = true := by rw [hl, Bool.and_eq_true]; unfold fewN; simp only [decide_eq_true_iff]; omega
  have h1 : makeE (splitL s k) p = 0 := makeE_0 hf (splitL_even h0 h16)
  have h2 : makeL (splitL s k) p = timesL (parM k p) (splitL s k) := by
    rw [makeL_0 h1, hl]
    unfold matL
    rw [if_pos (by rw [hl] at hf; exact hf), Int.toNat_natCast, Int.toNat_natCast]
  refine ⟨h1, h2, ?_⟩
  have := parM_ok (l := splitL s k) p (by omega) (by omega) hp0 hp (splitL_even h0 h16)
  rw [hl] at this
  rw [h2, timesL_len this, parM_len]
end Go.Proofs.YtfpofcfoeajkiaaGreat
/- Plain: a ward out of the texts of its frames, some of them lost; what its Text tells. -/
namespace Go.Proofs.YtfpofcfoeajkiaaGreat
set_option linter.unusedVariables false
set_option linter.unusedSimpArgs false
abbrev Bs (t : List UInt8) : ByteArray := ⟨t.toArray⟩
theorem bs_list (t : List UInt8) : (Bs t).data.toList = t := by simp
theorem bs_size (t : List UInt8) : (Bs t).size = t.length := by simp [ByteArray.size]
theorem bs_of (b : ByteArray) : Bs b.data.toList = b := by apply ByteArray.ext; simp
/-- the frames of texts wrapped one behind the other -/
theorem frames_wrap : ∀ (ts : List (List UInt8)), (∀ t ∈ ts, t.length ≤ 65536) → framesL (ts.flatMap fWrap) = ts.map Bs
  | [], _ => framesL_nil
  | t :: ts, h => by
    have ho := fOpen_wrap t (ts.flatMap fWrap) (h t (by simp))
    have h0 : (fOpen (fWrap t ++ ts.flatMap fWrap)).2.2 = 0 := by rw [ho]
    have hle := (fOpen_leS (fWrap t ++ ts.flatMap fWrap)).1 h0
    have hne : fWrap t ++ ts.flatMap fWrap ≠ [] := fun e => by rw [e] at hle; simp at hle; omega
    show framesL (fWrap t ++ ts.flatMap fWrap) = Bs t :: ts.map Bs
    rw [framesL_ok hne h0, ho, List.drop_left, frames_wrap ts (fun x hx => h x (by simp [hx]))]
theorem fitL_of : ∀ (l : List Shd) (k : Nat), (∀ i (h : i < l.length), l[i].1 = ((k + i : Nat) : Int) ∧ l[i].2.2.size = 32) → fitL k l = true
  | [], _, _ => rfl
  | x :: r, k, h => by
    have h0 := h 0 (by simp)
    have hr := fitL_of r (k + 1) (fun i hi => by
      have := h (i + 1) (by simpa using hi)
      rw [show k + 1 + i = k + (i + 1) by omega]
      simpa using this)
    simp only [fitL, hr, Bool.and_true, Bool.and_eq_true, decide_eq_true_iff]
    simpa using h0
theorem numsL_three (a b c : Nat) (r : List UInt8) (ha : a ≤ 65536) (hb : b ≤ 65536) (hc : c ≤ 65536) : numsL (vPut a ++ vPut b ++ vPut c ++ r) = some ([a, b, c], r) := by
  have e : ∀ (n : Nat) (q : List UInt8), n ≤ 65536 → vTake (vPut n ++ q) = (n, (vPut n).length, 0) := fun n q h => vTake_put n (by omega) q
  unfold numsL
  rw [List.append_assoc, List.append_assoc, numsG, e a _ ha]
  dsimp only
  rw [if_pos ⟨rfl, ha⟩, List.drop_left, numsG, e b _ hb]
  dsimp only
  rw [if_pos ⟨rfl, hb⟩, List.drop_left, numsG, e c _ hc]
  dsimp only
  rw [if_pos ⟨rfl, hc⟩, List.drop_left]
  rfl
theorem sums_at : ∀ (l : List Shd), (∀ x ∈ l, x.2.2.size = 32) → ∀ i (h : i < l.length), ((sumsL l).drop (32 * i)).take 32 = l[i].2.2.data.toList
  | x :: r, hs, 0, _ => by
    have h32 : x.2.2.data.toList.length = 32 := by rw [Array.length_toList]; exact hs x (by simp)
    show (sumsL (x :: r)).take 32 = x.2.2.data.toList
    unfold sumsL
    rw [List.flatMap_cons, List.take_append_of_le_length (by omega), List.take_of_length_le (by omega)]
  | x :: r, hs, i + 1, h => by
    have h32 : x.2.2.data.toList.length = 32 := by rw [Array.length_toList]; exact hs x (by simp)
    have ih := sums_at r (fun y hy => hs y (by simp [hy])) i (by simpa using h)
    show ((sumsL (x :: r)).drop (32 * (i + 1))).take 32 = (r[i]'(by simpa using h)).2.2.data.toList
    rw [← ih]
    unfold sumsL
    rw [List.flatMap_cons, show 32 * (i + 1) = x.2.2.data.toList.length + 32 * i by omega, ← List.drop_drop, List.drop_left]
/-- shards of which only those that f names have their bytes -/
def maskS (l : List Shd) (f : Nat → Bool) : List Shd := (List.range l.length).map fun i => ((l.getD i default).1, (if f i = true then (l.getD i default).2.1 else ⟨#[]⟩), (l.getD i default).2.2)
theorem maskS_len (l : List Shd) (f : Nat → Bool) : (maskS l f).length = l.length := by simp [maskS]
theorem maskS_get (l : List Shd) (f : Nat → Bool) (i : Nat) (h : i < l.length) : (maskS l f)[i]? = some (l[i].1, (if f i = true then l[i].2.1 else ⟨#[]⟩), l[i].2.2) := by
  unfold maskS
  rw [List.getElem?_map, List.getElem?_range h]
  simp [List.getD_eq_getElem?_getD, List.getElem?_eq_getElem h]
theorem maskS_full (l : List Shd) (f : Nat → Bool) (h : ∀ i, i < l.length → f i = true) : maskS l f = l := by
  apply List.ext_getElem?
  intro i
  by_cases hi : i < l.length
  · rw [maskS_get l f i hi, if_pos (h i hi), List.getElem?_eq_getElem hi]
  · rw [List.getElem?_eq_none (by rw [maskS_len]; omega), List.getElem?_eq_none (by omega)]
theorem maskS_congr (l : List Shd) (f g : Nat → Bool) (h : ∀ i, i < l.length → f i = g i) : maskS l f = maskS l g := by
  apply List.ext_getElem?
  intro i
  by_cases hi : i < l.length
  · rw [maskS_get l f i hi, maskS_get l g i hi, h i hi]
  · rw [List.getElem?_eq_none (by rw [maskS_len]; omega), List.getElem?_eq_none (by rw [maskS_len]; omega)]
/-- shards at their places, whose sums are their bytes' -/
def GoodS (l : List Shd) : Prop := ∀ i (h : i < l.length), l[i].1 = (i : Int) ∧ shaSum l[i].2.1.data.toList = l[i].2.2
theorem GoodS.sums {l : List Shd} (h : GoodS l) : ∀ x ∈ l, x.2.2.size = 32 := fun x hx => by
  obtain ⟨i, hi, rfl⟩ := List.mem_iff_getElem.1 hx
  rw [← (h i hi).2]; exact shaSum_size _
theorem fit_mask {K P Z : Nat} {l : List Shd} (hg : GoodS l) (f : Nat → Bool) (hk0 : 0 < K) (hk : K ≤ 16) (hp0 : 0 < P) (hp : P ≤ 16) (hz : Z ≤ 65536) (hl : l.length = K + P) : fitW K P Z (maskS l f) = true := by
  have hf : fitL 0 (maskS l f) = true := fitL_of _ 0 (fun i hi => by
    have hi' : i < l.length := by rwa [maskS_len] at hi
    have e := maskS_get l f i hi'
    rw [List.getElem?_eq_getElem hi, Option.some.injEq] at e
    rw [e]
    exact ⟨by rw [(hg i hi').1]; simp, hg.sums l[i] (List.getElem_mem hi')⟩)
  unfold fitW fewK
  rw [hf]
  simp only [Bool.and_true, Bool.and_eq_true, decide_eq_true_iff]
  rw [maskS_len]
  omega
theorem headL_of {K P Z : Nat} {l : List Shd} (hg : GoodS l) (hk0 : 0 < K) (hk : K ≤ 16) (hp0 : 0 < P) (hp : P ≤ 16) (hz : Z ≤ 65536) (hl : l.length = K + P) :
    headL (headT K P Z l) = some (K, P, Z, maskS l fun _ => false) := by
  have hs := hg.sums
  have he : shdOf (K + P) (sumsL l) = maskS l fun _ => false := by
    apply List.ext_getElem?
    intro i
    by_cases hi : i < l.length
    · rw [maskS_get l _ i hi]
      unfold shdOf
      rw [List.getElem?_map, List.getElem?_range (by omega)]
      simp only [Option.map_some]
      unfold shdAt
      rw [sums_at l hs i hi, (hg i hi).1]
      simp only [Bool.false_eq_true, if_false, Option.some.injEq, Prod.mk.injEq, true_and]
    · rw [List.getElem?_eq_none (by rw [shdOf_len]; omega), List.getElem?_eq_none (by rw [maskS_len]; omega)]
  have hlen := sumsL_len hs
  unfold headT
  rw [headL_some (numsL_three K P Z (sumsL l) (by omega) (by omega) hz), he, if_pos ⟨by rw [hlen, hl]; omega, fit_mask hg _ hk0 hk hp0 hp hz hl⟩]
def shText (l : List Shd) (j : Nat) : ByteArray := Bs (vPut j ++ (l.getD j default).2.1.data.toList)
theorem take_mask {l : List Shd} (hg : GoodS l) (hl : l.length ≤ 1000) (f : Nat → Bool) (j : Nat) (hj : j < l.length) (hf : f j = false) :
    takeS (maskS l f) f (shText l j) = (maskS l (fun i => decide (i = j) || f i), fun i => decide (i = j) || f i) := by
  have e0 : (l.getD j default) = l[j] := by simp [List.getD_eq_getElem?_getD, List.getElem?_eq_getElem hj]
  have hv : vTake (shText l j).data.toList = (j, (vPut j).length, 0) := by
    unfold shText; rw [bs_list]; exact vTake_put j (by omega) _
  unfold takeS
  rw [hv]
  dsimp only
  rw [maskS_get l f j hj]
  dsimp only
  have hd : (shText l j).data.toList.drop (vPut j).length = l[j].2.1.data.toList := by
    unfold shText; rw [bs_list, List.drop_left, e0]
  rw [hd, if_pos ⟨rfl, hf, (hg j hj).2⟩]
  have he : (shText l j).extract (vPut j).length (shText l j).size = l[j].2.1 := by
    apply ByteArray.ext
    apply Array.toList_inj.1
    rw [extract_toS, hd]
  rw [he, Prod.mk.injEq]
  refine ⟨?_, rfl⟩
  apply List.ext_getElem?
  intro i
  by_cases hi : i < l.length
  · rw [List.getElem?_set, maskS_get l f i hi, maskS_get l (fun i => decide (i = j) || f i) i hi, maskS_len]
    by_cases hij : j = i
    · subst hij
      simp [hj]
    · rw [if_neg hij]
      have : decide (i = j) = false := decide_eq_false (fun h => hij h.symm)
      rw [this, Bool.false_or]
  · rw [List.getElem?_eq_none (by rw [List.length_set, maskS_len]; omega), List.getElem?_eq_none (by rw [maskS_len]; omega)]
theorem fold_mask {l : List Shd} (hg : GoodS l) (hl : l.length ≤ 1000) (a b c : Nat) : ∀ (js : List Nat) (f : Nat → Bool), js.Nodup → (∀ j ∈ js, j < l.length ∧ f j = false) →
    ∃ g, (js.map (shText l)).foldl stepF (some (a, b, c, maskS l f, f)) = some (a, b, c, maskS l g, g) ∧ ∀ i, g i = (decide (i ∈ js) || f i)
  | [], f, _, _ => ⟨f, rfl, fun i => by simp⟩
  | j :: js, f, hn, h => by
    obtain ⟨hj, hf⟩ := h j (by simp)
    rw [List.nodup_cons] at hn
    obtain ⟨g, h1, h2⟩ := fold_mask hg hl a b c js (fun i => decide (i = j) || f i) hn.2 (fun i hi => ⟨(h i (by simp [hi])).1, by
      have : i ≠ j := fun e => hn.1 (e ▸ hi)
      simp [this, (h i (by simp [hi])).2]⟩)
    refine ⟨g, ?_, fun i => ?_⟩
    · rw [List.map_cons, List.foldl_cons]
      show (js.map (shText l)).foldl stepF (some (a, b, c, (takeS (maskS l f) f (shText l j)).1, (takeS (maskS l f) f (shText l j)).2)) = _
      rw [take_mask hg hl f j hj hf]
      exact h1
    · rw [h2 i]
      by_cases e : i = j <;> simp [e]
/-- the reading of a head and of some shards' frames -/
theorem readS_mask {K P Z : Nat} {l : List Shd} (hg : GoodS l) (hk0 : 0 < K) (hk : K ≤ 16) (hp0 : 0 < P) (hp : P ≤ 16) (hz : Z ≤ 65536) (hl : l.length = K + P) (js : List Nat) (hn : js.Nodup) (hj : ∀ j ∈ js, j < l.length) :
    ∃ g, readS (Bs (headT K P Z l) :: js.map (shText l)) = some (K, P, Z, maskS l g, g) ∧ ∀ i, g i = decide (i ∈ js) := by
  obtain ⟨g, h1, h2⟩ := fold_mask hg (by omega) K P Z js (fun _ => false) hn (fun j hj' => ⟨hj j hj', rfl⟩)
  refine ⟨g, ?_, fun i => by rw [h2 i]; simp⟩
  unfold readS
  rw [List.foldl_cons]
  show (js.map (shText l)).foldl stepF ((headL (Bs (headT K P Z l)).data.toList).map fun x => (x.1, x.2.1, x.2.2.1, x.2.2.2, fun _ => false)) = _
  rw [bs_list, headL_of hg hk0 hk hp0 hp hz hl]
  exact h1
theorem getD_def (l : List Shd) (i : Nat) (h : i < l.length) : l.getD i default = l[i] := by simp [List.getD_eq_getElem?_getD, List.getElem?_eq_getElem h]
theorem guard_at {s : ByteArray} {k p : Nat} (i : Nat) (hi : i < (guardL s k p).length) : (guardL s k p)[i] = grdAt (allG s k p) i := by
  have hl : (guardL s k p).length = (allG s k p).length := grdOf_len _ _
  have h : (guardL s k p)[i]? = some (grdAt (allG s k p) i) := by
    show ((List.range (allG s k p).length).map (grdAt (allG s k p)))[i]? = _
    rw [List.getElem?_map, List.getElem?_range (by omega)]
    rfl
  rw [List.getElem?_eq_getElem hi] at h
  exact Option.some.inj h
/-- the shards of a text: their places, sums and sizes -/
theorem guard_all {s : ByteArray} {k p : Nat} (h0 : 0 < k) (h16 : k ≤ 16) (hp0 : 0 < p) (hp : p ≤ 16) :
    allG s k p = splitL s k ++ timesL (parM k p) (splitL s k) ∧ (allG s k p).length = k + p ∧ ∀ i, i < k + p → ((allG s k p).getD i .empty).size = splitN s k := by
  obtain ⟨_, m2, m3⟩ := make_split (s := s) h0 h16 hp0 hp
  have hl := splitL_len (s := s) h0 h16
  have he := splitL_even (s := s) h0 h16
  have e : allG s k p = splitL s k ++ timesL (parM k p) (splitL s k) := by unfold allG; rw [m2]
  refine ⟨e, by rw [allG, List.length_append, m3, hl], fun i hi => ?_⟩
  have hr := rows_all (l := splitL s k) p (by omega) (by omega) hp0 hp he i (by omega)
  rw [hl] at hr
  rw [e, hr]
  unfold rp
  rw [bytesF_size, splitL_first h0 h16]
theorem guard_len {s : ByteArray} {k p : Nat} (h0 : 0 < k) (h16 : k ≤ 16) (hp0 : 0 < p) (hp : p ≤ 16) : (guardL s k p).length = k + p := by
  unfold guardL; rw [grdOf_len, (guard_all h0 h16 hp0 hp).2.1]
theorem guard_good {s : ByteArray} {k p : Nat} : GoodS (guardL s k p) := fun i hi => by
  rw [guard_at]
  exact ⟨rfl, rfl⟩
theorem guard_data {s : ByteArray} {k p : Nat} (h0 : 0 < k) (h16 : k ≤ 16) (hp0 : 0 < p) (hp : p ≤ 16) (i : Nat) (hi : i < (guardL s k p).length) : (guardL s k p)[i].2.1 = (allG s k p).getD i .empty ∧ (guardL s k p)[i].2.1.size = splitN s k := by
  have hl := guard_len (s := s) h0 h16 hp0 hp
  have e : (guardL s k p)[i].2.1 = (allG s k p).getD i .empty := by
    rw [guard_at]
    rfl
  exact ⟨e, by rw [e]; exact (guard_all h0 h16 hp0 hp).2.2 i (by omega)⟩
theorem empty_of (b : ByteArray) (h : b.size = 0) : b = ByteArray.empty := by
  apply ByteArray.ext
  apply Array.eq_empty_of_size_eq_zero
  exact h
theorem cntB_congr (h g : List Bool) : ∀ n, (∀ i, i < n → h.getD i false = g.getD i false) → cntB h n = cntB g n
  | 0, _ => rfl
  | n + 1, e => by rw [cntB, cntB, cntB_congr h g n (fun i hi => e i (by omega)), e n (by omega)]
theorem cntB_filter (h : List Bool) (g : Nat → Bool) : ∀ n, (∀ i, i < n → h.getD i false = g i) → cntB h n = ((List.range n).filter g).length
  | 0, _ => rfl
  | n + 1, e => by
    rw [cntB, cntB_filter h g n (fun i hi => e i (by omega)), e n (by omega), List.range_succ, List.filter_append, List.length_append]
    cases hg : g n <;> simp [hg]
/-- what the text of the shards named by g tells -/
theorem ruins_text {s : ByteArray} {k p : Nat} (h0 : 0 < k) (h16 : k ≤ 16) (hp0 : 0 < p) (hp : p ≤ 16) (g : Nat → Bool) (m : Nat) (hm : m + ((List.range (k + p)).filter g).length = k + p) :
    (0 < s.size → p < m → mendedE k s.size (maskS (guardL s k p) g) = 5) ∧
    (m ≤ p ∨ s.size = 0 → mendedE k s.size (maskS (guardL s k p) g) = 0 ∧ mendedV k s.size (maskS (guardL s k p) g) = splitL s k) := by
  have hlen := guard_len (s := s) h0 h16 hp0 hp
  obtain ⟨hall, hal, hsz⟩ := guard_all (s := s) h0 h16 hp0 hp
  have hsl := splitL_len (s := s) h0 h16
  have he := splitL_even (s := s) h0 h16
  obtain ⟨_, m2, m3⟩ := make_split (s := s) h0 h16 hp0 hp
  rw [m2] at m3
  have hz : (s.size + k - 1) / k = splitN s k := rfl
  obtain ⟨h, hh⟩ : ∃ h, h = wholeL ((s.size + k - 1) / k) (maskS (guardL s k p) g) := ⟨_, rfl⟩
  have hhl : h.length = k + p := by rw [hh]; unfold wholeL; rw [List.length_map, maskS_len, hlen]
  have hget : ∀ i, i < k + p → h.getD i false = (g i || decide (splitN s k = 0)) := fun i hi => by
    have hi' : i < (guardL s k p).length := by omega
    obtain ⟨hd1, hd2⟩ := guard_data h0 h16 hp0 hp i hi'
    have hgd := (guard_good (s := s) (k := k) (p := p) i hi').2
    rw [hh]
    unfold wholeL
    rw [List.getD_eq_getElem?_getD, List.getElem?_map, maskS_get _ _ i hi']
    show wholeB ((s.size + k - 1) / k) _ = _
    rw [hz]
    unfold wholeB
    dsimp only
    cases hg : g i with
    | true =>
      rw [if_pos rfl, hd2, hgd]
      simp
    | false =>
      rw [if_neg (by simp)]
      by_cases e : splitN s k = 0
      · have hb := empty_of _ (by rw [hd2]; exact e)
        rw [← hgd, hb, e]
        show (true && ((shaSum []).toList == (shaSum []).toList)) = true
        simp
      · have : decide ((⟨#[]⟩ : ByteArray).size = splitN s k) = false := decide_eq_false (fun h => e h.symm)
        rw [this, Bool.false_and, Bool.false_or, decide_eq_false e]
  have hdat : datasL (maskS (guardL s k p) g) = allB (splitL s k) (timesL (parM k p) (splitL s k)) h := by
    apply List.ext_getElem?
    intro i
    unfold datasL
    by_cases hi : i < k + p
    · have hi' : i < (guardL s k p).length := by omega
      obtain ⟨hd1, hd2⟩ := guard_data h0 h16 hp0 hp i hi'
      rw [List.getElem?_map, maskS_get _ _ i hi']
      unfold allB
      rw [List.getElem?_map, List.getElem?_range (by omega), Option.map_some, Option.map_some, hget i hi, ← hall, ← hd1]
      dsimp only
      congr 1
      cases hg : g i with
      | true => simp
      | false =>
        by_cases e : splitN s k = 0
        · have hb := empty_of _ (by rw [hd2]; exact e)
          rw [hb]
          simp
          rfl
        · simp [e]
          rfl
    · rw [List.getElem?_eq_none (by rw [List.length_map, maskS_len]; omega), List.getElem?_eq_none (by rw [allB_len]; omega)]
  have hM := mend_all (l := splitL s k) p h (by omega) (by omega) hp0 hp he (by omega)
  rw [hsl, ← hdat] at hM
  have hE : mendedE k s.size (maskS (guardL s k p) g) = mendE (datasL (maskS (guardL s k p) g)) h k := by unfold mendedE; rw [hh]
  have hV : mendedV k s.size (maskS (guardL s k p) g) = mendV (datasL (maskS (guardL s k p) g)) h k := by unfold mendedV; rw [hh]
  rw [hE, hV, hM.1]
  by_cases e : splitN s k = 0
  · have hc := cntB_filter h (fun _ => true) (k + p) (fun i hi => by rw [hget i hi, e]; simp)
    have hc2 : cntB h (k + p) = k + p := by rw [hc, List.filter_eq_self.2 (fun _ _ => rfl), List.length_range]
    have hs0 : s.size = 0 := by
      have := splitN_le (s := s) h0
      rw [e] at this; omega
    exact ⟨fun h => by omega, fun _ => ⟨if_neg (by omega), hM.2 (by omega)⟩⟩
  · have hc := cntB_filter h g (k + p) (fun i hi => by rw [hget i hi, decide_eq_false e, Bool.or_false])
    have hs0 : s.size ≠ 0 := fun h0 => e (by
      show (s.size + k - 1) / k = 0
      rw [h0]
      exact Nat.div_eq_of_lt (by omega))
    exact ⟨fun _ h => if_pos (by omega), fun h => ⟨if_neg (by omega), hM.2 (by omega)⟩⟩
end Go.Proofs.YtfpofcfoeajkiaaGreat
/- siloref05.Same: its walk. -/
namespace Go.Proofs.YtfpofcfoeajkiaaGreat
open Go.RowKit
set_option linter.unusedVariables false
def sameB (a b : List ByteArray) : Bool := decide (a = b)
theorem sameB_self (a : List ByteArray) : sameB a a = true := by simp [sameB]
theorem str_beq_ne {a b : ByteArray} (h : a ≠ b) : (a.toList == b.toList) = false := by
  rw [beq_eq_false_iff_ne, ByteArray.toList_eq, ByteArray.toList_eq]
  intro e
  exact h (ByteArray.ext (Array.toList_inj.1 e))
theorem str_beq_self (a : ByteArray) : (a.toList == a.toList) = true := by simp
set_option maxRecDepth 20000 in
set_option maxHeartbeats 1000000 in
theorem same_any (w : World) (va vb : Value) (la lb : List ByteArray) (ha : StrsB w va la) (hb : StrsB w vb lb) :
    Calls Tryz.prog 15 #[va, vb] w fun e w' => e = .returned (.bool (sameB la lb)) ∧ ∃ n, w' = w.drewN n := by
  by_cases hl : la.length = lb.length
  · by_cases h0 : la.length = 0
    · have h0' : lb.length = 0 := by omega
      have ea := List.length_eq_zero_iff.1 h0
      have eb := List.length_eq_zero_iff.1 h0'
      subst ea; subst eb
      have HS : Hid (sameB [] [] = true) := sameB_self _
      obtain ⟨A, c, rfl, hc⟩ := ha.nil
      obtain ⟨A', c', rfl, hc'⟩ := hb.nil
      clear hl h0 h0' ha hb
      go_enter Tryz.func15, Tryz.ntmps15
      go_wp2
      refine wp_loop_rounds 1 ?_
      rw [rounds_succ]
      go_wp2
      go_ret
      exact ⟨by rw [HS.out]; rfl, 0, rfl⟩
    · obtain ⟨b, off, c, rfl, hc1, hc2, hlt, hca⟩ := ha.at (by omega)
      obtain ⟨b', off', c', rfl, hc1', hc2', hlt', hcb⟩ := hb.at (by omega)
      have HA := Lib.hid hca; clear hca
      have HB := Lib.hid hcb; clear hcb
      have hz : ((la.length : Int) != (lb.length : Int)) = false := by rw [bne_eq_false_iff_eq]; omega
      have HL := Lib.hid hl
      have hl1 : la.length ≤ lb.length := by omega
      have hl2 : lb.length ≤ la.length := by omega
      clear ha hb h0 hl
      have hm : la.length ≤ 9223372036854775807 := by unfold maxLen at hc2; omega
      clear hc1 hc2 hc1' hc2'
      go_enter Tryz.func15, Tryz.ntmps15
      go_wp2
      go_loopw [5] (fun i wr => ∃ k : Nat, k ≤ la.length ∧ i = .int .i64 k ∧ Hid (la.take k = lb.take k) ∧ Hid (∃ m, wr = w.drewN m)) (fun i _ => la.length - (intOf i).toNat)
      case atStart => exact ⟨0, Nat.zero_le _, rfl, rfl, 0, rfl⟩
      case round =>
        obtain ⟨k, hk, rfl, HT, HW⟩ := hrel
        by_cases hlt2 : k < la.length
        · have hlt3 : k < lb.length := by omega
          have e1 : wr.cell? ⟨b, off + k, none⟩ = some (.string la[k]) := by obtain ⟨m, rfl⟩ := HW.out; exact HA.out k hlt2
          have e2 : wr.cell? ⟨b', off' + k, none⟩ = some (.string lb[k]) := by obtain ⟨m, rfl⟩ := HW.out; exact HB.out k hlt3
          by_cases hq : la[k] = lb[k]
          · have HT2 : Hid (la.take (k + 1) = lb.take (k + 1)) := by
              unfold Hid; rw [take_succ_list _ _ hlt2, take_succ_list _ _ hlt3, HT.out, hq]
            rw [← hq] at e2
            have hs := str_beq_self la[k]
            generalize la[k] = x at *
            clear hq
            go_wp2_with fail
            go_quiet (fail)
            go_wp2_with fail
            go_roundw
            case rel => exact ⟨k + 1, by omega, by go_num, HT2, by obtain ⟨m, rfl⟩ := HW.out; exact ⟨_, World.drewN_drewN _ _ _⟩⟩
            case measure => simp [intOf]; omega
          · have HS : Hid (sameB la lb = false) := by
              unfold Hid sameB; rw [decide_eq_false_iff_not]; intro e; exact hq (by subst e; rfl)
            have hs := str_beq_ne hq
            generalize la[k] = x at *
            generalize lb[k] = y at *
            clear hq
            go_wp2_with fail
            go_quiet (fail)
            go_wp2_with fail
            go_ret
            exact ⟨by rw [HS.out]; rfl, by obtain ⟨m, rfl⟩ := HW.out; exact ⟨_, World.drewN_drewN _ _ _⟩⟩
        · have HS : Hid (sameB la lb = true) := by
            unfold Hid sameB
            rw [decide_eq_true_iff]
            have h := HT.out
            rw [List.take_of_length_le (by omega), List.take_of_length_le (by omega)] at h
            exact h
          go_wp2_with fail
          go_ret
          exact ⟨by rw [HS.out]; rfl, HW.out⟩
  · have HS : Hid (sameB la lb = false) := by
      unfold Hid sameB; rw [decide_eq_false_iff_not]; intro e; exact hl (by rw [e])
    obtain ⟨A, c, rfl, hc1, hc2⟩ := ha.len
    obtain ⟨A', c', rfl, hc1', hc2'⟩ := hb.len
    have hz : ((la.length : Int) != (lb.length : Int)) = true := by rw [bne_iff_ne]; omega
    clear ha hb hl
    go_enter Tryz.func15, Tryz.ntmps15
    go_wp2
    go_ret
    exact ⟨by rw [HS.out]; rfl, 0, rfl⟩
end Go.Proofs.YtfpofcfoeajkiaaGreat
