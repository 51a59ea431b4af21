/- Texts of this claim's author, packed: ParTimesK, ParMendK, ParMend2K. Conditions: none. -/
import Derived.Test.YtfpofcfoeajkiaaGreatQR23
/- Times of both packages, the result a row of the call's own: walks (written by gen-par-times.py). -/
namespace Go.Proofs.YtfpofcfoeajkiaaGreat
open Go.RowKit
set_option linter.unusedVariables false
set_option linter.unusedSimpArgs false
set_option maxRecDepth 20000 in
set_option maxHeartbeats 4000000 in
theorem times_own (w : World) (va vb : Value) (m l : List ByteArray) (ha : StrsB w va m) (hb : StrsB w vb l) (hok : timesOk m l = true) (hsz : firstN l ≤ 1000000000) :
    Calls Tryz.prog 63 #[va, vb] w fun e w' => ∃ v, e = .returned (.tuple #[v, .bool true]) ∧ w'.ownsRow w.heap.size 9 1 v (timesL m l).length ((timesL m l).map .string) ∧ Below w.heap.size w w' := by
  have HL : Hid (timesL m l = (List.range m.length).map (timesRow m l)) := by unfold Hid timesL; rw [if_pos hok]
  unfold timesOk at hok
  rw [Bool.and_eq_true, decide_eq_true_iff] at hok
  obtain ⟨⟨hw0, hwn⟩, hev⟩ := hok
  obtain ⟨hm0, hm16, hme, hmw⟩ := widthN_ne hw0
  have hle : evenL l = true ∧ l.length ≤ 16 := by unfold evenB at hev; rwa [Bool.and_eq_true, decide_eq_true_iff] at hev
  have HWD := Lib.hid (width_any w va m ha)
  have HEV := Lib.hid (even_any w vb l hb)
  rw [hev] at HEV
  rw [hwn] at HWD hw0 hmw
  have HMR : Hid (∀ i (h : i < m.length), m[i].size = l.length) := fun i h => (evenL_get hme i h).trans hmw.symm
  have HLR : Hid (∀ i (h : i < l.length), l[i].size = firstN l) := fun i h => evenL_get hle.1 i h
  have HM16 := Lib.hid hm16
  obtain ⟨Am, cm, rfl, h1, h2⟩ := ha.len
  have HCm := Lib.hid (ha.cells hm0)
  obtain ⟨Al, cl, rfl, h3, h4⟩ := hb.len
  have hl0 : 0 < l.length := by omega
  have HCl := Lib.hid (hb.cells hl0)
  obtain ⟨bm, om, rfl, hbm, HCM⟩ := HCm.out
  obtain ⟨bl, ol, rfl, hbl, HCL⟩ := HCl.out
  have HCM := Lib.hid HCM
  have HCL := Lib.hid HCL
  have hl16 : l.length ≤ 16 := hle.2
  have hd0 : ((l.length : Int) == 0) = false := by rw [beq_eq_false_iff_ne]; omega
  clear ha hb hwn hev hme hmw hle HCm HCl h1 h2 h3 h4 hw0
  have hmI : m.length ≤ 9223372036854775807 := by omega
  have hlI : l.length ≤ 9223372036854775807 := by omega
  obtain ⟨W, hW⟩ : ∃ W, firstN l = W := ⟨_, rfl⟩
  have HFW : Hid (firstN l = W) := hW
  rw [hW] at hsz HLR
  clear hW
  go_enter Tryz.func63, Tryz.ntmps63
  go_wp2_with fail
  refine HWD.out.mono ?_
  rintro e w' ⟨rfl, rfl⟩
  go_wp2_with fail
  refine HEV.out.mono ?_
  rintro e w' ⟨rfl, rfl⟩
  go_wp2_with fail
  clear hd0 HWD HEV
  go_loopw [7, 30] (fun v i wr => ∃ j : Nat, j ≤ m.length ∧ i = .int .i64 j ∧ Hid (wr.ownsRow w.heap.size 9 1 v ((List.range j).map (timesRow m l)).length (((List.range j).map (timesRow m l)).map .string)) ∧ Hid (Below w.heap.size w wr)) (fun _ i _ => m.length - (intOf i).toNat)
  case atStart => exact ⟨0, Nat.zero_le _, rfl, World.ownsRow_nil _ _ _ _, Below.refl _ _⟩
  case round =>
    obtain ⟨i, hi, rfl, HO, HB⟩ := hrel
    obtain ⟨wo, hwo⟩ : ∃ wo, wo = wr := ⟨_, rfl⟩
    subst hwo
    by_cases hlt : i < m.length
    · have hlt' : (i : Int) < (m.length : Int) := by omega
      have e1 : wo.cell? ⟨bm, om + i, none⟩ = some (.string m[i]) := (HB.out.cell (p := ⟨bm, om + i, none⟩) hbm).trans (HCM.out i hlt)
      have e2 : wo.cell? ⟨bl, ol, none⟩ = some (.string l[0]) := (HB.out.cell (p := ⟨bl, ol, none⟩) hbl).trans (HCL.out 0 hl0)
      have z0 : l[0].size = W := HLR.out 0 hl0
      have zx : m[i].size = l.length := HMR.out i hlt
      have HX : Hid (∀ j k, um (mt m i j) (mt l j k) = um (rw' m[i] j) (mt l j k)) := fun j k => by rw [mt_get hlt]
      generalize l[0] = y0 at *
      generalize m[i] = x at *
      go_wp2_with (at_make; refine wpList_make_bytes rfl _ _ 83 rfl Tryz.underlying83 W rfl rfl (by omega) ?_)
      intro w1 hF hB1
      have HF := Lib.hid hF; clear hF
      have HB1 := Lib.hid hB1; clear hB1
      clear e1 e2 z0
      go_wp2_with fail
      go_loopw [41] (fun q wr => ∃ j : Nat, j ≤ l.length ∧ q = .int .i64 j ∧ Hid (FRow wr wo.heap.size W (fun k => sg j (fun q => um (rw' x q) (mt l q k)))) ∧ Hid (Below wo.heap.size wo wr)) (fun q _ => l.length - (intOf q).toNat)
      case atStart => exact ⟨0, Nat.zero_le _, rfl, HF.out, HB1.out⟩
      case round =>
        obtain ⟨j, hj, rfl, HFq, HBq⟩ := hrel
        by_cases hjl : j < l.length
        · have hjl' : (j : Int) < (l.length : Int) := by omega
          have hjx : j < x.size := by omega
          have hjx' : (j : Int) < (x.size : Int) := by omega
          have e3 : wr.cell? ⟨bl, ol + j, none⟩ = some (.string l[j]) := by
            have hb2 : bl < wo.heap.size := Nat.lt_of_lt_of_le hbl HB.out.size
            exact (HBq.out.cell (p := ⟨bl, ol + j, none⟩) hb2).trans ((HB.out.cell (p := ⟨bl, ol + j, none⟩) hbl).trans (HCL.out j hjl))
          have zj : l[j].size = W := HLR.out j hjl
          have HMJ : Hid (∀ k, mt l j k = rw' l[j] k) := fun k => mt_get hjl k
          have HXJ : Hid (x[j] = rw' x j) := rw_get x j hjx
          generalize l[j] = y at *
          obtain ⟨W2, cap, hcv, hF2, hB2⟩ := conv_bytes wr y (by omega)
          have hadd := add_any wo.heap.size W W wr.heap.size W cap x[j] (rw' y) (fun k => sg j (fun q => um (rw' x q) (mt l q k))) W2 (HFq.out.below hB2) (by rw [zj] at hF2; exact hF2) (by have := HFq.out.lt; omega) (Nat.le_refl _) (by omega)
          rw [zj] at hcv
          have HA := Lib.hid hadd; clear hadd
          have HB2 := Lib.hid hB2; clear hB2 hF2
          have hq1 := HBq.out.size
          go_wp2_with fail
          refine HA.out.mono ?_
          rintro e w3 ⟨rfl, hf3, hg3⟩
          have HF3 : Hid (FRow w3 wo.heap.size W (fun k => sg (j + 1) (fun q => um (rw' x q) (mt l q k)))) := hf3.congr fun k hk => by
            unfold adF; rw [if_pos hk]
            show _ = sg j _ ^^^ _
            rw [HXJ.out, ← HMJ.out]
          have HB3 : Hid (Below wo.heap.size wo w3) := (HBq.out.trans (HB2.out.mono hq1)).grown hg3 (Nat.le_trans hq1 HB2.out.size) (fun k e => by injection e with e; omega)
          clear hf3 hg3
          go_wp2_with fail
          go_roundw
          case rel => exact ⟨j + 1, by omega, by go_num, HF3, HB3⟩
          case measure => simp [intOf]; omega
        · obtain rfl : j = l.length := by omega
          have hcs := conv_str HFq.out 0 W W (by omega)
          have HE : Hid (bytesF W (fun k => (fun k => sg l.length (fun q => um (rw' x q) (mt l q k))) (0 + k)) = timesRow m l i) := by
            unfold Hid timesRow
            rw [HFW.out]
            exact bytesF_congr fun k hk => by
              simp only [Nat.zero_add]
              exact sg_congr fun q _ => (HX.out q k).symm
          rw [HE.out] at hcs
          have hown2 := HO.out.kept (grown_of_below HBq.out none) (by
            by_cases e : u7.ownBlock = none
            · exact .inl e
            · exact .inr e)
          have hi3 : ((List.range i).map (timesRow m l)).length + 1 ≤ 1000000000 := by simp; omega
          have hq1 := HBq.out.size
          have hs1 := HB.out.size
          have HR : Hid ((List.range i).map (timesRow m l) ++ [timesRow m l i] = (List.range (i + 1)).map (timesRow m l)) := by unfold Hid; rw [List.range_succ, List.map_append]; rfl
          generalize timesRow m l i = z at *
          generalize (List.range i).map (timesRow m l) = out at *
          go_wp2_with (at_builtin; refine wpList_push_str rfl _ _ 37 rfl Tryz.underlying37 w.heap.size _ out rfl (hown2.alloc _) ⟨wr.heap.size, 0, none⟩ _ z rfl (by simp) hi3 (by simp; omega) ?_)
          intro v' w4 hown4 hg4
          have HO4 : Hid (w4.ownsRow w.heap.size 9 1 v' ((List.range (i + 1)).map (timesRow m l)).length (((List.range (i + 1)).map (timesRow m l)).map .string)) := by unfold Hid; rw [← HR.out]; simpa using hown4
          have HB4 : Hid (Below w.heap.size w w4) := ((HB.out.trans (HBq.out.mono hs1)).alloc (by omega) _).grown hg4 (by simp; omega) (fun k hk => (hown2.lt k hk).1)
          clear hown4 hg4 hcs
          go_wp2_with fail
          go_roundw
          case rel => exact ⟨i + 1, by omega, by go_num, HO4, HB4⟩
          case measure => simp [intOf]; omega
    · obtain rfl : i = m.length := by omega
      go_wp2_with fail
      go_ret2
      exact ⟨_, rfl, by rw [HL.out]; exact HO.out, HB.out⟩
end Go.Proofs.YtfpofcfoeajkiaaGreat
/- parity.Mend: walk. -/
namespace Go.Proofs.YtfpofcfoeajkiaaGreat
open Go.RowKit
set_option linter.unusedVariables false
set_option linter.unusedSimpArgs false
def mendA (l : List ByteArray) (h : List Bool) : List ByteArray := pickJ l h l.length l.length
def mendM (l : List ByteArray) (h : List Bool) (k : Nat) : List ByteArray := pickJ (rowsP k (l.length - k)) h k l.length
def fillL (l : List ByteArray) (h : List Bool) (out : List ByteArray) (i q : Nat) : ByteArray := if q < i ∧ h.getD q false = true then l.getD q .empty else out.getD q .empty
def mendR (l : List ByteArray) (h : List Bool) (k : Nat) : List ByteArray := (List.range k).map (fillL l h (timesL (invL (mendM l h k)) ((mendA l h).take k)) k)
theorem StrsB.take {w : World} {A : Option Addr} {n c : Nat} {l : List ByteArray} (h : StrsB w (.slice A n c) l) (k : Nat) (hk : k ≤ l.length) : StrsB w (.slice A k c) (l.take k) := by
  obtain ⟨A', c', e, h2, h3, h4⟩ := h
  cases e
  have hl : (l.take k).length = k := by rw [List.length_take]; omega
  refine ⟨A, c, by rw [hl], by omega, h3, fun hp => ?_⟩
  obtain ⟨b, off, e1, e2, e3⟩ := h4 (by omega)
  refine ⟨b, off, e1, e2, fun j hj => ?_⟩
  rw [hl] at hj
  rw [e3 j (by omega), List.getElem?_take, if_pos hj]
theorem SRow.of_owns {w : World} {B g n cap : Nat} {l : List ByteArray} (h : w.ownsRow B 9 1 (.slice (some ⟨g, 0, none⟩) n cap) l.length (l.map .string)) : SRow w g l.length (fun j => l.getD j .empty) ∧ B ≤ g ∧ n = l.length ∧ l.length ≤ cap ∧ cap ≤ maxLen := by
  rcases h.2 with ⟨h1, _⟩ | ⟨g', cap', cur, hv, hb, hg, hn, hm, hc, ht⟩
  · cases h1
  · cases hv
    refine ⟨⟨(Array.getElem?_eq_some_iff.1 hg).1, fun j hj => ?_, fun j hj => frozen_of_row w g j cur _ hg⟩, hb, rfl, hn, hm⟩
    have := h.cells (g := g) rfl j (.string l[j]) (by simp [hj])
    rw [Addr.add_mid, Nat.zero_add] at this
    rw [this, List.getD_eq_getElem?_getD, List.getElem?_eq_getElem hj]; rfl
theorem cntB_pick (l : List ByteArray) (h : List Bool) : (mendA l h).length = cntB h l.length := by
  unfold mendA
  rw [pickJ_count, Nat.min_def]
  have := cntB_le h l.length
  split <;> omega
/-- what Mend reckons: the rows picked can be undone; times gives k rows -/
theorem mend_facts {l : List ByteArray} {h : List Bool} {k : Nat} (hk0 : 0 < k) (hk : k ≤ 16) (hl : k < l.length) (hl2 : l.length ≤ k + 16) (hc : k ≤ (mendA l h).length) (he : evenL (mendA l h) = true) :
    invOk (mendM l h k) = true ∧ (mendM l h k).length = k ∧ timesOk (invL (mendM l h k)) ((mendA l h).take k) = true ∧ (timesL (invL (mendM l h k)) ((mendA l h).take k)).length = k := by
  rw [cntB_pick] at hc
  have h1 := pick_inv k (l.length - k) h hk0 hk (by omega) (by rw [show k + (l.length - k) = l.length by omega]; exact hc)
  rw [show k + (l.length - k) = l.length by omega] at h1
  have hM : mendM l h k = pickJ (rowsP k (l.length - k)) h k l.length := rfl
  rw [← hM] at h1
  obtain ⟨hi, hlen⟩ := h1
  obtain ⟨hs, N, hN, hL⟩ := invOk_some hi
  rw [hlen] at hL
  have hA : ((mendA l h).take k).length = k := by rw [List.length_take, cntB_pick]; omega
  have hfst : firstN ((mendA l h).take k) = firstN (mendA l h) := by
    cases hq : mendA l h with
    | nil => simp
    | cons a t => obtain ⟨k', rfl⟩ : ∃ k', k = k' + 1 := ⟨k - 1, by omega⟩; rfl
  have hev : evenL ((mendA l h).take k) = true := by
    unfold evenL allN at he ⊢
    rw [List.all_eq_true] at he ⊢
    rw [hfst]
    exact fun x hx => he x (List.mem_of_mem_take hx)
  have hok : timesOk (invL (mendM l h k)) ((mendA l h).take k) = true := by
    unfold timesOk evenB
    rw [hL, show widthN (rowsL k N) = k from width_map k k N hk0 hk, hA, hev]
    simp only [Bool.true_and, Bool.and_eq_true, decide_eq_true_iff]
    exact ⟨⟨by omega, trivial⟩, hk⟩
  refine ⟨hi, hlen, hok, ?_⟩
  rw [timesL_of hok, List.length_map, List.length_range, hL, rowsL_len]
theorem SRow.strsC {w : World} {g n cap : Nat} {f : Nat → ByteArray} (h : SRow w g n f) (hn : n ≤ cap) (hc : cap ≤ maxLen) : StrsN w (.slice (some ⟨g, 0, none⟩) n cap) ((List.range n).map f) := by
  refine ⟨⟨_, cap, by simp, by simpa using hn, hc, fun hl => ⟨g, 0, rfl, h.lt, fun j hj => ?_⟩⟩, fun a b e => by cases e⟩
  have hj' : j < n := by simpa using hj
  rw [Nat.zero_add, h.cell j hj']
  simp [hj']
theorem fillL_step {l : List ByteArray} {h : List Bool} (out : List ByteArray) (i : Nat) (hi : i < l.length) (hh : i < h.length) : (h[i] = true → updS (fillL l h out i) i l[i] = fillL l h out (i + 1)) ∧ (h[i] = false → fillL l h out i = fillL l h out (i + 1)) := by
  have e1 : h.getD i false = h[i] := by rw [List.getD_eq_getElem?_getD, List.getElem?_eq_getElem hh]; rfl
  have e2 : l.getD i .empty = l[i] := by rw [List.getD_eq_getElem?_getD, List.getElem?_eq_getElem hi]; rfl
  constructor
  · intro he
    funext q
    unfold updS fillL
    by_cases e : q = i
    · subst e; rw [if_pos rfl, if_pos ⟨by omega, by rw [e1]; exact he⟩, e2]
    · rw [if_neg e]
      by_cases e3 : q < i ∧ h.getD q false = true
      · rw [if_pos e3, if_pos ⟨by omega, e3.2⟩]
      · rw [if_neg e3, if_neg (fun e4 => e3 ⟨by omega, e4.2⟩)]
  · intro he
    funext q
    unfold fillL
    by_cases e3 : q < i ∧ h.getD q false = true
    · rw [if_pos e3, if_pos ⟨by omega, e3.2⟩]
    · rw [if_neg e3, if_neg]
      intro e4
      by_cases e : q = i
      · subst e; rw [e1, he] at e4; cases e4.2
      · exact e3 ⟨by omega, e4.2⟩
set_option maxRecDepth 20000 in
set_option maxHeartbeats 6000000 in
theorem mend_fit (w : World) (va vh : Value) (l : List ByteArray) (h : List Bool) (k : Nat) (ha : StrsB w va l) (hb : BoolB w vh h) (hl : l.length = h.length) (hk0 : 0 < k) (hk : k ≤ 16) (hp0 : k < l.length) (hp : l.length ≤ k + 16) (hc : k ≤ (mendA l h).length) (he : evenL (mendA l h) = true) (hsz : firstN ((mendA l h).take k) ≤ 1000000000) :
    Calls Tryz.prog 37 #[va, vh, .int .i64 k] w fun e w' => ∃ v, e = .returned (.tuple #[v, .int .i64 0]) ∧ StrsN w' v (mendR l h k) ∧ Below w.heap.size w w' := by
  have HK : Hid (∀ w, Calls Tryz.prog 60 #[.int .i64 k] w fun e w' => e = .returned (.bool true) ∧ w = w') := fun w => by
    have h := pfewP_any k w; rwa [show fewN k = true by unfold fewN; simp; omega] at h
  obtain ⟨p, hpd⟩ : ∃ p, p = l.length - k := ⟨_, rfl⟩
  have hpk : (l.length : Int) - (k : Int) = (p : Int) := by omega
  have hp1 : 0 < p := by omega
  have hp2 : p ≤ 16 := by omega
  have hkp : k + p = l.length := by omega
  have HP : Hid (∀ w, Calls Tryz.prog 60 #[.int .i64 p] w fun e w' => e = .returned (.bool true) ∧ w = w') := fun w => by
    have h := pfewP_any p w; rwa [show fewN p = true by unfold fewN; simp; omega] at h
  have HF := Lib.hid (mend_facts hk0 hk hp0 hp hc he)
  have HMM : Hid (mendM l h k = pickJ (rowsP k p) h k (k + p)) := by unfold Hid mendM; rw [hkp, hpd]
  have HMR : Hid (mendR l h k = (List.range k).map (fillL l h (timesL (invL (mendM l h k)) ((mendA l h).take k)) k)) := rfl
  have hbl : Below w.heap.size w (w.alloc (.cells #[vh] 57)) := (Below.refl _ _).alloc (Nat.le_refl _) _
  have HQ := Lib.hid (picked_any (w.alloc (.cells #[vh] 57)) va vh l h l.length w.heap.size (ha.below hbl (Nat.le_refl _)) (by simp) (hb.below hbl (Nat.le_refl _)) hl (by omega) (by simp))
  have HBL := Lib.hid hbl
  have hne : ((h.length : Int) != (l.length : Int)) = false := by rw [bne_eq_false_iff_eq]; omega
  have HA := Lib.hid ha
  have HBo := Lib.hid hb
  have HRK := Lib.hid (fun w => rows_any k p w hk0 hk hp1 hp2)
  have hrl : (rowsP k p).length = h.length := by rw [rowsP_len, hkp, hl]
  have HRL := Lib.hid hrl
  have HL := Lib.hid hl
  have HHL : Hid (k < h.length) := by unfold Hid; omega
  obtain ⟨A, c, rfl, h1, h2⟩ := ha.len
  obtain ⟨A2, c2, rfl, h3, h4⟩ := hb.len
  have hd : decide (((mendA l h).length : Int) < (k : Int)) = false := by simp; omega
  have HAll : Hid (pickJ l h l.length l.length = mendA l h) := rfl
  rw [HAll.out] at HQ
  have HEV := Lib.hid he
  have HSZ := Lib.hid hsz
  have HCK := Lib.hid hc
  have HPK := Lib.hid hpd
  clear ha hb h1 h2 h3 h4 hbl hl hpd hrl he hsz hc HAll
  obtain ⟨R, hR⟩ : ∃ R, R = mendR l h k := ⟨_, rfl⟩
  rw [← hR]
  have HR := Lib.hid hR; clear hR
  generalize mendA l h = all at *
  generalize mendM l h k = M at *
  have hnk2 : ¬ all.length < k := by have := HCK.out; omega
  have hnk3 : k ≤ all.length := HCK.out
  go_enter Tryz.func37, Tryz.ntmps37
  go_wp2_with fail
  refine (HK.out _).mono ?_
  rintro e w' ⟨rfl, rfl⟩
  go_wp2_with fail
  refine (HP.out _).mono ?_
  rintro e w' ⟨rfl, rfl⟩
  go_wp2_with fail
  refine HQ.out.mono ?_
  rintro e w1 ⟨v1, rfl, s1, b1⟩
  obtain ⟨A3, c3, rfl, h5, h6⟩ := s1.1.len
  have HW : Hid (Below w.heap.size w w1) := HBL.out.trans (b1.mono (by simp))
  have HX : Hid (w1.cell? ⟨w.heap.size, 0, none⟩ = some (.slice A2 h.length c2)) := (b1.cell (p := ⟨w.heap.size, 0, none⟩) (by simp)).trans (by simp)
  have HXs : Hid (w.heap.size < w1.heap.size) := by unfold Hid; have := b1.size; simp at this; omega
  have H1 := Lib.hid s1.1
  have HEV1 := Lib.hid (peven_any w1 _ all s1.1)
  rw [HEV.out] at HEV1
  clear s1 b1 HQ HBL hne HK HP
  go_wp2_with fail
  refine HEV1.out.mono ?_
  rintro e w2 ⟨rfl, b2⟩
  replace HW := Lib.hid (HW.out.trans (b2.mono HW.out.size))
  replace HX : Hid (w2.cell? ⟨w.heap.size, 0, none⟩ = some (.slice A2 h.length c2)) := (b2.cell (p := ⟨w.heap.size, 0, none⟩) HXs.out).trans HX.out
  replace HXs : Hid (w.heap.size < w2.heap.size) := Nat.lt_of_lt_of_le HXs.out b2.size
  replace H1 := Lib.hid (H1.out.below b2 (Nat.le_refl _))
  clear b2 HEV1
  go_wp2_with fail
  refine (HRK.out _).mono ?_
  rintro e w3 ⟨v3, rfl, s3, b3⟩
  replace HW := Lib.hid (HW.out.trans (b3.mono HW.out.size))
  replace HX : Hid (w3.cell? ⟨w.heap.size, 0, none⟩ = some (.slice A2 h.length c2)) := (b3.cell (p := ⟨w.heap.size, 0, none⟩) HXs.out).trans HX.out
  replace HXs : Hid (w.heap.size < w3.heap.size) := Nat.lt_of_lt_of_le HXs.out b3.size
  replace H1 := Lib.hid (H1.out.below b3 (Nat.le_refl _))
  have HQ3 := Lib.hid (picked_any w3 v3 _ (rowsP k p) h k w.heap.size s3.1 HX.out (HBo.out.below HW.out (Nat.le_refl _)) HRL.out (by rw [rowsP_len]; omega) HXs.out)
  rw [rowsP_len, ← HMM.out] at HQ3
  clear s3 b3 HRK
  go_wp2_with fail
  refine HQ3.out.mono ?_
  rintro e w4 ⟨v4, rfl, s4, b4⟩
  replace HW := Lib.hid (HW.out.trans (b4.mono HW.out.size))
  replace HX : Hid (w4.cell? ⟨w.heap.size, 0, none⟩ = some (.slice A2 h.length c2)) := (b4.cell (p := ⟨w.heap.size, 0, none⟩) HXs.out).trans HX.out
  replace HXs : Hid (w.heap.size < w4.heap.size) := Nat.lt_of_lt_of_le HXs.out b4.size
  replace H1 := Lib.hid (H1.out.below b4 (Nat.le_refl _))
  have HI := Lib.hid (minvert_any w4 v4 M s4.1)
  rw [HF.out.1] at HI
  clear s4 b4 HQ3
  go_wp2_with fail
  refine HI.out.mono ?_
  rintro e w5 ⟨v5, rfl, s5, b5⟩
  replace HW := Lib.hid (HW.out.trans (b5.mono HW.out.size))
  replace HX : Hid (w5.cell? ⟨w.heap.size, 0, none⟩ = some (.slice A2 h.length c2)) := (b5.cell (p := ⟨w.heap.size, 0, none⟩) HXs.out).trans HX.out
  replace HXs : Hid (w.heap.size < w5.heap.size) := Nat.lt_of_lt_of_le HXs.out b5.size
  replace H1 := Lib.hid (H1.out.below b5 (Nat.le_refl _))
  have HT := Lib.hid (times_own w5 v5 (.slice A3 k c3) (invL M) (all.take k) s5.1 (H1.out.take k HCK.out) HF.out.2.2.1 HSZ.out)
  clear s5 b5 HI
  have hca : k ≤ all.length := HCK.out
  have hcI : (k : Int) ≤ (all.length : Int) := by omega
  have hc3 : all.length ≤ c3 := h5
  have hc3I : c3 ≤ 9223372036854775807 := by unfold maxLen at h6; omega
  go_wp2_with fail
  refine HT.out.mono ?_
  rintro e w6 ⟨v6, rfl, o6, b6⟩
  obtain ⟨out, hout⟩ : ∃ out, out = timesL (invL M) (all.take k) := ⟨_, rfl⟩
  have hol : out.length = k := by rw [hout]; exact HF.out.2.2.2
  rw [← hout] at o6 HMR
  rcases o6.2 with ⟨_, h0⟩ | ⟨g, cap, cur, hv6, _⟩
  · omega
  · subst hv6
    obtain ⟨hS, hgB, _, hcap1, hcap2⟩ := SRow.of_owns o6
    rw [hol] at hS hcap1
    have HS : Hid (SRow w6 g k (fillL l h out 0)) := hS.congr fun j hj => by unfold fillL; rw [if_neg (fun e => by omega)]
    have HG : Hid (w5.heap.size ≤ g) := hgB
    have HB6 := Lib.hid b6
    have HCAP : Hid (k ≤ cap ∧ cap ≤ maxLen) := ⟨hcap1, hcap2⟩
    rw [hol]
    clear o6 b6 hS hgB hout HT H1 hcap1 hcap2
    have hcapI : cap ≤ 9223372036854775807 := by have := HCAP.out.2; unfold maxLen at this; omega
    have HLS := Lib.hid (HA.out.below HW.out (Nat.le_refl _))
    have HBS := Lib.hid (HBo.out.below HW.out (Nat.le_refl _))
    go_wp2_with fail
    go_loopw [70] (fun q wr => ∃ i : Nat, i ≤ k ∧ q = .int .i64 i ∧ Hid (SRow wr g k (fillL l h out i)) ∧ Hid (Below w5.heap.size w5 wr)) (fun q _ => k - (intOf q).toNat)
    case atStart => exact ⟨0, Nat.zero_le _, rfl, HS.out, HB6.out⟩
    case round =>
      obtain ⟨i, hi, rfl, HSi, HBi⟩ := hrel
      by_cases hlt : i < k
      · have hlt' : (i : Int) < (k : Int) := by omega
        have hih : i < h.length := by have := HHL.out; omega
        have hih' : (i : Int) < (h.length : Int) := by omega
        have hil : i < l.length := by omega
        have hil' : (i : Int) < (l.length : Int) := by omega
        have e1 : wr.cell? ⟨w.heap.size, 0, none⟩ = some (.slice A2 h.length c2) := (HBi.out.cell (p := ⟨w.heap.size, 0, none⟩) HXs.out).trans HX.out
        obtain ⟨A7, c7, hv7, _, _, hc7⟩ := HBS.out
        obtain ⟨b7, o7, hA7, hb7, hcell7⟩ := hc7 (by omega)
        cases hv7
        subst hA7
        have e2 : wr.cell? ⟨b7, o7 + i, none⟩ = some (.bool h[i]) := (HBi.out.cell (p := ⟨b7, o7 + i, none⟩) hb7).trans (hcell7 i hih)
        obtain ⟨b8, o8, rfl, hb8, hcell8⟩ := HLS.out.cells (by omega)
        have e3 : wr.cell? ⟨b8, o8 + i, none⟩ = some (.string l[i]) := (HBi.out.cell (p := ⟨b8, o8 + i, none⟩) hb8).trans (hcell8 i hil)
        have e4 : wr.cell? ⟨g, i, none⟩ = some (.string (fillL l h out i i)) := HSi.out.cell i hlt
        have f4 : wr.frozen? ⟨g, i, none⟩ = false := HSi.out.free i hlt
        obtain ⟨hst1, hst2⟩ := fillL_step (l := l) (h := h) out i hil hih
        cases hq : h[i] with
        | false =>
          have HN : Hid (SRow wr g k (fillL l h out (i + 1))) := by unfold Hid; rw [← hst2 hq]; exact HSi.out
          rw [hq] at e2
          clear hst1 hst2 hq hcell7 hcell8 e3 e4 f4 hc7 HSi
          go_wp2_with fail
          go_roundw
          case rel => exact ⟨i + 1, by omega, by go_num, HN, HBi⟩
          case measure => simp [intOf]; omega
        | true =>
          have HN : Hid (SRow (wr.setCell ⟨g, i, none⟩ (.string l[i])) g k (fillL l h out (i + 1))) := by
            unfold Hid; rw [← hst1 hq]; exact HSi.out.set i l[i] hlt
          have HN2 : Hid (Below w5.heap.size w5 (wr.setCell ⟨g, i, none⟩ (.string l[i]))) := HBi.out.setCell (p := ⟨g, i, none⟩) HG.out _
          rw [hq] at e2
          generalize fillL l h out i i = y4 at *
          generalize l[i] = x at *
          clear hst1 hst2 hq hcell7 hcell8 hc7 HSi HBi
          go_wp2_with fail
          go_roundw
          case rel => exact ⟨i + 1, by omega, by go_num, HN, HN2⟩
          case measure => simp [intOf]; omega
      · obtain rfl : i = k := by omega
        have hst := HSi.out.strsC HCAP.out.1 HCAP.out.2
        have HST : Hid (StrsN wr (.slice (some ⟨g, 0, none⟩) i cap) R) := by unfold Hid; rw [HR.out, HMR.out]; exact hst
        clear hst HSi
        go_wp2_with fail
        go_ret2
        exact ⟨_, rfl, HST.out, HW.out.trans (HBi.out.mono HW.out.size)⟩
end Go.Proofs.YtfpofcfoeajkiaaGreat
/- Mend of both packages, whatever it is given: the errors, and all cases together. -/
namespace Go.Proofs.YtfpofcfoeajkiaaGreat
open Go.RowKit
set_option linter.unusedVariables false
set_option linter.unusedSimpArgs false
set_option maxRecDepth 20000 in
set_option maxHeartbeats 2000000 in
theorem mend_four1 (w : World) (va vh : Value) (l : List ByteArray) (h : List Bool) (k : Int) (ha : StrsB w va l) (hb : BoolB w vh h) (hk : fewN k = false) :
    Calls Tryz.prog 37 #[va, vh, .int .i64 k] w fun e w' => e = .returned (.tuple #[.slice none 0 0, .int .i64 4]) ∧ Below w.heap.size w w' := by
  have HK : Hid (∀ w, Calls Tryz.prog 60 #[.int .i64 k] w fun e w' => e = .returned (.bool false) ∧ w = w') := fun w => by
    have h := pfewP_any k w; rwa [hk] at h
  obtain ⟨A, c, rfl, h1, h2⟩ := ha.len
  obtain ⟨A2, c2, rfl, h3, h4⟩ := hb.len
  clear ha hb h1 h2 h3 h4 hk
  go_enter Tryz.func37, Tryz.ntmps37
  go_wp2_with fail
  refine (HK.out _).mono ?_
  rintro e w' ⟨rfl, rfl⟩
  go_wp2_with fail
  go_ret2
  exact ⟨rfl, (Below.refl _ _).alloc (Nat.le_refl _) _⟩
set_option maxRecDepth 20000 in
set_option maxHeartbeats 2000000 in
theorem mend_four2 (w : World) (va vh : Value) (l : List ByteArray) (h : List Bool) (k : Nat) (ha : StrsB w va l) (hb : BoolB w vh h) (hk0 : 0 < k) (hk : k ≤ 16) (hp : fewN ((l.length : Int) - (k : Int)) = false) :
    Calls Tryz.prog 37 #[va, vh, .int .i64 k] w fun e w' => e = .returned (.tuple #[.slice none 0 0, .int .i64 4]) ∧ Below w.heap.size w w' := by
  have HK : Hid (∀ w, Calls Tryz.prog 60 #[.int .i64 k] w fun e w' => e = .returned (.bool true) ∧ w = w') := fun w => by
    have h := pfewP_any k w; rwa [show fewN k = true by unfold fewN; simp; omega] at h
  have HP : Hid (∀ w, Calls Tryz.prog 60 #[.int .i64 ((l.length : Int) - (k : Int))] w fun e w' => e = .returned (.bool false) ∧ w = w') := fun w => by
    have h := pfewP_any ((l.length : Int) - (k : Int)) w; rwa [hp] at h
  obtain ⟨A, c, rfl, h1, h2⟩ := ha.len
  obtain ⟨A2, c2, rfl, h3, h4⟩ := hb.len
  have hlI : l.length ≤ 9223372036854775807 := by unfold maxLen at h2; omega
  clear ha hb h1 h2 h3 h4 hp
  go_enter Tryz.func37, Tryz.ntmps37
  go_wp2_with fail
  refine (HK.out _).mono ?_
  rintro e w' ⟨rfl, rfl⟩
  go_wp2_with fail
  refine (HP.out _).mono ?_
  rintro e w' ⟨rfl, rfl⟩
  go_wp2_with fail
  go_ret2
  exact ⟨rfl, (Below.refl _ _).alloc (Nat.le_refl _) _⟩
set_option maxRecDepth 20000 in
set_option maxHeartbeats 2000000 in
theorem mend_four3 (w : World) (va vh : Value) (l : List ByteArray) (h : List Bool) (k : Nat) (ha : StrsB w va l) (hb : BoolB w vh h) (hk0 : 0 < k) (hk : k ≤ 16) (hp0 : k < l.length) (hp : l.length ≤ k + 16) (hl : l.length ≠ h.length) :
    Calls Tryz.prog 37 #[va, vh, .int .i64 k] w fun e w' => e = .returned (.tuple #[.slice none 0 0, .int .i64 4]) ∧ Below w.heap.size w w' := by
  have HK : Hid (∀ w, Calls Tryz.prog 60 #[.int .i64 k] w fun e w' => e = .returned (.bool true) ∧ w = w') := fun w => by
    have h := pfewP_any k w; rwa [show fewN k = true by unfold fewN; simp; omega] at h
  have HP : Hid (∀ w, Calls Tryz.prog 60 #[.int .i64 ((l.length : Int) - (k : Int))] w fun e w' => e = .returned (.bool true) ∧ w = w') := fun w => by
    have h := pfewP_any ((l.length : Int) - (k : Int)) w; rwa [show fewN ((l.length : Int) - (k : Int)) = true by unfold fewN; simp; omega] at h
  have hne : ((h.length : Int) != (l.length : Int)) = true := by rw [bne_iff_ne]; omega
  obtain ⟨A, c, rfl, h1, h2⟩ := ha.len
  obtain ⟨A2, c2, rfl, h3, h4⟩ := hb.len
  clear ha hb h1 h2 h3 h4 hl
  go_enter Tryz.func37, Tryz.ntmps37
  go_wp2_with fail
  refine (HK.out _).mono ?_
  rintro e w' ⟨rfl, rfl⟩
  go_wp2_with fail
  refine (HP.out _).mono ?_
  rintro e w' ⟨rfl, rfl⟩
  go_wp2_with fail
  go_ret2
  exact ⟨rfl, (Below.refl _ _).alloc (Nat.le_refl _) _⟩
set_option maxRecDepth 20000 in
set_option maxHeartbeats 2000000 in
theorem mend_two (w : World) (va vh : Value) (l : List ByteArray) (h : List Bool) (k : Nat) (ha : StrsB w va l) (hb : BoolB w vh h) (hl : l.length = h.length) (hk0 : 0 < k) (hk : k ≤ 16) (hp0 : k < l.length) (hp : l.length ≤ k + 16) (hc : k ≤ (mendA l h).length) (he : evenL (mendA l h) = false) :
    Calls Tryz.prog 37 #[va, vh, .int .i64 k] w fun e w' => e = .returned (.tuple #[.slice none 0 0, .int .i64 2]) ∧ Below w.heap.size w w' := by
  have HK : Hid (∀ w, Calls Tryz.prog 60 #[.int .i64 k] w fun e w' => e = .returned (.bool true) ∧ w = w') := fun w => by
    have h := pfewP_any k w; rwa [show fewN k = true by unfold fewN; simp; omega] at h
  have HP : Hid (∀ w, Calls Tryz.prog 60 #[.int .i64 ((l.length : Int) - (k : Int))] w fun e w' => e = .returned (.bool true) ∧ w = w') := fun w => by
    have h := pfewP_any ((l.length : Int) - (k : Int)) w; rwa [show fewN ((l.length : Int) - (k : Int)) = true by unfold fewN; simp; omega] at h
  have hbl : Below w.heap.size w (w.alloc (.cells #[vh] 57)) := (Below.refl _ _).alloc (Nat.le_refl _) _
  have HQ := Lib.hid (picked_any (w.alloc (.cells #[vh] 57)) va vh l h l.length w.heap.size (ha.below hbl (Nat.le_refl _)) (by simp) (hb.below hbl (Nat.le_refl _)) hl (by omega) (by simp))
  have HBL := Lib.hid hbl
  have hne : ((h.length : Int) != (l.length : Int)) = false := by rw [bne_eq_false_iff_eq]; omega
  obtain ⟨A, c, rfl, h1, h2⟩ := ha.len
  obtain ⟨A2, c2, rfl, h3, h4⟩ := hb.len
  clear ha hb h1 h2 h3 h4 hbl hl
  have HAll : Hid (pickJ l h l.length l.length = mendA l h) := rfl
  rw [HAll.out] at HQ
  have HEV := Lib.hid he
  clear HAll he
  generalize mendA l h = out at *
  have hd : decide ((out.length : Int) < (k : Int)) = false := by simp; omega
  have hnk2 : ¬ out.length < k := by omega
  go_enter Tryz.func37, Tryz.ntmps37
  go_wp2_with fail
  refine (HK.out _).mono ?_
  rintro e w' ⟨rfl, rfl⟩
  go_wp2_with fail
  refine (HP.out _).mono ?_
  rintro e w' ⟨rfl, rfl⟩
  go_wp2_with fail
  refine HQ.out.mono ?_
  rintro e w1 ⟨v1, rfl, s1, b1⟩
  obtain ⟨A3, c3, rfl, h5, h6⟩ := s1.1.len
  have HW : Hid (Below w.heap.size w w1) := HBL.out.trans (b1.mono (by simp))
  have HEV1 := Lib.hid (peven_any w1 _ out s1.1)
  rw [HEV.out] at HEV1
  clear s1 b1 h5 h6 HQ HBL hne
  go_wp2_with fail
  refine HEV1.out.mono ?_
  rintro e w2 ⟨rfl, b2⟩
  replace HW := Lib.hid (HW.out.trans (b2.mono HW.out.size))
  clear b2
  go_wp2_with fail
  go_ret2
  exact ⟨rfl, HW.out⟩
def mendE (l : List ByteArray) (h : List Bool) (k : Int) : Int :=
  if 0 < k ∧ k ≤ 16 ∧ k < l.length ∧ l.length ≤ k + 16 ∧ l.length = h.length then
    if ((mendA l h).length : Int) < k then 5 else if evenL (mendA l h) = true then 0 else 2
  else 4
def mendV (l : List ByteArray) (h : List Bool) (k : Int) : List ByteArray := if mendE l h k = 0 then mendR l h k.toNat else []
theorem mendA_small {l : List ByteArray} {h : List Bool} {k : Nat} (hs : ∀ x ∈ l, x.size ≤ 1000000000) : firstN ((mendA l h).take k) ≤ 1000000000 := by
  cases hq : (mendA l h).take k with
  | nil => simp [firstN]
  | cons a t =>
    have hm : a ∈ mendA l h := List.mem_of_mem_take (by rw [hq]; exact List.mem_cons_self ..)
    obtain ⟨i, hi, _, e⟩ := pickJ_mem l h _ _ a hm
    have := hs a (by rw [e, List.getD_eq_getElem?_getD, List.getElem?_eq_getElem hi]; exact List.getElem_mem hi)
    simpa [firstN] using this
theorem mend_any (w : World) (va vh : Value) (l : List ByteArray) (h : List Bool) (k : Int) (ha : StrsB w va l) (hb : BoolB w vh h) (hs : ∀ x ∈ l, x.size ≤ 1000000000) :
    Calls Tryz.prog 37 #[va, vh, .int .i64 k] w fun e w' => ∃ v, e = .returned (.tuple #[v, .int .i64 (mendE l h k)]) ∧ StrsN w' v (mendV l h k) ∧ Below w.heap.size w w' := by
  by_cases hg : 0 < k ∧ k ≤ 16 ∧ k < l.length ∧ l.length ≤ k + 16 ∧ l.length = h.length
  · obtain ⟨n, rfl⟩ : ∃ n : Nat, k = (n : Int) := ⟨k.toNat, by omega⟩
    by_cases h5 : ((mendA l h).length : Int) < (n : Int)
    · have e : mendE l h n = 5 := by unfold mendE; rw [if_pos hg, if_pos h5]
      have e2 : mendV l h n = [] := by unfold mendV; rw [e]; rfl
      rw [e, e2]
      refine (mend_none w va vh l h n ha hb (by omega) (by omega) (by omega) (by omega) (by omega) (by unfold mendA at h5; omega)).mono ?_
      rintro e w' ⟨rfl, b⟩
      exact ⟨_, rfl, strsN_nil _, b⟩
    · by_cases h2 : evenL (mendA l h) = true
      · have e : mendE l h n = 0 := by unfold mendE; rw [if_pos hg, if_neg h5, if_pos h2]
        have e2 : mendV l h n = mendR l h n := by unfold mendV; rw [if_pos e]; rfl
        rw [e, e2]
        exact mend_fit w va vh l h n ha hb (by omega) (by omega) (by omega) (by omega) (by omega) (by omega) h2 (mendA_small hs)
      · have e : mendE l h n = 2 := by unfold mendE; rw [if_pos hg, if_neg h5, if_neg h2]
        have e2 : mendV l h n = [] := by unfold mendV; rw [e]; rfl
        rw [e, e2]
        refine (mend_two w va vh l h n ha hb (by omega) (by omega) (by omega) (by omega) (by omega) (by omega) (by simpa using h2)).mono ?_
        rintro e w' ⟨rfl, b⟩
        exact ⟨_, rfl, strsN_nil _, b⟩
  · have e : mendE l h k = 4 := by unfold mendE; rw [if_neg hg]
    have e2 : mendV l h k = [] := by unfold mendV; rw [e]; rfl
    rw [e, e2]
    have h4 : Calls Tryz.prog 37 #[va, vh, .int .i64 k] w fun e w' => e = .returned (.tuple #[.slice none 0 0, .int .i64 4]) ∧ Below w.heap.size w w' := by
      by_cases hk : 0 < k ∧ k ≤ 16
      · obtain ⟨n, rfl⟩ : ∃ n : Nat, k = (n : Int) := ⟨k.toNat, by omega⟩
        by_cases hp : (n : Int) < l.length ∧ l.length ≤ (n : Int) + 16
        · exact mend_four3 w va vh l h n ha hb (by omega) (by omega) (by omega) (by omega) (by omega)
        · exact mend_four2 w va vh l h n ha hb (by omega) (by omega) (by unfold fewN; simp; omega)
      · exact mend_four1 w va vh l h k ha hb (by unfold fewN; simp; omega)
    refine h4.mono ?_
    rintro e w' ⟨rfl, b⟩
    exact ⟨_, rfl, strsN_nil _, b⟩
end Go.Proofs.YtfpofcfoeajkiaaGreat
