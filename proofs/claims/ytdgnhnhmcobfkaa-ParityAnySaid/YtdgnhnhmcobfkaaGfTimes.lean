/- gf.Times: walk. -/
import Derived.Test.YtdgnhnhmcobfkaaGfMem
namespace Go.Proofs.Ytdgnhnhmcobfkaa
open Go.RowKit
set_option linter.unusedVariables false
theorem rw_get (x : ByteArray) (j : Nat) (h : j < x.size) : x[j] = rw' x j := by
  have h2 : j < x.data.size := h
  simp only [rw', List.getD_eq_getElem?_getD, Array.getElem?_toList, Array.getElem?_eq_getElem h2, Option.getD_some]
  rfl
/-- a matrix out of texts -/
def mt (l : List ByteArray) (i k : Nat) : UInt8 := rw' (l.getD i .empty) k
theorem mt_get {l : List ByteArray} {i : Nat} (h : i < l.length) (k : Nat) : mt l i k = rw' l[i] k := by
  unfold mt; rw [List.getD_eq_getElem?_getD, List.getElem?_eq_getElem h, Option.getD_some]
def timesOk (m l : List ByteArray) : Bool := decide (widthN m ≠ 0 ∧ widthN m = l.length) && evenB l
def timesRow (m l : List ByteArray) (i : Nat) : ByteArray := bytesF (firstN l) fun k => sg l.length fun j => um (mt m i j) (mt l j k)
def timesL (m l : List ByteArray) : List ByteArray := if timesOk m l = true then (List.range m.length).map (timesRow m l) else []
theorem allN_get {p : Nat → Bool} {l : List ByteArray} (h : allN p l = true) (i : Nat) (hi : i < l.length) : p l[i].size = true := by
  unfold allN at h; rw [List.all_eq_true] at h; exact h _ (List.getElem_mem _)
theorem evenL_get {l : List ByteArray} (h : evenL l = true) (i : Nat) (hi : i < l.length) : l[i].size = firstN l := by
  have := allN_get h i hi; simpa using this
theorem widthN_ne {m : List ByteArray} (h : widthN m ≠ 0) : 0 < m.length ∧ m.length ≤ 16 ∧ evenL m = true ∧ widthN m = firstN m := by
  unfold widthN at h ⊢
  split at h
  · exact absurd rfl h
  · next hc =>
    have h1 : m.length ≠ 0 := fun e => hc (Or.inl e)
    have h2 : evenB m = true := by cases hb : evenB m with | true => rfl | false => exact absurd (Or.inr hb) hc
    unfold evenB at h2
    rw [Bool.and_eq_true, decide_eq_true_iff] at h2
    refine ⟨by omega, h2.2, h2.1, ?_⟩
    rw [if_neg hc]
set_option maxRecDepth 20000 in
set_option maxHeartbeats 4000000 in
theorem times_ok (w : World) (va vb : Value) (m l : List ByteArray) (ha : StrsB w va m) (hb : StrsB w vb l) (hok : timesOk m l = true) (hsz : firstN l ≤ 1000000000) :
    Calls Try.prog 20 #[va, vb] w fun e w' => ∃ v, e = .returned (.tuple #[v, .bool true]) ∧ StrsN w' v (timesL m l) ∧ Below w.heap.size w w' := by
  have HL : Hid (timesL m l = (List.range m.length).map (timesRow m l)) := by unfold Hid timesL; rw [if_pos hok]
  unfold timesOk at hok
  rw [Bool.and_eq_true, decide_eq_true_iff] at hok
  obtain ⟨⟨hw0, hwn⟩, hev⟩ := hok
  obtain ⟨hm0, hm16, hme, hmw⟩ := widthN_ne hw0
  have hle : evenL l = true ∧ l.length ≤ 16 := by unfold evenB at hev; rwa [Bool.and_eq_true, decide_eq_true_iff] at hev
  have HWD := Lib.hid (width_any w va m ha)
  have HEV := Lib.hid (even_any w vb l hb)
  rw [hev] at HEV
  rw [hwn] at HWD hw0 hmw
  have HMR : Hid (∀ i (h : i < m.length), m[i].size = l.length) := fun i h => (evenL_get hme i h).trans hmw.symm
  have HLR : Hid (∀ i (h : i < l.length), l[i].size = firstN l) := fun i h => evenL_get hle.1 i h
  have HM16 := Lib.hid hm16
  obtain ⟨Am, cm, rfl, h1, h2⟩ := ha.len
  have HCm := Lib.hid (ha.cells hm0)
  obtain ⟨Al, cl, rfl, h3, h4⟩ := hb.len
  have hl0 : 0 < l.length := by omega
  have HCl := Lib.hid (hb.cells hl0)
  obtain ⟨bm, om, rfl, hbm, HCM⟩ := HCm.out
  obtain ⟨bl, ol, rfl, hbl, HCL⟩ := HCl.out
  have HCM := Lib.hid HCM
  have HCL := Lib.hid HCL
  have hl16 : l.length ≤ 16 := hle.2
  have hd0 : ((l.length : Int) == 0) = false := by rw [beq_eq_false_iff_ne]; omega
  clear ha hb hwn hev hme hmw hle HCm HCl h1 h2 h3 h4 hw0
  have hmI : m.length ≤ 9223372036854775807 := by omega
  have hlI : l.length ≤ 9223372036854775807 := by omega
  obtain ⟨W, hW⟩ : ∃ W, firstN l = W := ⟨_, rfl⟩
  have HFW : Hid (firstN l = W) := hW
  rw [hW] at hsz HLR
  clear hW
  go_enter Try.func20, Try.ntmps20
  go_wp2_with fail
  refine HWD.out.mono ?_
  rintro e w' ⟨rfl, rfl⟩
  go_wp2_with fail
  refine HEV.out.mono ?_
  rintro e w' ⟨rfl, rfl⟩
  go_wp2_with fail
  clear hd0 HWD HEV
  go_loopw [7, 30] (fun v i wr => ∃ j : Nat, j ≤ m.length ∧ i = .int .i64 j ∧ Hid (wr.ownsRow w.heap.size 9 1 v ((List.range j).map (timesRow m l)).length (((List.range j).map (timesRow m l)).map .string)) ∧ Hid (Below w.heap.size w wr)) (fun _ i _ => m.length - (intOf i).toNat)
  case atStart => exact ⟨0, Nat.zero_le _, rfl, World.ownsRow_nil _ _ _ _, Below.refl _ _⟩
  case round =>
    obtain ⟨i, hi, rfl, HO, HB⟩ := hrel
    obtain ⟨wo, hwo⟩ : ∃ wo, wo = wr := ⟨_, rfl⟩
    subst hwo
    by_cases hlt : i < m.length
    · have hlt' : (i : Int) < (m.length : Int) := by omega
      have e1 : wo.cell? ⟨bm, om + i, none⟩ = some (.string m[i]) := (HB.out.cell (p := ⟨bm, om + i, none⟩) hbm).trans (HCM.out i hlt)
      have e2 : wo.cell? ⟨bl, ol, none⟩ = some (.string l[0]) := (HB.out.cell (p := ⟨bl, ol, none⟩) hbl).trans (HCL.out 0 hl0)
      have z0 : l[0].size = W := HLR.out 0 hl0
      have zx : m[i].size = l.length := HMR.out i hlt
      have HX : Hid (∀ j k, um (mt m i j) (mt l j k) = um (rw' m[i] j) (mt l j k)) := fun j k => by rw [mt_get hlt]
      generalize l[0] = y0 at *
      generalize m[i] = x at *
      go_wp2_with (at_make; refine wpList_make_bytes rfl _ _ 63 rfl Try.underlying63 W rfl rfl (by omega) ?_)
      intro w1 hF hB1
      have HF := Lib.hid hF; clear hF
      have HB1 := Lib.hid hB1; clear hB1
      clear e1 e2 z0
      go_wp2_with fail
      go_loopw [41] (fun q wr => ∃ j : Nat, j ≤ l.length ∧ q = .int .i64 j ∧ Hid (FRow wr wo.heap.size W (fun k => sg j (fun q => um (rw' x q) (mt l q k)))) ∧ Hid (Below wo.heap.size wo wr)) (fun q _ => l.length - (intOf q).toNat)
      case atStart => exact ⟨0, Nat.zero_le _, rfl, HF.out, HB1.out⟩
      case round =>
        obtain ⟨j, hj, rfl, HFq, HBq⟩ := hrel
        by_cases hjl : j < l.length
        · have hjl' : (j : Int) < (l.length : Int) := by omega
          have hjx : j < x.size := by omega
          have hjx' : (j : Int) < (x.size : Int) := by omega
          have e3 : wr.cell? ⟨bl, ol + j, none⟩ = some (.string l[j]) := by
            have hb2 : bl < wo.heap.size := Nat.lt_of_lt_of_le hbl HB.out.size
            exact (HBq.out.cell (p := ⟨bl, ol + j, none⟩) hb2).trans ((HB.out.cell (p := ⟨bl, ol + j, none⟩) hbl).trans (HCL.out j hjl))
          have zj : l[j].size = W := HLR.out j hjl
          have HMJ : Hid (∀ k, mt l j k = rw' l[j] k) := fun k => mt_get hjl k
          have HXJ : Hid (x[j] = rw' x j) := rw_get x j hjx
          generalize l[j] = y at *
          obtain ⟨W2, cap, hcv, hF2, hB2⟩ := conv_bytes wr y (by omega)
          have hadd := add_any wo.heap.size W W wr.heap.size W cap x[j] (rw' y) (fun k => sg j (fun q => um (rw' x q) (mt l q k))) W2 (HFq.out.below hB2) (by rw [zj] at hF2; exact hF2) (by have := HFq.out.lt; omega) (Nat.le_refl _) (by omega)
          rw [zj] at hcv
          have HA := Lib.hid hadd; clear hadd
          have HB2 := Lib.hid hB2; clear hB2 hF2
          have hq1 := HBq.out.size
          go_wp2_with fail
          refine HA.out.mono ?_
          rintro e w3 ⟨rfl, hf3, hg3⟩
          have HF3 : Hid (FRow w3 wo.heap.size W (fun k => sg (j + 1) (fun q => um (rw' x q) (mt l q k)))) := hf3.congr fun k hk => by
            unfold adF; rw [if_pos hk]
            show _ = sg j _ ^^^ _
            rw [HXJ.out, ← HMJ.out]
          have HB3 : Hid (Below wo.heap.size wo w3) := (HBq.out.trans (HB2.out.mono hq1)).grown hg3 (Nat.le_trans hq1 HB2.out.size) (fun k e => by injection e with e; omega)
          clear hf3 hg3
          go_wp2_with fail
          go_roundw
          case rel => exact ⟨j + 1, by omega, by go_num, HF3, HB3⟩
          case measure => simp [intOf]; omega
        · obtain rfl : j = l.length := by omega
          have hcs := conv_str HFq.out 0 W W (by omega)
          have HE : Hid (bytesF W (fun k => (fun k => sg l.length (fun q => um (rw' x q) (mt l q k))) (0 + k)) = timesRow m l i) := by
            unfold Hid timesRow
            rw [HFW.out]
            exact bytesF_congr fun k hk => by
              simp only [Nat.zero_add]
              exact sg_congr fun q _ => (HX.out q k).symm
          rw [HE.out] at hcs
          have hown2 := HO.out.kept (grown_of_below HBq.out none) (by
            by_cases e : u7.ownBlock = none
            · exact .inl e
            · exact .inr e)
          have hi3 : ((List.range i).map (timesRow m l)).length + 1 ≤ 1000000000 := by simp; omega
          have hq1 := HBq.out.size
          have hs1 := HB.out.size
          have HR : Hid ((List.range i).map (timesRow m l) ++ [timesRow m l i] = (List.range (i + 1)).map (timesRow m l)) := by unfold Hid; rw [List.range_succ, List.map_append]; rfl
          generalize timesRow m l i = z at *
          generalize (List.range i).map (timesRow m l) = out at *
          go_wp2_with (at_builtin; refine wpList_push_str rfl _ _ 31 rfl Try.underlying31 w.heap.size _ out rfl (hown2.alloc _) ⟨wr.heap.size, 0, none⟩ _ z rfl (by simp) hi3 (by simp; omega) ?_)
          intro v' w4 hown4 hg4
          have HO4 : Hid (w4.ownsRow w.heap.size 9 1 v' ((List.range (i + 1)).map (timesRow m l)).length (((List.range (i + 1)).map (timesRow m l)).map .string)) := by unfold Hid; rw [← HR.out]; simpa using hown4
          have HB4 : Hid (Below w.heap.size w w4) := ((HB.out.trans (HBq.out.mono hs1)).alloc (by omega) _).grown hg4 (by simp; omega) (fun k hk => (hown2.lt k hk).1)
          clear hown4 hg4 hcs
          go_wp2_with fail
          go_roundw
          case rel => exact ⟨i + 1, by omega, by go_num, HO4, HB4⟩
          case measure => simp [intOf]; omega
    · obtain rfl : i = m.length := by omega
      go_wp2_with fail
      go_ret2
      exact ⟨_, rfl, by rw [HL.out]; exact StrsN.of_owns HO.out, HB.out⟩
set_option maxRecDepth 20000 in
set_option maxHeartbeats 2000000 in
theorem times_no (w : World) (va vb : Value) (m l : List ByteArray) (ha : StrsB w va m) (hb : StrsB w vb l) (hok : timesOk m l = false) :
    Calls Try.prog 20 #[va, vb] w fun e w' => e = .returned (.tuple #[.slice none 0 0, .bool false]) ∧ w = w' := by
  have HWD := Lib.hid (width_any w va m ha)
  have HEV := Lib.hid (even_any w vb l hb)
  obtain ⟨Al, cl, rfl, h3, h4⟩ := hb.len
  clear hb ha
  unfold timesOk at hok
  by_cases h0 : widthN m = 0
  · rw [h0] at HWD
    clear h0 hok h3 h4
    go_enter Try.func20, Try.ntmps20
    go_wp2_with fail
    refine HWD.out.mono ?_
    rintro e w' ⟨rfl, rfl⟩
    go_wp2_with fail
    go_ret2
    exact ⟨rfl, rfl⟩
  · have d0 : ((widthN m : Int) == 0) = false := by rw [beq_eq_false_iff_ne]; omega
    by_cases h1 : widthN m = l.length
    · have he : evenB l = false := by rw [decide_eq_true ⟨h0, h1⟩, Bool.true_and] at hok; exact hok
      rw [he] at HEV
      have d1 : ((widthN m : Int) != (l.length : Int)) = false := by rw [bne_eq_false_iff_eq]; omega
      generalize widthN m = q at *
      clear h0 h1 hok he h3 h4
      go_enter Try.func20, Try.ntmps20
      go_wp2_with fail
      refine HWD.out.mono ?_
      rintro e w' ⟨rfl, rfl⟩
      go_wp2_with fail
      refine HEV.out.mono ?_
      rintro e w' ⟨rfl, rfl⟩
      go_wp2_with fail
      go_ret2
      exact ⟨rfl, rfl⟩
    · have d1 : ((widthN m : Int) != (l.length : Int)) = true := by rw [bne_iff_ne]; omega
      generalize widthN m = q at *
      clear h0 h1 hok h3 h4
      go_enter Try.func20, Try.ntmps20
      go_wp2_with fail
      refine HWD.out.mono ?_
      rintro e w' ⟨rfl, rfl⟩
      go_wp2_with fail
      go_ret2
      exact ⟨rfl, rfl⟩
theorem strsN_nil (w : World) : StrsN w (.slice none 0 0) [] := ⟨strsB_nil w, fun n c h => by cases h; rfl⟩
theorem mtimes_any (w : World) (va vb : Value) (m l : List ByteArray) (ha : StrsB w va m) (hb : StrsB w vb l) (hsz : firstN l ≤ 1000000000) :
    Calls Try.prog 20 #[va, vb] w fun e w' => ∃ v, e = .returned (.tuple #[v, .bool (timesOk m l)]) ∧ StrsN w' v (timesL m l) ∧ Below w.heap.size w w' := by
  cases hok : timesOk m l with
  | true => exact times_ok w va vb m l ha hb hok hsz
  | false =>
    refine (times_no w va vb m l ha hb hok).mono ?_
    rintro e w' ⟨rfl, rfl⟩
    refine ⟨_, rfl, ?_, Below.refl _ _⟩
    unfold timesL
    rw [hok]
    exact strsN_nil w
end Go.Proofs.Ytdgnhnhmcobfkaa
