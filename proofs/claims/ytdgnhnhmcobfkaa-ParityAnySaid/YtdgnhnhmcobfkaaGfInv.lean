/- gf.Invert: walk. -/
import Derived.Test.YtdgnhnhmcobfkaaGfWipe
import Derived.WalkMore
namespace Go.Proofs.Ytdgnhnhmcobfkaa
open Go.RowKit
set_option linter.unusedVariables false
def sqOk (m : List ByteArray) : Bool := decide (m.length ≠ 0 ∧ widthN m = m.length)
def rowsL (n : Nat) (N : Rw) : List ByteArray := (List.range n).map fun i => bytesF n (N i)
def rowsO (n : Nat) : Option Rw → List ByteArray
  | some N => rowsL n N
  | none => []
def invOk (m : List ByteArray) : Bool := sqOk m && (inv m.length (mt m)).isSome
def invL (m : List ByteArray) : List ByteArray := if sqOk m = true then (rowsO m.length (inv m.length (mt m))) else []
theorem el_none {n : Nat} {R : Rw} {c : Nat} (h : el n R c = none) : ∀ k, el n R (c + k) = none
  | 0 => h
  | k + 1 => by
    show el n R ((c + k) + 1) = none
    unfold el; rw [el_none h k]
theorem sqOk_parts {m : List ByteArray} (h : sqOk m = true) : 0 < m.length ∧ m.length ≤ 16 ∧ ∀ i (hi : i < m.length), m[i].size = m.length := by
  unfold sqOk at h
  rw [decide_eq_true_iff] at h
  obtain ⟨h1, h2⟩ := h
  have hw : widthN m ≠ 0 := by rw [h2]; exact h1
  obtain ⟨a, b, c, d⟩ := widthN_ne hw
  exact ⟨a, b, fun i hi => (evenL_get c i hi).trans (d.symm.trans h2)⟩
set_option maxRecDepth 20000 in
set_option maxHeartbeats 4000000 in
theorem invert_ok (w : World) (va : Value) (m : List ByteArray) (ha : StrsB w va m) (hsq : sqOk m = true) :
    Calls Try.prog 22 #[va] w fun e w' => ∃ v, e = .returned (.tuple #[v, .bool (inv m.length (mt m)).isSome]) ∧ StrsN w' v (rowsO m.length (inv m.length (mt m))) ∧ Below w.heap.size w w' := by
  obtain ⟨h0, h16, hrows⟩ := sqOk_parts hsq
  have HWD := Lib.hid (width_any w va m ha)
  have HBG := Lib.hid (begun_any w va m ha h0 h16 hrows)
  have hw : widthN m = m.length := by unfold sqOk at hsq; rw [decide_eq_true_iff] at hsq; exact hsq.2
  rw [hw] at HWD
  obtain ⟨A, cm, rfl, h1, h2⟩ := ha.len
  clear ha hrows hw hsq h1 h2
  obtain ⟨n, hn⟩ : ∃ n, m.length = n := ⟨_, rfl⟩
  rw [hn] at h0 h16 HWD HBG ⊢
  obtain ⟨M0, hM⟩ : ∃ M0, mt m = M0 := ⟨_, rfl⟩
  rw [hM] at HBG ⊢
  clear hM hn
  have hnI : n ≤ 9223372036854775807 := by omega
  have hd0 : ((n : Int) == 0) = false := by rw [beq_eq_false_iff_ne]; omega
  have hd1 : ((n : Int) != (n : Int)) = false := by rw [bne_eq_false_iff_eq]
  go_enter Try.func22, Try.ntmps22
  go_wp2
  go_step3
  go_wp2_with fail
  refine HWD.out.mono ?_
  rintro e w' ⟨rfl, rfl⟩
  go_wp2_with fail
  refine HBG.out.mono ?_
  rintro e w1 ⟨o, cap, G0, C0, rfl, hc1, hc2, hS, hB⟩
  have HS := Lib.hid hS; clear hS
  have HB := Lib.hid hB; clear hB
  clear HWD HBG hd0 hd1
  go_wp2_with fail
  go_step3
  go_wp2_with fail
  go_loopw [6, 24] (fun k i wr => ∃ (c : Nat) (G C : Nat → Nat) (R : Rw), c ≤ n ∧ i = .int .i64 c ∧ k = .bool true ∧ Hid (el n (beg n M0) c = some R) ∧ Hid (Sol wr w.heap.size o n (2 * n) G C R) ∧ Hid (Below w.heap.size w wr)) (fun _ i _ => n - (intOf i).toNat)
  case atStart => exact ⟨0, G0, C0, beg n M0, Nat.zero_le _, rfl, rfl, rfl, HS.out, HB.out⟩
  case round =>
    obtain ⟨c, G, C, R, hc, rfl, rfl, HE, HK, HBr⟩ := hrel
    clear HS HB
    by_cases hlt : c < n
    · have hlt' : (c : Int) < (n : Int) := by omega
      have HP := Lib.hid (pivot_any wr w.heap.size o n (2 * n) cap c G C R HK.out hlt (by omega) (by omega))
      go_wp2_with fail
      refine HP.out.mono ?_
      rintro e w2 (⟨hp, rfl, rfl⟩ | ⟨p, hp, rfl, hS2, hg2⟩)
      · have HI : Hid (inv n M0 = none) := by
          have h1 : el n (beg n M0) (c + 1) = none := by
            have := HE.out
            unfold el; rw [this]; simp only; rw [hp]
          have h2 := el_none h1 (n - (c + 1))
          rw [show c + 1 + (n - (c + 1)) = n by omega] at h2
          unfold Hid inv; rw [h2]; rfl
        clear hp HP HE HK
        go_wp2_with fail
        ((try rw [Exit.noGoto_ret]); go_ret2)
        exact ⟨_, by rw [HI.out]; rfl, by rw [HI.out]; exact strsN_nil _, HBr.out⟩
      · obtain ⟨q1, q2, q3, _⟩ := pvt_some hp
        have HE2 : Hid (el n (beg n M0) (c + 1) = some (stp R c p)) := by
          have := HE.out
          unfold Hid el; rw [this]; simp only; rw [hp]
        have hs2 := hg2.size
        have hs0 := HBr.out.size
        have HB2 : Hid (Below w.heap.size w w2) := HBr.out.grown hg2 hs0 (fun k e => by injection e with e; rw [← e]; exact HK.out.oB)
        have HWP := Lib.hid (wipe_any w2 w.heap.size o n (2 * n) cap c (swN G c p) (swN C c p) (sw R c p) hS2 hlt (by omega) (by omega) (by omega) (by omega))
        clear hS2 hg2 HP hp HE HK q1 q2 q3
        go_wp2_with fail
        refine HWP.out.mono ?_
        rintro e w3 ⟨rfl, hS3, hB3⟩
        have HK3 : Hid (Sol w3 w.heap.size o n (2 * n) (swN G c p) (swN C c p) (stp R c p)) := hS3
        have HB3 : Hid (Below w.heap.size w w3) := HB2.out.trans hB3
        clear hS3 hB3 HWP
        go_wp2_with fail
        go_roundw
        case rel => exact ⟨c + 1, _, _, _, by omega, by go_num, rfl, HE2, HK3, HB3⟩
        case measure => simp [intOf]; omega
    · obtain rfl : c = n := by omega
      have HI : Hid (inv c M0 = some fun i k => R i (c + k)) := by unfold Hid inv; rw [HE.out]; rfl
      obtain ⟨wo, hwo⟩ : ∃ wo, wo = wr := ⟨_, rfl⟩
      subst hwo
      obtain ⟨W, hW⟩ : ∃ W, W = 2 * c := ⟨_, rfl⟩
      have HK2 : Hid (Sol wo w.heap.size o c W G C R) := by rw [hW]; exact HK.out
      have hcW : c ≤ W := by omega
      have hWc : W - c = c := by omega
      clear HE HK hW
      go_wp2_with fail
      go_loopw [8, 40] (fun v i wr => ∃ j : Nat, j ≤ c ∧ i = .int .i64 j ∧ Hid (wr.ownsRow wo.heap.size 9 1 v ((List.range j).map fun i => bytesF c (fun k => R i (c + k))).length (((List.range j).map fun i => bytesF c (fun k => R i (c + k))).map .string)) ∧ Hid (Below wo.heap.size wo wr)) (fun _ i _ => c - (intOf i).toNat)
      case atStart => exact ⟨0, Nat.zero_le _, rfl, World.ownsRow_nil _ _ _ _, Below.refl _ _⟩
      case round =>
        obtain ⟨j, hj, rfl, HO, HBq⟩ := hrel
        by_cases hjl : j < c
        · have hjl' : (j : Int) < (c : Int) := by omega
          have HKr := HK2.out.below HBq.out
          have e1 : wr.cell? ⟨o, j, none⟩ = some (.slice (some ⟨G j, 0, none⟩) W (C j)) := HKr.slot j hjl
          have hcap := HKr.cap j hjl
          have hcs := conv_str (HKr.row j hjl) c (W - c) (C j - c) (by omega)
          have HE : Hid (bytesF (W - c) (fun k => R j (c + k)) = bytesF c (fun k => R j (c + k))) := by rw [hWc]; exact rfl
          rw [HE.out, hWc] at hcs
          have hi3 : ((List.range j).map fun i => bytesF c (fun k => R i (c + k))).length + 1 ≤ 1000000000 := by simp; omega
          have HR : Hid (((List.range j).map fun i => bytesF c (fun k => R i (c + k))) ++ [bytesF c (fun k => R j (c + k))] = (List.range (j + 1)).map fun i => bytesF c (fun k => R i (c + k))) := by unfold Hid; rw [List.range_succ, List.map_append]; rfl
          have hown := HO.out
          have hq1 := HBq.out.size
          generalize bytesF c (fun k => R j (c + k)) = z at *
          generalize ((List.range j).map fun i => bytesF c (fun k => R i (c + k))) = out at *
          have hcapI : C j ≤ 9223372036854775807 := by have := hcap.2; unfold maxLen at this; omega
          have hcapc : c ≤ C j := by omega
          have hne1 : ¬ C j = c := by omega
          have hne2 : ¬ c = C j := by omega
          have hne3 : ¬ C j - c = 0 := by omega
          have hne4 : ¬ C j ≤ c := by omega
          generalize C j = cj at *
          generalize G j = gj at *
          clear HKr HE HO hcap
          go_wp2_with (at_builtin; refine wpList_push_str rfl _ _ 31 rfl Try.underlying31 wo.heap.size _ out rfl (hown.alloc _) ⟨wr.heap.size, 0, none⟩ _ z rfl (by simp) hi3 (by simp; omega) ?_)
          intro v' w4 hown4 hg4
          have HO4 : Hid (w4.ownsRow wo.heap.size 9 1 v' ((List.range (j + 1)).map fun i => bytesF c (fun k => R i (c + k))).length (((List.range (j + 1)).map fun i => bytesF c (fun k => R i (c + k))).map .string)) := by unfold Hid; rw [← HR.out]; simpa using hown4
          have HB4 : Hid (Below wo.heap.size wo w4) := (HBq.out.alloc hq1 _).grown hg4 (by simp; omega) (fun k hk => (hown.lt k hk).1)
          clear hown4 hg4 hcs
          go_wp2_with fail
          go_roundw
          case rel => exact ⟨j + 1, by omega, by go_num, HO4, HB4⟩
          case measure => simp [intOf]; omega
        · obtain rfl : j = c := by omega
          go_wp2_with fail
          ((try rw [Exit.noGoto_ret]); go_ret2)
          exact ⟨_, by rw [HI.out]; rfl, by rw [HI.out]; exact StrsN.of_owns HO.out, HBr.out.trans (HBq.out.mono HBr.out.size)⟩
theorem sqOk_no {m : List ByteArray} (h : sqOk m = false) : m.length = 0 ∨ m.length ≠ 0 ∧ widthN m ≠ m.length := by
  unfold sqOk at h
  rw [decide_eq_false_iff_not] at h
  by_cases h0 : m.length = 0
  · exact .inl h0
  · exact .inr ⟨h0, fun e => h ⟨h0, e⟩⟩
set_option maxRecDepth 20000 in
set_option maxHeartbeats 2000000 in
theorem invert_no (w : World) (va : Value) (m : List ByteArray) (ha : StrsB w va m) (hsq : sqOk m = false) :
    Calls Try.prog 22 #[va] w fun e w' => e = .returned (.tuple #[.slice none 0 0, .bool false]) ∧ w = w' := by
  have HWD := Lib.hid (width_any w va m ha)
  obtain ⟨A, cm, rfl, h1, h2⟩ := ha.len
  clear ha h1 h2
  rcases sqOk_no hsq with h0 | ⟨h0, h1⟩
  · have hd0 : ((m.length : Int) == 0) = true := by rw [beq_iff_eq]; omega
    clear h0 hsq
    go_enter Try.func22, Try.ntmps22
    go_wp2
    go_step3
    go_wp2_with fail
    ((try rw [Exit.noGoto_ret]); go_ret2)
    exact ⟨rfl, rfl⟩
  · have hd0 : ((m.length : Int) == 0) = false := by rw [beq_eq_false_iff_ne]; omega
    have hd1 : ((widthN m : Int) != (m.length : Int)) = true := by rw [bne_iff_ne]; omega
    generalize widthN m = q at *
    clear h0 hsq h1
    go_enter Try.func22, Try.ntmps22
    go_wp2
    go_step3
    go_wp2_with fail
    refine HWD.out.mono ?_
    rintro e w' ⟨rfl, rfl⟩
    go_wp2_with fail
    ((try rw [Exit.noGoto_ret]); go_ret2)
    exact ⟨rfl, rfl⟩
theorem minvert_any (w : World) (va : Value) (m : List ByteArray) (ha : StrsB w va m) :
    Calls Try.prog 22 #[va] w fun e w' => ∃ v, e = .returned (.tuple #[v, .bool (invOk m)]) ∧ StrsN w' v (invL m) ∧ Below w.heap.size w w' := by
  unfold invOk invL
  cases hok : sqOk m with
  | true =>
    rw [if_pos rfl, Bool.true_and]
    exact invert_ok w va m ha hok
  | false =>
    refine (invert_no w va m ha hok).mono ?_
    rintro e w' ⟨rfl, rfl⟩
    exact ⟨_, rfl, by rw [if_neg (by simp)]; exact strsN_nil w, Below.refl _ _⟩
end Go.Proofs.Ytdgnhnhmcobfkaa
