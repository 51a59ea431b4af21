/- picked; Mend where too few are there; the chapter's example: walks. -/
import Derived.Test.YtdgnhnhmcobfkaaParSplit
namespace Go.Proofs.Ytdgnhnhmcobfkaa
open Go.RowKit
set_option linter.unusedVariables false
set_option linter.unusedSimpArgs false
/-- the slice v holds the Booleans h -/
def BoolB (w : World) (v : Value) (h : List Bool) : Prop :=
  ∃ A c, v = .slice A h.length c ∧ h.length ≤ c ∧ c ≤ maxLen ∧ (0 < h.length → ∃ b off, A = some ⟨b, off, none⟩ ∧ b < w.heap.size ∧ ∀ j (hj : j < h.length), w.cell? ⟨b, off + j, none⟩ = some (.bool h[j]))
theorem BoolB.below {w w' : World} {v : Value} {h : List Bool} {B : Nat} (hb : BoolB w v h) (b : Below B w w') (hB : w.heap.size ≤ B) : BoolB w' v h := by
  obtain ⟨A, c, h1, h2, h3, h4⟩ := hb
  refine ⟨A, c, h1, h2, h3, fun hl => ?_⟩
  obtain ⟨b0, off, e1, e2, e3⟩ := h4 hl
  exact ⟨b0, off, e1, Nat.lt_of_lt_of_le e2 b.size, fun j hj => (b.cell (p := ⟨b0, off + j, none⟩) (Nat.lt_of_lt_of_le e2 hB)).trans (e3 j hj)⟩
theorem BoolB.len {w : World} {v : Value} {h : List Bool} (hb : BoolB w v h) : ∃ A c, v = .slice A h.length c ∧ h.length ≤ c ∧ c ≤ maxLen := by
  obtain ⟨A, c, h1, h2, h3, _⟩ := hb; exact ⟨A, c, h1, h2, h3⟩
theorem own_sl {w : World} {B e k n : Nat} {v : Value} {xs : List Value} (h : w.ownsRow B e k v n xs) : ∃ A c, v = .slice A n c := by
  rcases h.2 with ⟨hv, h0⟩ | ⟨g, cap, cur, hv, _⟩
  · exact ⟨none, 0, by rw [hv, h0]⟩
  · exact ⟨_, _, hv⟩
set_option maxRecDepth 20000 in
set_option maxHeartbeats 1000000 in
theorem thereC_any (w : World) (vh : Value) (h : List Bool) (pb i : Nat) (hp : w.cell? ⟨pb, 0, none⟩ = some vh) (hb : BoolB w vh h) (hi : i < h.length) :
    Calls Try.prog 50 #[.int .i64 i, .pointer (some ⟨pb, 0, none⟩)] w fun e w' => e = .returned (.bool h[i]) ∧ w = w' := by
  obtain ⟨A, c, rfl, h2, h3, h4⟩ := hb
  obtain ⟨b, off, rfl, e2, e3⟩ := h4 (by omega)
  have e1 := e3 i hi
  have hlt : (i : Int) < (h.length : Int) := by omega
  generalize h[i] = q at *
  clear h4 e3
  go_enter Try.func50, Try.ntmps50
  go_wp2_with fail
  go_ret
  exact ⟨rfl, rfl⟩
/-- the first n texts for whose places h is true, out of the first j -/
def pickJ (l : List ByteArray) (h : List Bool) (n : Int) : Nat → List ByteArray
  | 0 => []
  | j + 1 => if ((pickJ l h n j).length : Int) < n ∧ h.getD j false = true then pickJ l h n j ++ [l.getD j .empty] else pickJ l h n j
theorem pickJ_len (l : List ByteArray) (h : List Bool) (n : Int) : ∀ j, (pickJ l h n j).length ≤ j
  | 0 => Nat.le_refl _
  | j + 1 => by
    unfold pickJ
    have := pickJ_len l h n j
    split
    · rw [List.length_append]; simp; omega
    · omega
set_option maxRecDepth 20000 in
set_option maxHeartbeats 2000000 in
theorem picked_any (w : World) (va vh : Value) (l : List ByteArray) (h : List Bool) (n : Int) (pb : Nat) (ha : StrsB w va l) (hp : w.cell? ⟨pb, 0, none⟩ = some vh) (hb : BoolB w vh h) (hl : l.length = h.length) (hsz : l.length ≤ 1000000) (hpb : pb < w.heap.size) :
    Calls Try.prog 51 #[va, .int .i64 n, .func (.func 50) #[] #[.pointer (some ⟨pb, 0, none⟩)]] w fun e w' => ∃ v, e = .returned v ∧ StrsN w' v (pickJ l h n l.length) ∧ Below w.heap.size w w' := by
  have HCL := Lib.hid (fun w' (b : Below w.heap.size w w') i hi => thereC_any w' vh h pb i ((b.cell (p := ⟨pb, 0, none⟩) hpb).trans hp) (hb.below b (Nat.le_refl _)) hi)
  have HL := Lib.hid hl
  obtain ⟨A, c, rfl, h1, h2⟩ := ha.len
  have HC := Lib.hid ha.cells
  clear ha hp hb hl h1 h2 hpb
  have hm : l.length ≤ 9223372036854775807 := by omega
  go_enter Try.func51, Try.ntmps51
  go_wp2_with fail
  go_loopw [7, 12] (fun v i wr => ∃ j : Nat, j ≤ l.length ∧ i = .int .i64 j ∧ Hid (wr.ownsRow w.heap.size 9 1 v (pickJ l h n j).length ((pickJ l h n j).map .string)) ∧ Hid (Below w.heap.size w wr)) (fun _ i _ => l.length - (intOf i).toNat)
  case atStart => exact ⟨0, Nat.zero_le _, rfl, World.ownsRow_nil _ _ _ _, Below.refl _ _⟩
  case round =>
    obtain ⟨j, hj, rfl, HO, HB⟩ := hrel
    have hpl := pickJ_len l h n j
    by_cases hlt : j < l.length
    · obtain ⟨b, off, rfl, hblt, hcell⟩ := HC.out (by omega)
      have e1 : wr.cell? ⟨b, off + j, none⟩ = some (.string l[j]) := (HB.out.cell (p := ⟨b, off + j, none⟩) hblt).trans (hcell j hlt)
      have hlt' : (j : Int) < (l.length : Int) := by omega
      have hjh : j < h.length := by rw [← HL.out]; exact hlt
      have HT := Lib.hid (HCL.out wr HB.out j hjh)
      have HP0 : Hid (pickJ l h n (j + 1) = if ((pickJ l h n j).length : Int) < n ∧ h[j] = true then pickJ l h n j ++ [l[j]] else pickJ l h n j) := by
        unfold Hid
        show (if _ then _ else _) = _
        rw [List.getD_eq_getElem?_getD, List.getElem?_eq_getElem hjh, List.getD_eq_getElem?_getD, List.getElem?_eq_getElem hlt]
        rfl
      obtain ⟨Ao, co, hv⟩ := own_sl HO.out
      subst hv
      have hown := HO.out
      have hsO := HB.out.size
      clear hcell HC HO
      generalize pickJ l h n j = out at *
      generalize l[j] = x at *
      have hi3 : out.length + 1 ≤ 1000000000 := by omega
      by_cases hn : (out.length : Int) < n
      · have hd : decide ((out.length : Int) < n) = true := by simpa using hn
        cases hq : h[j] with
        | false =>
          have HN : Hid (pickJ l h n (j + 1) = out) := by unfold Hid; rw [HP0.out, if_neg (by rw [hq]; simp)]
          rw [hq] at HT
          clear HP0 hq hn
          go_wp2_with fail
          refine HT.out.mono ?_
          rintro e w' ⟨rfl, rfl⟩
          go_wp2_with fail
          go_roundw
          case rel => exact ⟨j + 1, by omega, by go_num, by rw [HN.out]; exact hown, HB⟩
          case measure => simp [intOf]; omega
        | true =>
          have HN : Hid (pickJ l h n (j + 1) = out ++ [x]) := by unfold Hid; rw [HP0.out, if_pos ⟨hn, hq⟩]
          rw [hq] at HT
          clear HP0 hq hn
          go_wp2_with fail
          refine HT.out.mono ?_
          rintro e w' ⟨rfl, rfl⟩
          go_wp2_with (at_builtin; refine wpList_push_str rfl _ _ 31 rfl Try.underlying31 w.heap.size _ out rfl (hown.alloc _) ⟨wr.heap.size, 0, none⟩ _ x rfl (by simp) hi3 (by simp; omega) ?_)
          intro v' w4 hown4 hg4
          have HO4 : Hid (w4.ownsRow w.heap.size 9 1 v' (pickJ l h n (j + 1)).length ((pickJ l h n (j + 1)).map .string)) := by unfold Hid; rw [HN.out]; simpa using hown4
          have HB4 : Hid (Below w.heap.size w w4) := (HB.out.alloc hsO _).grown hg4 (by simp; omega) (fun k hk => (hown.lt k hk).1)
          clear hown hown4 hg4 HN HT HB
          go_wp2_with fail
          go_roundw
          case rel => exact ⟨j + 1, by omega, by go_num, HO4, HB4⟩
          case measure => simp [intOf]; omega
      · have hd : decide ((out.length : Int) < n) = false := by simpa using hn
        have HN : Hid (pickJ l h n (j + 1) = out) := by unfold Hid; rw [HP0.out, if_neg (fun e => hn e.1)]
        clear HP0 hn HT
        go_wp2_with fail
        go_roundw
        case rel => exact ⟨j + 1, by omega, by go_num, by rw [HN.out]; exact hown, HB⟩
        case measure => simp [intOf]; omega
    · obtain rfl : j = l.length := by omega
      go_wp2_with fail
      go_ret
      exact ⟨_, rfl, StrsN.of_owns HO.out, HB.out⟩
set_option maxRecDepth 20000 in
set_option maxHeartbeats 2000000 in
theorem mend_none (w : World) (va vh : Value) (l : List ByteArray) (h : List Bool) (k : Nat) (ha : StrsB w va l) (hb : BoolB w vh h) (hl : l.length = h.length) (hk0 : 0 < k) (hk : k ≤ 16) (hp0 : k < l.length) (hp : l.length ≤ k + 16) (hfew : (pickJ l h l.length l.length).length < k) :
    Calls Try.prog 27 #[va, vh, .int .i64 k] w fun e w' => e = .returned (.tuple #[.slice none 0 0, .int .i64 5]) ∧ Below w.heap.size w w' := by
  have HK : Hid (∀ w, Calls Try.prog 49 #[.int .i64 k] w fun e w' => e = .returned (.bool true) ∧ w = w') := fun w => by
    have h := pfew_any k w; rwa [show fewN k = true by unfold fewN; simp; omega] at h
  have HP : Hid (∀ w, Calls Try.prog 49 #[.int .i64 ((l.length : Int) - (k : Int))] w fun e w' => e = .returned (.bool true) ∧ w = w') := fun w => by
    have h := pfew_any ((l.length : Int) - (k : Int)) w; rwa [show fewN ((l.length : Int) - (k : Int)) = true by unfold fewN; simp; omega] at h
  have hbl : Below w.heap.size w (w.alloc (.cells #[vh] 37)) := (Below.refl _ _).alloc (Nat.le_refl _) _
  have HQ := Lib.hid (picked_any (w.alloc (.cells #[vh] 37)) va vh l h l.length w.heap.size (ha.below hbl (Nat.le_refl _)) (by simp) (hb.below hbl (Nat.le_refl _)) hl (by omega) (by simp))
  have HBL := Lib.hid hbl
  have hne : ((h.length : Int) != (l.length : Int)) = false := by rw [bne_eq_false_iff_eq]; omega
  obtain ⟨A, c, rfl, h1, h2⟩ := ha.len
  obtain ⟨A2, c2, rfl, h3, h4⟩ := hb.len
  clear ha hb h1 h2 h3 h4 hbl hl
  have hd : decide (((pickJ l h l.length l.length).length : Int) < (k : Int)) = true := by simp; omega
  generalize pickJ l h l.length l.length = out at *
  go_enter Try.func27, Try.ntmps27
  go_wp2_with fail
  refine (HK.out _).mono ?_
  rintro e w' ⟨rfl, rfl⟩
  go_wp2_with fail
  refine (HP.out _).mono ?_
  rintro e w' ⟨rfl, rfl⟩
  go_wp2_with fail
  refine HQ.out.mono ?_
  rintro e w1 ⟨v1, rfl, s1, b1⟩
  obtain ⟨A3, c3, rfl, h5, h6⟩ := s1.1.len
  have HW : Hid (Below w.heap.size w w1) := HBL.out.trans (b1.mono (by simp))
  clear s1 b1 h5 h6 HQ HBL hne
  go_wp2_with fail
  go_ret2
  exact ⟨rfl, HW.out⟩
end Go.Proofs.Ytdgnhnhmcobfkaa
