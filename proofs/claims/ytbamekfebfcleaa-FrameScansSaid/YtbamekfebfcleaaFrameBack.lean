/- The statements of chapter 3 (frame): FrameBack. -/
import Derived.Test.YtbamekfebfcleaaFrame
import Derived.Test.YtbamekfebfcleaaFrameLaws
namespace Go.Proofs.Ytbamekfebfcleaa
open Go.RowKit
set_option linter.unusedVariables false
def fFlat (l : List ByteArray) : List UInt8 := (l.map (·.data.toList)).flatMap fWrap
theorem fFlat_snoc (l : List ByteArray) (t : ByteArray) : fFlat (l ++ [t]) = fFlat l ++ fWrap t.data.toList := by simp [fFlat]
theorem mk_data (t : ByteArray) : (⟨t.data.toList.toArray⟩ : ByteArray) = t := by apply ByteArray.ext; simp
theorem fWrap_size (t : ByteArray) (h : t.size ≤ 65536) : (⟨(fWrap t.data.toList).toArray⟩ : ByteArray).size ≤ t.size + 14 ∧ 1 ≤ (⟨(fWrap t.data.toList).toArray⟩ : ByteArray).size := by
  have h1 := fWrap_len t.data.toList (by simpa using h)
  have h2 := vPut_len10 t.data.toList.length (by simp; omega)
  have h3 : (⟨(fWrap t.data.toList).toArray⟩ : ByteArray).size = (fWrap t.data.toList).length := rfl
  have h4 : t.data.toList.length = t.size := by simp
  omega
theorem open_cat (t s : ByteArray) (ht : t.size ≤ 1000) (hs : s.size ≤ 1000000) (w : World) :
    Calls Try.prog 39 #[.string (⟨(fWrap t.data.toList).toArray⟩ ++ s)] w fun e w' => e = .returned (.tuple #[.string t, .int .i64 ((⟨(fWrap t.data.toList).toArray⟩ : ByteArray).size : Nat), .int .i64 0]) ∧ Below w.heap.size w w' := by
  have hz := fWrap_size t (by omega)
  have h := open_any (⟨(fWrap t.data.toList).toArray⟩ ++ s) (by rw [ByteArray.size_append]; omega) w
  have e : (⟨(fWrap t.data.toList).toArray⟩ ++ s : ByteArray).data.toList = fWrap t.data.toList ++ s.data.toList := by simp
  rw [e, fOpen_wrap _ _ (by simp; omega)] at h
  simp only [mk_data] at h
  exact h
/-- frames and a part of one, told -/
theorem fPairs_flat (l : List ByteArray) (h : ∀ t ∈ l, t.size ≤ 1000) (s : List UInt8) (hs : fAll s = []) : fTexts (fPairs (fFlat l ++ s)) = l ∧ fEnd (fPairs (fFlat l ++ s)) = (fFlat l).length := by
  rw [fPairs_texts, fPairs_end, fFlat, fAll_wraps _ _ (by intro t ht; simp at ht; obtain ⟨a, ha, rfl⟩ := ht; have := h a ha; simp; omega), hs, List.append_nil, fSum_wraps]
  refine ⟨?_, rfl⟩
  rw [List.map_map, List.map_map]
  conv => rhs; rw [← List.map_id l]
  apply List.map_congr_left
  intro a _
  exact mk_data a
theorem fAll_part (s : ByteArray) (h : s.size ≤ 1000) (k : Nat) (hk : k < (⟨(fWrap s.data.toList).toArray⟩ : ByteArray).size) : fAll ((fWrap s.data.toList).take k) = [] :=
  fAll_err _ (fOpen_part s.data.toList (by simp; omega) k hk).1
set_option maxRecDepth 20000 in
set_option maxHeartbeats 4000000 in
theorem frameBack_ok (W : World) (A0 : Option Addr) (n0 c0 : Nat) (x0 : List ByteArray) (w0 : Sl W A0 n0 c0 1 (x0.flatMap EStr) ∧ x0.length = n0 ∧ (A0 = none → c0 = 0) ∧ ∀ y ∈ x0, y.size ≤ maxLen) (x1 : ByteArray) (w1 : x1.size ≤ 140737488351232) (x2 : UInt16) :
    Calls Try.prog 15 #[.slice A0 n0 c0, .string x1, .int .u16 x2.toNat] W fun e w' => e = .returned (.bool true) ∧ Below W.heap.size W w' := by
  obtain ⟨hsl, hn, _, _⟩ := w0
  have HS0 := Lib.hid (StrsB.of_sl hsl hn)
  clear hsl
  have hx2 := x2.toNat_lt
  generalize x2.toNat = cut at *
  by_cases g0 : 20 < n0
  · clear hn
    go_enter Try.func15, Try.ntmps15
    go_wp2_with fail
    refine (frameAwake_any _).mono ?_
    rintro e w1 ⟨rfl, b1⟩
    go_wp2
    go_ret
    exact ⟨rfl, b1⟩
  by_cases g1 : 1000 < x1.size
  · clear hn
    go_enter Try.func15, Try.ntmps15
    go_wp2_with fail
    refine (frameAwake_any _).mono ?_
    rintro e w1 ⟨rfl, b1⟩
    go_wp2
    go_ret
    exact ⟨rfl, b1⟩
  obtain rfl : n0 = x0.length := hn.symm
  clear hn
  go_enter Try.func15, Try.ntmps15
  go_wp2_with fail
  go_loopw [7, 28] (fun a i wr => ∃ (k : Nat) (S : ByteArray), k ≤ x0.length ∧ i = .int .i64 k ∧ a = .string S ∧ Hid (S.data.toList = fFlat (x0.take k)) ∧ S.size ≤ k * 1014 ∧ Hid (∀ t ∈ x0.take k, t.size ≤ 1000) ∧ Hid (Below W.heap.size W wr)) (fun _ i _ => x0.length - (intOf i).toNat)
  case atStart => exact ⟨0, ⟨#[]⟩, Nat.zero_le _, rfl, rfl, rfl, by decide, by intro t ht; simp at ht, Below.refl _ _⟩
  case round =>
    obtain ⟨k, S, hk, rfl, rfl, HS, hSz, HL, HW⟩ := hrel
    by_cases hlt : k < x0.length
    · obtain ⟨b, off, c, hA, hc1, hc2, hblt, hcell⟩ := HS0.out.at (by omega)
      cases hA
      have e1 : wr.cell? ⟨b, off + k, none⟩ = some (.string x0[k]) := (HW.out.cell (p := ⟨b, off + k, none⟩) hblt).trans (hcell k hlt)
      have HT := Lib.hid (take_succ_list x0 k hlt)
      clear hcell hc1 hc2
      generalize x0[k] = t at *
      by_cases ht : 1000 < t.size
      · go_wp2_with fail
        refine (frameAwake_any _).mono ?_
        rintro e w1 ⟨rfl, b1⟩
        go_wp2
        go_ret
        exact ⟨rfl, below_then HW.out b1⟩
      · have a1 := fun w => wrap_any t (by omega) w
        have a2 := fun w => open_cat t x1 (by omega) (by omega) w
        have hz := fWrap_size t (by omega)
        have HN : Hid ((S ++ ⟨(fWrap t.data.toList).toArray⟩ : ByteArray).data.toList = fFlat (x0.take (k + 1))) := by
          unfold Hid; rw [HT.out, fFlat_snoc, ← HS.out]; simp
        have HL2 : Hid (∀ u ∈ x0.take (k + 1), u.size ≤ 1000) := by
          unfold Hid; rw [HT.out]; intro u hu; simp at hu; rcases hu with hu | rfl
          · exact HL.out u hu
          · omega
        generalize (⟨(fWrap t.data.toList).toArray⟩ : ByteArray) = F at *
        have hbeq := str_beq_self t
        have A1 := Lib.hid a1; clear a1
        have A2 := Lib.hid a2; clear a2
        obtain ⟨hz1, hz2⟩ := hz
        go_wp2_with fail
        refine (A1.out _).mono ?_
        rintro e w1 ⟨rfl, b1⟩
        go_wp2_with fail
        refine (A2.out _).mono ?_
        rintro e w2 ⟨rfl, b2⟩
        have HW2 := Lib.hid (below_then (below_then HW.out b1) b2)
        clear b1 b2
        go_wp2
        go_roundw
        case rel => exact ⟨k + 1, _, by omega, by go_num, rfl, HN, by rw [ByteArray.size_append]; omega, HL2, HW2⟩
        case measure => simp [intOf]; omega
    · obtain rfl : k = x0.length := by omega
      have a1 := fun w => wrap_any x1 (by omega) w
      have hz := fWrap_size x1 (by omega)
      have hm : cut % (⟨(fWrap x1.data.toList).toArray⟩ : ByteArray).size < (⟨(fWrap x1.data.toList).toArray⟩ : ByteArray).size := Nat.mod_lt _ (by omega)
      have hfl := HL.out
      rw [List.take_length] at hfl
      obtain ⟨p1, p2⟩ := fPairs_flat x0 hfl _ (fAll_part x1 (by omega) _ hm)
      have hSd := HS.out
      rw [List.take_length] at hSd
      rw [← hSd] at p1 p2
      have hcat : (S ++ (⟨(fWrap x1.data.toList).toArray⟩ : ByteArray).extract 0 (cut % (⟨(fWrap x1.data.toList).toArray⟩ : ByteArray).size)).data.toList = S.data.toList ++ (fWrap x1.data.toList).take (cut % (⟨(fWrap x1.data.toList).toArray⟩ : ByteArray).size) := by
        rw [toList_append, Lib.extract_data]; simp
      have a2 := fun w => scan_any (S ++ (⟨(fWrap x1.data.toList).toArray⟩ : ByteArray).extract 0 (cut % (⟨(fWrap x1.data.toList).toArray⟩ : ByteArray).size)) (by rw [ByteArray.size_append, ByteArray.size_extract]; omega) w
      have hpl : (fPairs (S.data.toList ++ (fWrap x1.data.toList).take (cut % (⟨(fWrap x1.data.toList).toArray⟩ : ByteArray).size))).length = x0.length := by
        rw [← p1]; simp [fTexts]
      rw [hcat, p1, p2, hpl] at a2
      have hsz : S.data.toList.length = S.size := by simp
      rw [hsz] at a2
      have hemp : (⟨(fWrap x1.data.toList).toArray⟩ : ByteArray).toList = [] ↔ False := by
        rw [iff_false, ByteArray.toList_eq]; intro h
        have h' : fWrap x1.data.toList = [] := by simpa using h
        rw [h'] at hz
        exact absurd hz.2 (by decide)
      have hemp1 : (⟨(fWrap x1.data.toList).toArray⟩ : ByteArray).toList.isEmpty = false := by
        rw [List.isEmpty_eq_false_iff]; exact hemp.1
      clear p1 p2 hcat hpl hfl hSd hsz hemp
      obtain ⟨hz1, hz2⟩ := hz
      generalize (⟨(fWrap x1.data.toList).toArray⟩ : ByteArray) = F at *
      have A1 := Lib.hid a1; clear a1
      have A2 := Lib.hid a2; clear a2
      have hF0 : (F.size : Int) ≠ 0 := by omega
      have hF1 : 1 ≤ (F.size : Int) := by omega
      have hF2 : (F.size : Int) ≤ 2000 := by omega
      have hr0 : (0 : Int) ≤ (cut : Int) % (F.size : Int) := Int.emod_nonneg _ hF0
      have hr1 : (cut : Int) % (F.size : Int) ≤ (F.size : Int) := Int.le_of_lt (Int.emod_lt_of_pos _ (by omega))
      have hr2 : ((cut : Int) % (F.size : Int)).toNat = cut % F.size := by rw [← Int.natCast_emod]; exact Int.toNat_natCast _
      go_wp2_with fail
      refine (A1.out _).mono ?_
      rintro e w1 ⟨rfl, b1⟩
      have HW1 := Lib.hid (below_then HW.out b1); clear b1
      go_wp2_with fail
      refine (A2.out _).mono ?_
      rintro e w2 ⟨v, rfl, hown, b2⟩
      have HS2 := Lib.hid (StrsB.of_owns hown); clear hown
      have HS3 := Lib.hid ((HS0.out.below HW1.out (Nat.le_refl _)).below b2 (Nat.le_refl _))
      have HW2 := Lib.hid (below_then HW1.out b2); clear b2
      go_wp2_with fail
      refine (same_any _ _ _ x0 x0 HS2.out ?_).mono ?_
      · exact HS3.out
      rintro e w7 ⟨rfl, nq, rfl⟩
      rw [sameB_self]
      go_wp2_with fail
      refine (frameAwake_any _).mono ?_
      rintro e w8 ⟨rfl, b8⟩
      go_wp2
      go_ret
      exact ⟨rfl, below_then (Below.drewN HW2.out _) b8⟩
end Go.Proofs.Ytbamekfebfcleaa
