/- Walks: chapter 33's document: Make. -/
import Derived.Test.YtlkpgefapcfdbaaDeltaR4
namespace Go.Proofs.Ytlkpgefapcfdbaa
open Go.RowKit
set_option linter.unusedVariables false
set_option linter.unusedSimpArgs false
theorem mkP_lit (base : List UInt8) (f : Nat) (c : UInt8) (s inn : List UInt8) (h : (bestD base (c :: s)).1 = 0) : mkP base (f + 1) (c :: s) inn = mkP base f s (inn ++ [c]) := by rw [mkP, if_pos h]
theorem mkP_cop (base : List UInt8) (f : Nat) (c : UInt8) (s inn : List UInt8) (h : (bestD base (c :: s)).1 ≠ 0) : mkP base (f + 1) (c :: s) inn = flushP inn ++ Part.cop (bestD base (c :: s)).1 (bestD base (c :: s)).2 :: mkP base f ((c :: s).drop (bestD base (c :: s)).1) [] := by rw [mkP, if_neg h]
theorem mkP_end (base : List UInt8) (f : Nat) (inn : List UInt8) : mkP base f [] inn = flushP inn := by cases f <;> rfl
theorem flushB_len (s : List UInt8) (h : s.length ≤ 1000000) : (flushB s).length ≤ 10 + s.length := by
  unfold flushB flushP
  split
  · simp
  · have := vPut_len10 (2 * s.length) (by omega)
    simp only [List.flatMap_cons, List.flatMap_nil, List.append_nil, encP, List.length_append]
    omega
theorem one_list (s : ByteArray) (i : Nat) (h : i < s.size) : (s.extract i (i + 1)).data.toList = [s[i]] := by
  rw [mid_list, drop_consB s i h]
  simp
set_option maxHeartbeats 4000000 in
theorem refMake_any (b t : ByteArray) (hb : b.size ≤ 1000000) (ht : t.size ≤ 1000000) (w : World) :
    Calls Try.prog 9 #[.string b, .string t] w fun e w' => e = .returned (.string ⟨(mkD b.data.toList t.data.toList).toArray⟩) ∧ Below w.heap.size w w' := by
  have hbl : b.data.toList.length = b.size := by simp
  have htl : t.data.toList.length = t.size := by simp
  have HPB := Lib.hid (fun w => refNum_any b.size (by omega) w)
  have HPT := Lib.hid (fun w => refNum_any t.size (by omega) w)
  have HS := Lib.hid (fun w => refCrcSum_any t w (by unfold maxLen; omega))
  have HC := Lib.hid (fun w => refCrcBytes_any (crcMore 0 t.data.toList) w)
  have HM : Hid (mkD b.data.toList t.data.toList = ((⟨(vPut b.size).toArray⟩ : ByteArray) ++ ⟨(vPut t.size).toArray⟩ ++ ⟨(crcBytes (crcMore 0 t.data.toList)).toArray⟩).data.toList ++ (mkP b.data.toList t.size t.data.toList []).flatMap encP) := by
    unfold Hid mkD
    rw [hbl, htl]
    simp
  have hl1 : (⟨(vPut b.size).toArray⟩ : ByteArray).size ≤ 10 := vPut_len10 _ (by omega)
  have hl2 : (⟨(vPut t.size).toArray⟩ : ByteArray).size ≤ 10 := vPut_len10 _ (by omega)
  have hl3 : (⟨(crcBytes (crcMore 0 t.data.toList)).toArray⟩ : ByteArray).size ≤ 10 := by rw [show (⟨(crcBytes (crcMore 0 t.data.toList)).toArray⟩ : ByteArray).size = (crcBytes (crcMore 0 t.data.toList)).length from List.size_toArray]; simp [crcBytes]
  clear hbl htl
  generalize mkD b.data.toList t.data.toList = M at *
  generalize crcMore 0 t.data.toList = c at *
  generalize (⟨(vPut b.size).toArray⟩ : ByteArray) = pb at *
  generalize (⟨(vPut t.size).toArray⟩ : ByteArray) = pt at *
  generalize (⟨(crcBytes c).toArray⟩ : ByteArray) = pc at *
  go_enter Try.func9, Try.ntmps9
  go_wp2_with fail
  refine (HPB.out _).mono ?_
  rintro e w1 ⟨rfl, b1⟩
  have B1 := Lib.hid b1; clear b1
  go_wp2_with fail
  refine (HPT.out _).mono ?_
  rintro e w2 ⟨rfl, b2⟩
  have B2 := Lib.hid (B1.out.trans (b2.mono B1.out.size)); clear b2 B1
  go_wp2_with fail
  refine (HS.out _).mono ?_
  rintro e w3 ⟨rfl, rfl⟩
  go_wp2_with fail
  refine (HC.out _).mono ?_
  rintro e w3 ⟨rfl, b3⟩
  have B3 := Lib.hid (B2.out.trans (b3.mono B2.out.size)); clear b3 B2
  go_wp2_with fail
  go_loopw [5, 6, 7] (fun v5 v6 v7 wr => ∃ (o n : ByteArray) (i f : Nat), v5 = .string o ∧ v6 = .string n ∧ v7 = .int .i64 (i : Nat) ∧ (i ≤ t.size ∧ n.size ≤ i ∧ t.size ≤ f + i ∧ o.size + n.size ≤ 100 + 4 * i) ∧ Hid (M = o.data.toList ++ (mkP b.data.toList f (t.data.toList.drop i) n.data.toList).flatMap encP) ∧ Hid (Below w.heap.size w wr)) (fun _ _ v7 _ => t.size - (intOf v7).toNat)
  case atStart => exact ⟨pb ++ pt ++ pc, ⟨#[]⟩, 0, t.size, rfl, rfl, rfl, ⟨Nat.zero_le _, Nat.zero_le _, by omega, by rw [ByteArray.size_append, ByteArray.size_append]; show _ + 0 ≤ _; omega⟩, HM, B3⟩
  case round =>
    clear HPB HPT HS HC HM B3 hl1 hl2 hl3
    obtain ⟨o, n, i, f, rfl, rfl, rfl, ⟨h1, h2, h3, h4⟩, HM, HB⟩ := hrel
    by_cases hit : i < t.size
    · have HBE := Lib.hid (fun w => refBest_any b t i hb ht (by omega) w)
      have hcons := drop_consB t i hit
      obtain ⟨f, rfl⟩ : ∃ g, f = g + 1 := ⟨f - 1, by omega⟩
      by_cases h0 : (bestD b.data.toList (t.data.toList.drop i)).1 = 0
      · have HM2 : Hid (M = o.data.toList ++ (mkP b.data.toList f (t.data.toList.drop (i + 1)) (n ++ t.extract i (i + 1)).data.toList).flatMap encP) := by
          unfold Hid
          rw [hcons] at h0
          rw [HM.out, hcons, mkP_lit _ _ _ _ _ h0, show (n ++ t.extract i (i + 1)).data.toList = n.data.toList ++ (t.extract i (i + 1)).data.toList by simp, one_list t i hit]
        clear hcons HM
        rw [h0] at HBE
        generalize (bestD b.data.toList (t.data.toList.drop i)).2 = z at *
        have hsz : (t.extract i (i + 1)).size = 1 := by rw [ByteArray.size_extract]; omega
        go_wp2_with fail
        refine (HBE.out _).mono ?_
        rintro e w4 ⟨rfl, b4⟩
        have B4 := Lib.hid (HB.out.trans (b4.mono HB.out.size)); clear b4 HB
        go_wp2_with fail
        exact ⟨⟨o, n ++ t.extract i (i + 1), i + 1, f, rfl, rfl, by go_num, ⟨by omega, by rw [ByteArray.size_append]; omega, by omega, by rw [ByteArray.size_append]; omega⟩, HM2, B4⟩, by simp [intOf]; omega⟩
      · obtain ⟨q1, q2, q3, q4⟩ := bestD_ok _ _ h0
        have hbl : b.data.toList.length = b.size := by simp
        rw [List.length_drop, show t.data.toList.length = t.size by simp] at q2
        rw [hbl] at q3
        clear q4
        have HF := Lib.hid (fun w => refBytes_any n (by omega) w)
        have HP1 := Lib.hid (fun w => refNum_any (2 * (bestD b.data.toList (t.data.toList.drop i)).1 + 1) (by omega) w)
        have HP2 := Lib.hid (fun w => refNum_any (bestD b.data.toList (t.data.toList.drop i)).2 (by omega) w)
        have hlf : (⟨(flushB n.data.toList).toArray⟩ : ByteArray).size ≤ 10 + n.size := by
          rw [show (⟨(flushB n.data.toList).toArray⟩ : ByteArray).size = (flushB n.data.toList).length from List.size_toArray]
          have := flushB_len n.data.toList (by simp; omega)
          simpa using this
        have hlp1 : (⟨(vPut (2 * (bestD b.data.toList (t.data.toList.drop i)).1 + 1)).toArray⟩ : ByteArray).size ≤ 10 := vPut_len10 _ (by omega)
        have hlp2 : (⟨(vPut (bestD b.data.toList (t.data.toList.drop i)).2).toArray⟩ : ByteArray).size ≤ 10 := vPut_len10 _ (by omega)
        have HM2 : Hid (M = (o ++ ⟨(flushB n.data.toList).toArray⟩ ++ ⟨(vPut (2 * (bestD b.data.toList (t.data.toList.drop i)).1 + 1)).toArray⟩ ++ ⟨(vPut (bestD b.data.toList (t.data.toList.drop i)).2).toArray⟩).data.toList ++ (mkP b.data.toList f (t.data.toList.drop (i + (bestD b.data.toList (t.data.toList.drop i)).1)) (⟨#[]⟩ : ByteArray).data.toList).flatMap encP) := by
          unfold Hid
          rw [← List.drop_drop, HM.out]
          rw [hcons] at h0 ⊢
          rw [mkP_cop _ _ _ _ _ h0]
          simp [flushB, encP]
        clear hcons HM hbl
        generalize (⟨(flushB n.data.toList).toArray⟩ : ByteArray) = pf at *
        generalize bestD b.data.toList (t.data.toList.drop i) = r at *
        obtain ⟨r1, r2⟩ := r
        dsimp only at *
        have h0' : ¬ ((r1 : Int) = 0) := by omega
        have e1 : ((2 * r1 + 1 : Nat) : Int) = 2 * (r1 : Int) + 1 := by omega
        rw [e1] at HP1
        clear e1 h0
        generalize (⟨(vPut (2 * r1 + 1)).toArray⟩ : ByteArray) = p1 at *
        generalize (⟨(vPut r2).toArray⟩ : ByteArray) = p2 at *
        go_wp2_with fail
        refine (HBE.out _).mono ?_
        rintro e w4 ⟨rfl, b4⟩
        have B4 := Lib.hid (HB.out.trans (b4.mono HB.out.size)); clear b4 HB
        go_wp2_with fail
        refine (HF.out _).mono ?_
        rintro e w5 ⟨rfl, b5⟩
        have B5 := Lib.hid (B4.out.trans (b5.mono B4.out.size)); clear b5 B4
        go_wp2_with fail
        refine (HP1.out _).mono ?_
        rintro e w6 ⟨rfl, b6⟩
        have B6 := Lib.hid (B5.out.trans (b6.mono B5.out.size)); clear b6 B5
        go_wp2_with fail
        refine (HP2.out _).mono ?_
        rintro e w7 ⟨rfl, b7⟩
        have B7 := Lib.hid (B6.out.trans (b7.mono B6.out.size)); clear b7 B6
        go_wp2_with fail
        exact ⟨⟨o ++ pf ++ p1 ++ p2, ⟨#[]⟩, i + r1, f, rfl, rfl, by go_num, ⟨by omega, Nat.zero_le _, by omega, by rw [ByteArray.size_append, ByteArray.size_append, ByteArray.size_append]; show _ + 0 ≤ _; omega⟩, HM2, B7⟩, by simp [intOf]; omega⟩
    · have hit' : (t.size : Int) ≤ (i : Int) := by omega
      have HF := Lib.hid (fun w => refBytes_any n (by omega) w)
      have hlf : (⟨(flushB n.data.toList).toArray⟩ : ByteArray).size ≤ 10 + n.size := by
        rw [show (⟨(flushB n.data.toList).toArray⟩ : ByteArray).size = (flushB n.data.toList).length from List.size_toArray]
        have := flushB_len n.data.toList (by simp; omega)
        simpa using this
      have HE : Hid ((⟨M.toArray⟩ : ByteArray) = o ++ ⟨(flushB n.data.toList).toArray⟩) := by
        unfold Hid
        rw [HM.out, List.drop_eq_nil_of_le (by simp; omega), mkP_end]
        apply ByteArray.ext
        simp [flushB]
      generalize (⟨(flushB n.data.toList).toArray⟩ : ByteArray) = pf at *
      clear HM
      go_wp2_with fail
      refine (HF.out _).mono ?_
      rintro e w5 ⟨rfl, b5⟩
      have B5 := Lib.hid (HB.out.trans (b5.mono HB.out.size)); clear b5 HB
      go_wp2_with fail
      go_ret
      rw [HE.out]
      exact ⟨rfl, B5.out⟩
end Go.Proofs.Ytlkpgefapcfdbaa
