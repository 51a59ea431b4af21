/- The statements of chapter 3 (frame): FrameTorn. -/
import Derived.Test.YtbamekfebfcleaaFrameBack
import Derived.Lib.ConvBytes
namespace Go.Proofs.Ytbamekfebfcleaa
open Go.RowKit
set_option linter.unusedVariables false
theorem crcBytes_inj {c d : UInt32} (h : crcBytes c = crcBytes d) : c = d := by
  unfold crcBytes at h
  simp only [List.cons.injEq, and_true] at h
  obtain ⟨h0, h1, h2, h3⟩ := h
  rw [← join4 c, ← join4 d, h0, h1, h2, h3]
theorem crcB_byte (x : UInt32) (a c : UInt8) (h : crcB x a = crcB x c) : a = c := by
  have e : crcB (x ^^^ x) (a ^^^ c) = 0 := by rw [crcB_xor, h]; simp
  rw [UInt32.xor_self] at e
  have e2 := crcN_zero _ _ e
  rw [UInt32.zero_xor] at e2
  apply xor_eq_zero8
  apply UInt8.toNat_inj.1
  have := congrArg UInt32.toNat e2
  simpa using this
theorem crc_set (l : List UInt8) (i : Nat) (hi : i < l.length) (c : UInt8) (h : crcMore 0 (l.set i c) = crcMore 0 l) : c = l[i] := by
  have h := not_inj32 h
  have e : l = l.take i ++ l[i] :: l.drop (i + 1) := by rw [← List.drop_eq_getElem_cons hi, List.take_append_drop]
  have e2 : l.set i c = l.take i ++ c :: l.drop (i + 1) := List.set_eq_take_append_cons_drop .. |>.trans (by rw [if_pos hi])
  rw [e2] at h
  conv at h => rhs; rw [e]
  rw [crcFold_append, crcFold_append] at h
  exact crcB_byte _ _ _ (crcFold_inj (l.drop (i + 1)) _ _ h)
theorem fOpen_torn (s : List UInt8) (h : s.length ≤ 65536) (i : Nat) (h1 : (vPut s.length).length ≤ i) (h2 : i < (fWrap s).length) (c : UInt8) (hc : c ≠ (fWrap s)[i]) : fOpen ((fWrap s).set i c) = ([], 0, 3) := by
  have hl := fWrap_len s h
  have e := fWrap_eq s h
  rw [vPutText_eq s h] at e
  by_cases hi : i < (vPut s.length ++ s).length
  · have e2 : (fWrap s).set i c = (vPut s.length ++ s.set (i - (vPut s.length).length) c) ++ crcBytes (crcMore 0 (vPut s.length ++ s)) := by
      rw [e, List.set_append_left _ _ hi, List.set_append_right _ _ h1]
    have hs' : (s.set (i - (vPut s.length).length) c).length = s.length := by simp
    have e3 : vPutText (s.set (i - (vPut s.length).length) c) = vPut s.length ++ s.set (i - (vPut s.length).length) c := by rw [vPutText_eq _ (by omega), hs']
    have ht := vTakeText_put (s.set (i - (vPut s.length).length) c) (crcBytes (crcMore 0 (vPut s.length ++ s))) (by omega)
    rw [e2, ← e3]
    unfold fOpen
    rw [ht]
    dsimp only
    rw [if_neg (by simp), if_neg (by simp [crcBytes_len]), if_pos ?_]
    rw [List.take_left, List.drop_left, List.take_of_length_le (by rw [crcBytes_len]; omega)]
    intro hq
    apply hc
    have hq := crcBytes_inj hq
    rw [e3, ← List.set_append_right _ _ h1] at hq
    rw [crc_set _ i hi c hq]
    conv => rhs; arg 1; rw [e]
    rw [List.getElem_append_left hi]
  · have hi : (vPut s.length ++ s).length ≤ i := by omega
    have e2 : (fWrap s).set i c = vPutText s ++ (crcBytes (crcMore 0 (vPut s.length ++ s))).set (i - (vPut s.length ++ s).length) c := by
      rw [e, List.set_append_right _ _ hi, vPutText_eq s h]
    have ht := vTakeText_put s ((crcBytes (crcMore 0 (vPut s.length ++ s))).set (i - (vPut s.length ++ s).length) c) h
    rw [e2]
    unfold fOpen
    rw [ht]
    dsimp only
    rw [if_neg (by simp), if_neg (by simp [crcBytes_len]), if_pos ?_]
    rw [List.take_left, List.drop_left, List.take_of_length_le (by rw [List.length_set, crcBytes_len]; omega), vPutText_eq s h]
    intro hq
    apply hc
    have hlt : i - (vPut s.length ++ s).length < (crcBytes (crcMore 0 (vPut s.length ++ s))).length := by rw [crcBytes_len, List.length_append]; omega
    have hg : (crcBytes (crcMore 0 (vPut s.length ++ s)))[i - (vPut s.length ++ s).length] = c := by
      have : ((crcBytes (crcMore 0 (vPut s.length ++ s))).set (i - (vPut s.length ++ s).length) c)[i - (vPut s.length ++ s).length]'(by rw [List.length_set]; exact hlt) = c := List.getElem_set_self _
      rw [← this]
      congr 1
    rw [← hg]
    have : (fWrap s)[i] = (vPut s.length ++ s ++ crcBytes (crcMore 0 (vPut s.length ++ s)))[i]'(by rw [← e]; exact h2) := by congr 1
    rw [this, List.getElem_append_right hi]
/-- '[]byte(s)' -/
theorem bytes_of (w : World) (s : ByteArray) : ∃ (W2 : World) (cap : Nat), (convert 9 28 (.string s)).run Try.prog w = .ok (.slice (some ⟨w.heap.size, 0, none⟩) s.size cap) W2 ∧
    (∀ j (hj : j < s.data.toList.length), W2.cell? ⟨w.heap.size, j, none⟩ = some (.int .u8 (s.data.toList[j]).toNat)) ∧ (∀ j, j < s.size → W2.frozen? ⟨w.heap.size, j, none⟩ = false) ∧ Below w.heap.size w W2 ∧ s.size ≤ cap ∧ W2.heap.size = w.heap.size + 1 := by
  refine ⟨_, _, Lib.run_convert_string_bytes w _ _ 5 s Try.underlying9 Try.underlying28 Try.underlying5, ?_, ?_, ?_, ?_, Lib.bytesWorld_size _ _ _⟩
  · intro j hj
    rw [Lib.bytesWorld_cell _ _ _ _ (by simpa using hj)]
    have hj' : j < s.data.size := by simpa using hj
    simp only [List.getD_eq_getElem?_getD, List.getElem?_eq_getElem hj, Option.getD_some]
  · intro j hj
    have := Lib.bytesWorld_at_new w 5 s
    have hsz : s.size ≤ (Lib.bytesCells w 5 s).size := by simp [Lib.bytesCells]
    simp only [World.frozen?, this]
    simp
    omega
  · exact ⟨rfl, rfl, rfl, by rw [Lib.bytesWorld_size]; omega, fun i hi => Lib.bytesWorld_at_old _ _ _ _ hi⟩
  · exact grownCap_ge _ _ _ _
set_option maxRecDepth 20000 in
set_option maxHeartbeats 4000000 in
theorem frameTorn_ok (W : World) (x0 : ByteArray) (w0 : x0.size ≤ 140737488351232) (x1 : UInt16) (x2 : UInt8) :
    Calls Try.prog 16 #[.string x0, .int .u16 x1.toNat, .int .u8 x2.toNat] W fun e w' => e = .returned (.bool true) ∧ Below W.heap.size W w' := by
  by_cases g1 : 1000 < x0.size
  · go_enter Try.func16, Try.ntmps16
    go_wp2_with fail
    refine (frameAwake_any _).mono ?_
    rintro e w1 ⟨rfl, b1⟩
    go_wp2
    go_ret
    exact ⟨rfl, b1⟩
  have hx1 := x1.toNat_lt
  generalize x1.toNat = cut at *
  have a1 := fun w => wrap_any x0 (by omega) w
  have hl := fWrap_len x0.data.toList (by simp; omega)
  have hh1 := vPut_pos x0.data.toList.length
  have hh2 := vPut_len10 x0.data.toList.length (by simp; omega)
  have hsl : x0.data.toList.length = x0.size := by simp
  have torn := fOpen_torn x0.data.toList (by simp; omega)
  have part := fOpen_part x0.data.toList (by simp; omega)
  have whole := fOpen_wrap x0.data.toList [] (by simp; omega)
  rw [List.append_nil] at whole
  have hFl : (⟨(fWrap x0.data.toList).toArray⟩ : ByteArray).size = (fWrap x0.data.toList).length := rfl
  have hFd : (⟨(fWrap x0.data.toList).toArray⟩ : ByteArray).data.toList = fWrap x0.data.toList := rfl
  generalize (⟨(fWrap x0.data.toList).toArray⟩ : ByteArray) = F at *
  rw [← hFd] at torn part whole hl hFl
  clear hFl
  rw [hsl] at hl torn part hh1 hh2
  generalize (vPut x0.size).length = h at *
  have hFs : F.data.toList.length = F.size := by simp
  rw [hFs] at hl part whole
  obtain ⟨m, hm⟩ : ∃ m, m = F.size - h := ⟨_, rfl⟩
  have hm0 : 1 ≤ m := by omega
  obtain ⟨r, hr⟩ : ∃ r, r = cut % m := ⟨_, rfl⟩
  have hrm : r < m := by rw [hr]; exact Nat.mod_lt _ (by omega)
  have k1 : (F.size : Int) - (x0.size : Int) - 4 = (h : Int) := by omega
  have k2 : (F.size : Int) - (h : Int) = (m : Int) := by omega
  have k3 : (cut : Int) % (m : Int) = (r : Int) := by rw [hr]; exact (Int.natCast_emod _ _).symm
  have hi : h + r < F.data.toList.length := by omega
  have hi2 : h + r < F.size := by omega
  have hi3 : (h : Int) + (r : Int) < (F.size : Int) := by omega
  have hpart := (part (h + r) hi2).2 (by omega)
  have htorn := fun c hc => torn (h + r) (by omega) hi c hc
  have hF3 : F.size ≤ 2000 := by omega
  have hF4 : h + x0.size + 4 = F.size := by omega
  have ht0 : (F.extract 0 (h + r)).data.toList = F.data.toList.take (h + r) := by rw [Lib.extract_data]; simp
  have a3 := fun w => open_any (F.extract 0 (h + r)) (by simp; omega) w
  rw [ht0, hpart] at a3
  have HA3 := Lib.hid a3; clear a3
  have HA1 := Lib.hid a1; clear a1
  have HM := Lib.hid hm; clear hm
  have HR := Lib.hid hr; clear hr
  have HL := Lib.hid hl; clear hl
  have K1 := Lib.hid k1; clear k1
  clear torn part ht0 hpart hFd hsl
  go_enter Try.func16, Try.ntmps16
  go_wp2_with fail
  refine (HA1.out _).mono ?_
  rintro e w1 ⟨rfl, b1⟩
  have hmz : ((m : Int) = 0) = False := by simp; omega
  have k1 := K1.out
  obtain ⟨W2, cap, hconv, hcell, hfro, b2, hcap, hz2⟩ := bytes_of w1 F
  have e1 : W2.cell? ⟨w1.heap.size, h + r, none⟩ = some (.int .u8 (F.data.toList[h + r]).toNat) := hcell _ hi
  have e2 : W2.frozen? ⟨w1.heap.size, h + r, none⟩ = false := hfro _ hi2
  have e3 : bits .xor .u8 ((F.data.toList[h + r]).toNat : Int) (x2.toNat : Int) = ((F.data.toList[h + r] ^^^ x2).toNat : Int) := by
    rw [u8_xor _ _ (by omega) (by have := (F.data.toList[h + r]).toNat_lt; omega) (by omega) (by have := x2.toNat_lt; omega)]; simp
  have hcv : (convert 28 9 (.slice (some ⟨w1.heap.size, 0, none⟩) F.size cap)).run Try.prog (W2.setCell ⟨w1.heap.size, h + r, none⟩ (.int .u8 (F.data.toList[h + r] ^^^ x2).toNat)) = .ok (.string ⟨(F.data.toList.set (h + r) (F.data.toList[h + r] ^^^ x2)).toArray⟩) (W2.setCell ⟨w1.heap.size, h + r, none⟩ (.int .u8 (F.data.toList[h + r] ^^^ x2).toNat)) := by
    refine run_bytes_str _ _ _ 5 Try.underlying28 Try.underlying5 Try.underlying9 _ _ _ _ _ (by rw [List.length_set]; exact hFs) ?_
    intro j hj
    rw [Nat.zero_add]
    by_cases hjk : h + r = j
    · subst hjk
      rw [List.getElem_set_self]
      exact World.cell?_setCell_same _ _ _ e1
    · rw [List.getElem_set_ne hjk, World.cell?_setCell_other _ _ _ _ (by intro e; injection e with e e'; exact hjk e')]
      exact hcell j (by simpa using hj)
  have HBW : Hid (Below W.heap.size W (W2.setCell ⟨w1.heap.size, h + r, none⟩ (.int .u8 (F.data.toList[h + r] ^^^ x2).toNat))) := ((b1.trans (b2.mono b1.size)).setCell (p := ⟨w1.heap.size, h + r, none⟩) b1.size _)
  clear b1 b2 hcell hfro hz2 hcap
  have hxy : x2 ≠ 0 → F.data.toList[h + r] ^^^ x2 ≠ F.data.toList[h + r] := by
    intro hx e
    apply hx
    have := congrArg (F.data.toList[h + r] ^^^ ·) e
    simpa [← UInt8.xor_assoc] using this
  by_cases hx : x2 = 0
  · have hset : F.data.toList.set (h + r) (F.data.toList[h + r] ^^^ x2) = F.data.toList := by rw [hx, UInt8.xor_zero]; exact List.set_getElem_self hi
    have ho := fun w => open_any ⟨(F.data.toList.set (h + r) (F.data.toList[h + r] ^^^ x2)).toArray⟩ (by rw [hset, mk_data]; omega) w
    rw [show (⟨(F.data.toList.set (h + r) (F.data.toList[h + r] ^^^ x2)).toArray⟩ : ByteArray).data.toList = F.data.toList by rw [hset], whole] at ho
    have HO := Lib.hid ho; clear ho hset htorn whole hFs hxy
    have h0 : ((x2.toNat : Int) == 0) = true := by rw [hx]; rfl
    generalize F.data.toList[h + r] ^^^ x2 = c at *
    generalize F.data.toList[h + r] = y at *
    generalize (⟨(F.data.toList.set (h + r) c).toArray⟩ : ByteArray) = G at *
    clear hx
    go_wp2_with fail
    refine (HO.out _).mono ?_
    rintro e w3 ⟨rfl, b3⟩
    have HB3 := Lib.hid (HBW.out.trans (b3.mono HBW.out.size)); clear b3
    go_wp2_with fail
    refine (HA3.out _).mono ?_
    rintro e w4 ⟨rfl, b4⟩
    have HB4 := Lib.hid (HB3.out.trans (b4.mono HB3.out.size)); clear b4
    go_wp2_with fail
    refine (frameAwake_any _).mono ?_
    rintro e w8 ⟨rfl, b8⟩
    go_wp2
    go_ret
    exact ⟨rfl, below_then HB4.out b8⟩
  · have hsz : (⟨(F.data.toList.set (h + r) (F.data.toList[h + r] ^^^ x2)).toArray⟩ : ByteArray).size = F.size := by
      show (F.data.toList.set (h + r) (F.data.toList[h + r] ^^^ x2)).length = F.size
      rw [List.length_set, hFs]
    have ho := fun w => open_any ⟨(F.data.toList.set (h + r) (F.data.toList[h + r] ^^^ x2)).toArray⟩ (by rw [hsz]; omega) w
    rw [show (⟨(F.data.toList.set (h + r) (F.data.toList[h + r] ^^^ x2)).toArray⟩ : ByteArray).data.toList = F.data.toList.set (h + r) (F.data.toList[h + r] ^^^ x2) from rfl, htorn _ (hxy hx)] at ho
    have HO := Lib.hid ho; clear ho hsz htorn whole hFs hxy
    have h0 : ((x2.toNat : Int) == 0) = false := by
      rw [beq_eq_false_iff_ne]; intro e
      exact hx (UInt8.toNat_inj.1 (by simpa using e))
    have h1 : ((x2.toNat : Int) != 0) = true := by rw [bne, h0]; rfl
    generalize F.data.toList[h + r] ^^^ x2 = c at *
    generalize F.data.toList[h + r] = y at *
    generalize (⟨(F.data.toList.set (h + r) c).toArray⟩ : ByteArray) = G at *
    clear hx
    go_wp2_with fail
    refine (HO.out _).mono ?_
    rintro e w3 ⟨rfl, b3⟩
    have HB3 := Lib.hid (HBW.out.trans (b3.mono HBW.out.size)); clear b3
    go_wp2_with fail
    refine (HA3.out _).mono ?_
    rintro e w4 ⟨rfl, b4⟩
    have HB4 := Lib.hid (HB3.out.trans (b4.mono HB3.out.size)); clear b4
    go_wp2_with fail
    refine (frameAwake_any _).mono ?_
    rintro e w8 ⟨rfl, b8⟩
    go_wp2
    go_ret
    exact ⟨rfl, below_then HB4.out b8⟩
end Go.Proofs.Ytbamekfebfcleaa
