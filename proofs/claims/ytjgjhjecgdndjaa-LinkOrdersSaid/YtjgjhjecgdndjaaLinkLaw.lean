/- LinkFrames but for the chapter's example (awake's contract is asked). -/
import Derived.Test.YtjgjhjecgdndjaaLinkRRead
import Derived.Laws.StructEq
namespace Go.Proofs.Ytjgjhjecgdndjaa
open Go.RowKit
set_option linter.unusedVariables false
set_option linter.unusedSimpArgs false
theorem eqIn_fr (a b c : Int) (d : ByteArray) (w : World) : (Op.equalIn 10000 24 (.agg #[.int .u64 a, .int .i64 b, .int .i64 c, .string d]) (.agg #[.int .u64 a, .int .i64 b, .int .i64 c, .string d])).run Try.prog w = .ok true w := by
  have u3 := Try.underlying3
  have u22 := Try.underlying22
  have u9 := Try.underlying9
  have a3 := Try.isAgg3
  have a22 := Try.isAgg22
  have a9 := Try.isAgg9
  have z3 := Try.sizeOf3
  have z22 := Try.sizeOf22
  have z9 := Try.sizeOf9
  have hS : Try.prog.underlying 24 = some (.struct (Try.prog.fieldsOf 24)) := by kernel_rfl
  have hp : Try.prog.stoodInHeld 24 = false := by kernel_rfl
  rw [show (10000 : Nat) = 9999 + 1 from rfl, run_equalIn_agg w 9999 24 _ _ hS hp]
  simp only [Program.fieldsOf, Try.underlying24]
  go_simp
theorem box_new (w : World) (a b c d : Value) : Box4 w.heap.size a b c d (w.alloc (.cells #[a, b, c, d] 24)) := by
  obtain ⟨h0, h1, h2, h3, _⟩ := cells4 (heap_alloc_new w (.cells #[a, b, c, d] 24))
  exact ⟨h0, h1, h2, h3, by simp⟩
theorem lWrite_size (ses : UInt64) (seq ack : Int) (d : ByteArray) (hd : d.size ≤ 70000) : (⟨(lWrite ses.toNat seq ack d.data.toList).toArray⟩ : ByteArray).size ≤ 1000000 := by
  show (lWrite ses.toNat seq ack d.data.toList).toArray.size ≤ 1000000
  rw [List.size_toArray]
  unfold lWrite
  have hl : d.data.toList.length = d.size := by simp
  split
  · rename_i hf
    unfold lFits at hf
    simp only [Bool.and_eq_true, decide_eq_true_iff] at hf
    have h1 := lBody_len ses.toNat seq.toNat ack.toNat ses.toNat_lt (by omega) (by omega) d.data.toList
    have h2 := fWrap_len (lBody ses.toNat seq.toNat ack.toNat d.data.toList) (by omega)
    have h3 := vPut_len10 (lBody ses.toNat seq.toNat ack.toNat d.data.toList).length (by omega)
    omega
  · simp
theorem lRead_lt (s : List UInt8) : (lRead s).1.1 < 18446744073709551616 := by
  unfold lRead
  split
  · decide
  · cases h : lTake3 (fOpen s).1 with
    | none => decide
    | some f =>
      obtain ⟨x, y, z, d⟩ := f
      simp only
      split
      · decide
      · show x < _
        unfold lTake3 at h
        split at h
        · cases h
        · split at h
          · cases h
          · split at h
            · cases h
            · injection h with h
              injection h with hx _
              rw [← hx]
              exact (vTake_lt _).1
theorem lRead_len (s : List UInt8) : (lRead s).1.2.2.2.length ≤ 60000 := by
  unfold lRead
  split
  · simp [lZero]
  · cases h : lTake3 (fOpen s).1 with
    | none => simp [lZero]
    | some f =>
      obtain ⟨x, y, z, d⟩ := f
      simp only
      split
      · simp [lZero]
      · show d.length ≤ _; omega
set_option maxRecDepth 20000 in
set_option maxHeartbeats 3000000 in
theorem linkFrames_main (HAw : ∀ w, Calls Try.prog 6 #[] w fun e w' => e = .returned (.bool true) ∧ Below w.heap.size w w') (W : World) (ses : UInt64) (seq ack : Int) (data s : ByteArray) (hd : data.size ≤ 70000) (hs : s.size ≤ 5000) :
    Calls Try.prog 3 #[Fr ses seq ack data, .string s] W fun e w' => e = .returned (.bool true) ∧ Below W.heap.size W w' := by
  have HA := Lib.hid HAw
  have hdd : decide ((70000 : Int) < (data.size : Int)) = false := by simp; omega
  have hds : decide ((5000 : Int) < (s.size : Int)) = false := by simp; omega
  have HR := Lib.hid (fun w => read_any s (by omega) w)
  have HRR := Lib.hid (fun w => rread_any s (by omega) w)
  have HW1 := Lib.hid (fun w => write_any ses seq ack data (by omega) w)
  have HW2 := Lib.hid (fun w => rwrite_any ses seq ack data (by omega) w)
  have HRT := Lib.hid (fun w => read_any _ (lWrite_size ses seq ack data hd) w)
  have hlt := lRead_lt s.data.toList
  have hln := lRead_len s.data.toList
  have hbk := lRead_back s.data.toList
  have hwr := lRead_write ses.toNat seq ack data.data.toList ses.toNat_lt
  obtain ⟨T, hT⟩ : ∃ T : ByteArray, T = ⟨(lWrite ses.toNat seq ack data.data.toList).toArray⟩ := ⟨_, rfl⟩
  rw [← hT] at HW1 HW2 HRT
  have hTd : T.data.toList = lWrite ses.toNat seq ack data.data.toList := by rw [hT]
  generalize lRead s.data.toList = R at *
  obtain ⟨⟨x, y, z, dl⟩, er⟩ := R
  dsimp only at hlt hln hbk HR HRR
  unfold FrV at HR HRR HRT
  dsimp only at HR HRR
  obtain ⟨D, hD⟩ : ∃ D : ByteArray, D = ⟨dl.toArray⟩ := ⟨_, rfl⟩
  have hDd : D.data.toList = dl := by rw [hD]
  have hDs : D.size ≤ 1000000 := by have : D.size = dl.length := by rw [hD]; simp [ByteArray.size]
                                    omega
  rw [← hD] at HR HRR
  have hxu : (UInt64.ofNat x).toNat = x := by rw [UInt64.toNat_ofNat']; exact Nat.mod_eq_of_lt hlt
  have HWA := Lib.hid (fun w => write_any (UInt64.ofNat x) y z D hDs w)
  rw [hxu, hDd] at HWA
  unfold Fr at HWA HW1 HW2 ⊢
  rw [hxu] at HWA
  have heq := eqIn_fr x y z D
  have hss : (s.toList == s.toList) = true := by simp
  have hTT : (T.toList != T.toList) = false := by simp
  have hee : ((er : Int) != (er : Int)) = false := by simp
  clear hdd hds
  have hdd : decide ((70000 : Int) < (data.size : Int)) = false := by simp; omega
  have hds : decide ((5000 : Int) < (s.size : Int)) = false := by simp; omega
  have HBW : Hid (Below W.heap.size W (W.alloc (.cells #[.int .u64 ses.toNat, .int .i64 seq, .int .i64 ack, .string data] 24))) := (Below.refl _ _).alloc (Nat.le_refl _) _
  have HB2 := Lib.hid (box_new W (.int .u64 ses.toNat) (.int .i64 seq) (.int .i64 ack) (.string data))
  have HBK := Lib.hid hbk
  have HWRr := Lib.hid hwr
  have HCASE : Hid ((T = ⟨#[]⟩) ∨ ((T.toList == (⟨#[]⟩ : ByteArray).toList) = false ∧ ∀ w, Calls Try.prog 7 #[.string T] w fun e w' => e = .returned (.tuple #[.agg #[.int .u64 ses.toNat, .int .i64 seq, .int .i64 ack, .string data], .int .i64 0]) ∧ Below w.heap.size w w')) := by
    unfold Hid
    have hl : data.data.toList.length = data.size := by simp
    cases hf : lFits seq ack data.data.toList.length with
    | false => left; rw [hT]; unfold lWrite; rw [hf]; rfl
    | true =>
      right
      have hw := hwr hf
      have hfb := hf
      unfold lFits at hfb
      simp only [Bool.and_eq_true, decide_eq_true_iff] at hfb
      refine ⟨?_, fun w => ?_⟩
      · rw [beq_eq_false_iff_ne, ByteArray.toList_eq, ByteArray.toList_eq, hTd]
        intro e
        rw [e] at hw
        have : (lRead ([] : List UInt8)).2 = 0 := by
          show (lRead ((⟨#[]⟩ : ByteArray).data.toList)).2 = 0
          rw [hw]
        revert this
        decide
      · have := HRT.out w
        rw [hTd, hw] at this
        dsimp only at this
        rw [Int.toNat_of_nonneg (by omega), Int.toNat_of_nonneg (by omega), show (⟨data.data.toList.toArray⟩ : ByteArray) = data from by apply ByteArray.ext; simp] at this
        exact this
  obtain ⟨R2, hR2⟩ : ∃ R2, R2 = lRead T.data.toList := ⟨_, rfl⟩
  rw [← hR2] at HRT
  obtain ⟨⟨p2, q2, r2, d2⟩, er2⟩ := R2
  dsimp only at HRT
  have heq2 := eqIn_fr ses.toNat seq ack data
  clear hbk hwr hD hDd hDs hln hlt HAw hR2 hT hTd
  go_enter Try.func3, Try.ntmps3
  go_wp2_with fail
  refine (HR.out _).mono ?_
  rintro e w1 ⟨rfl, b1⟩
  replace HB2 := Lib.hid (HB2.out.below b1)
  replace HBW := Lib.hid (HBW.out.trans (b1.mono HBW.out.size))
  clear b1 HR
  go_wp2_with fail
  have HB5 := Lib.hid (box_new w1 (.int .u64 x) (.int .i64 y) (.int .i64 z) (.string D))
  have hb : Below w1.heap.size w1 (w1.alloc (.cells #[.int .u64 x, .int .i64 y, .int .i64 z, .string D] 24)) := (Below.refl _ _).alloc (Nat.le_refl _) _
  replace HB2 := Lib.hid (HB2.out.below hb)
  replace HBW := Lib.hid (HBW.out.trans (hb.mono HBW.out.size))
  clear hb
  obtain ⟨b5, hb5⟩ : ∃ b, b = w1.heap.size := ⟨_, rfl⟩
  obtain ⟨w2, hw2⟩ : ∃ w2, w2 = w1.alloc (.cells #[.int .u64 x, .int .i64 y, .int .i64 z, .string D] 24) := ⟨_, rfl⟩
  rw [← hb5, ← hw2] at HB5
  rw [← hw2] at HB2 HBW
  rw [← hb5, ← hw2]
  clear hb5 hw2
  refine (HRR.out _).mono ?_
  rintro e w3 ⟨rfl, b3⟩
  replace HB2 := Lib.hid (HB2.out.below b3)
  replace HB5 := Lib.hid (HB5.out.below b3)
  replace HBW := Lib.hid (HBW.out.trans (b3.mono HBW.out.size))
  clear b3 HRR
  have vv := HB2.out.c0
  have vv1 := HB2.out.c1
  have vv2 := HB2.out.c2
  have vv3 := HB2.out.c3
  have vlt := HB2.out.lt
  go_wp2_with fail
  have HB7 := Lib.hid (box_new w3 (.int .u64 x) (.int .i64 y) (.int .i64 z) (.string D))
  have hb : Below w3.heap.size w3 (w3.alloc (.cells #[.int .u64 x, .int .i64 y, .int .i64 z, .string D] 24)) := (Below.refl _ _).alloc (Nat.le_refl _) _
  replace HB2 := Lib.hid (HB2.out.below hb)
  replace HB5 := Lib.hid (HB5.out.below hb)
  replace HBW := Lib.hid (HBW.out.trans (hb.mono HBW.out.size))
  clear hb vv vv1 vv2 vv3 vlt
  obtain ⟨b7, hb7⟩ : ∃ b, b = w3.heap.size := ⟨_, rfl⟩
  obtain ⟨w4, hw4⟩ : ∃ w4, w4 = w3.alloc (.cells #[.int .u64 x, .int .i64 y, .int .i64 z, .string D] 24) := ⟨_, rfl⟩
  rw [← hb7, ← hw4] at HB7
  rw [← hw4] at HB2 HB5 HBW
  rw [← hb7, ← hw4]
  clear hb7 hw4
  refine (HW1.out _).mono ?_
  rintro e w5 ⟨rfl, b5'⟩
  replace HB2 := Lib.hid (HB2.out.below b5')
  replace HB5 := Lib.hid (HB5.out.below b5')
  replace HB7 := Lib.hid (HB7.out.below b5')
  replace HBW := Lib.hid (HBW.out.trans (b5'.mono HBW.out.size))
  clear b5' HW1
  have v0 := HB2.out.c0
  have v1 := HB2.out.c1
  have v2 := HB2.out.c2
  have v3 := HB2.out.c3
  go_wp2_with fail
  refine (HW2.out _).mono ?_
  rintro e w6 ⟨rfl, b6⟩
  replace HB2 := Lib.hid (HB2.out.below b6)
  replace HB5 := Lib.hid (HB5.out.below b6)
  replace HB7 := Lib.hid (HB7.out.below b6)
  replace HBW := Lib.hid (HBW.out.trans (b6.mono HBW.out.size))
  clear b6 HW2 v0 v1 v2 v3
  have m0 := HB5.out.c0
  have m1 := HB5.out.c1
  have m2 := HB5.out.c2
  have m3 := HB5.out.c3
  have n0 := HB7.out.c0
  have n1 := HB7.out.c1
  have n2 := HB7.out.c2
  have n3 := HB7.out.c3
  by_cases h0 : er = 0
  · have hez : ((er : Int) == 0) = true := by rw [h0]; rfl
    have HES : Hid ((⟨(lWrite x y z dl).toArray⟩ : ByteArray) = s) := by
      unfold Hid; rw [HBK.out h0]
    rw [HES.out] at HWA
    go_wp2_with fail
    refine (HWA.out _).mono ?_
    rintro e w7 ⟨rfl, b7'⟩
    replace HB2 := Lib.hid (HB2.out.below b7')
    replace HBW := Lib.hid (HBW.out.trans (b7'.mono HBW.out.size))
    clear b7' HWA m0 m1 m2 m3 n0 n1 n2 n3 HB5 HB7
    rcases HCASE.out with hE | ⟨hE, hC⟩
    · subst hE
      go_wp2_with fail
      refine (HRT.out _).mono ?_
      rintro e w8 ⟨rfl, b8⟩
      replace HB2 := Lib.hid (HB2.out.below b8)
      replace HBW := Lib.hid (HBW.out.trans (b8.mono HBW.out.size))
      clear b8
      have hb : Below w8.heap.size w8 (w8.alloc (.cells #[.int .u64 p2, .int .i64 q2, .int .i64 r2, .string ⟨d2.toArray⟩] 24)) := (Below.refl _ _).alloc (Nat.le_refl _) _
      have HB8 := Lib.hid (HBW.out.trans (hb.mono HBW.out.size))
      clear hb
      go_wp2_with fail
      all_goals
        refine (HA.out _).mono ?_
        rintro e wA ⟨rfl, bA⟩
        go_wp2
        go_ret
        exact ⟨rfl, HB8.out.trans (bA.mono HB8.out.size)⟩
    · have HC := Lib.hid hC
      clear hC
      go_wp2_with fail
      refine (HC.out _).mono ?_
      rintro e w8 ⟨rfl, b8⟩
      replace HB2 := Lib.hid (HB2.out.below b8)
      replace HBW := Lib.hid (HBW.out.trans (b8.mono HBW.out.size))
      clear b8
      have v0 := HB2.out.c0
      have v1 := HB2.out.c1
      have v2 := HB2.out.c2
      have v3 := HB2.out.c3
      have vlt := HB2.out.lt
      have hb : Below w8.heap.size w8 (w8.alloc (.cells #[.int .u64 ses.toNat, .int .i64 seq, .int .i64 ack, .string data] 24)) := (Below.refl _ _).alloc (Nat.le_refl _) _
      have HB8 := Lib.hid (HBW.out.trans (hb.mono HBW.out.size))
      clear hb
      go_wp2_with fail
      all_goals
        refine (HA.out _).mono ?_
        rintro e wA ⟨rfl, bA⟩
        go_wp2
        go_ret
        exact ⟨rfl, HB8.out.trans (bA.mono HB8.out.size)⟩
  · have hez : ((er : Int) == 0) = false := by rw [beq_eq_false_iff_ne]; omega
    clear HWA
    rcases HCASE.out with hE | ⟨hE, hC⟩
    · subst hE
      go_wp2_with fail
      refine (HRT.out _).mono ?_
      rintro e w8 ⟨rfl, b8⟩
      replace HB2 := Lib.hid (HB2.out.below b8)
      replace HBW := Lib.hid (HBW.out.trans (b8.mono HBW.out.size))
      clear b8
      have hb : Below w8.heap.size w8 (w8.alloc (.cells #[.int .u64 p2, .int .i64 q2, .int .i64 r2, .string ⟨d2.toArray⟩] 24)) := (Below.refl _ _).alloc (Nat.le_refl _) _
      have HB8 := Lib.hid (HBW.out.trans (hb.mono HBW.out.size))
      clear hb
      go_wp2_with fail
      all_goals
        refine (HA.out _).mono ?_
        rintro e wA ⟨rfl, bA⟩
        go_wp2
        go_ret
        exact ⟨rfl, HB8.out.trans (bA.mono HB8.out.size)⟩
    · have HC := Lib.hid hC
      clear hC
      go_wp2_with fail
      refine (HC.out _).mono ?_
      rintro e w8 ⟨rfl, b8⟩
      replace HB2 := Lib.hid (HB2.out.below b8)
      replace HBW := Lib.hid (HBW.out.trans (b8.mono HBW.out.size))
      clear b8
      have v0 := HB2.out.c0
      have v1 := HB2.out.c1
      have v2 := HB2.out.c2
      have v3 := HB2.out.c3
      have vlt := HB2.out.lt
      have hb : Below w8.heap.size w8 (w8.alloc (.cells #[.int .u64 ses.toNat, .int .i64 seq, .int .i64 ack, .string data] 24)) := (Below.refl _ _).alloc (Nat.le_refl _) _
      have HB8 := Lib.hid (HBW.out.trans (hb.mono HBW.out.size))
      clear hb
      go_wp2_with fail
      all_goals
        refine (HA.out _).mono ?_
        rintro e wA ⟨rfl, bA⟩
        go_wp2
        go_ret
        exact ⟨rfl, HB8.out.trans (bA.mono HB8.out.size)⟩
set_option maxRecDepth 20000 in
set_option maxHeartbeats 1000000 in
theorem linkFrames_of (HAw : ∀ w, Calls Try.prog 6 #[] w fun e w' => e = .returned (.bool true) ∧ Below w.heap.size w w') (W : World) (ses : UInt64) (seq ack : Int) (data s : ByteArray) :
    Calls Try.prog 3 #[Fr ses seq ack data, .string s] W fun e w' => e = .returned (.bool true) ∧ Below W.heap.size W w' := by
  by_cases hd : data.size ≤ 70000
  · by_cases hs : s.size ≤ 5000
    · exact linkFrames_main HAw W ses seq ack data s hd hs
    · have HA := Lib.hid HAw
      have hdd : decide ((70000 : Int) < (data.size : Int)) = false := by simp; omega
      have hds : decide ((5000 : Int) < (s.size : Int)) = true := by simp; omega
      have HBW : Hid (Below W.heap.size W (W.alloc (.cells #[.int .u64 ses.toNat, .int .i64 seq, .int .i64 ack, .string data] 24))) := (Below.refl _ _).alloc (Nat.le_refl _) _
      clear HAw
      unfold Fr
      go_enter Try.func3, Try.ntmps3
      go_wp2_with fail
      refine (HA.out _).mono ?_
      rintro e wA ⟨rfl, bA⟩
      go_wp2
      go_ret
      exact ⟨rfl, HBW.out.trans (bA.mono HBW.out.size)⟩
  · have HA := Lib.hid HAw
    have hdd : decide ((70000 : Int) < (data.size : Int)) = true := by simp; omega
    have HBW : Hid (Below W.heap.size W (W.alloc (.cells #[.int .u64 ses.toNat, .int .i64 seq, .int .i64 ack, .string data] 24))) := (Below.refl _ _).alloc (Nat.le_refl _) _
    clear HAw
    unfold Fr
    go_enter Try.func3, Try.ntmps3
    go_wp2_with fail
    refine (HA.out _).mono ?_
    rintro e wA ⟨rfl, bA⟩
    go_wp2
    go_ret
    exact ⟨rfl, HBW.out.trans (bA.mono HBW.out.size)⟩
end Go.Proofs.Ytjgjhjecgdndjaa
