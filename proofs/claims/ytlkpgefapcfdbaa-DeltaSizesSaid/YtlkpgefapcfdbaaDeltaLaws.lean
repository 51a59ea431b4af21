/- Chapter 33's laws. -/
import Derived.Test.YtlkpgefapcfdbaaDeltaMc
namespace Go.Proofs.Ytlkpgefapcfdbaa
open Go.RowKit
set_option linter.unusedVariables false
set_option linter.unusedSimpArgs false
theorem mkP_len (base : List UInt8) (hb : base.length ≤ 1000000) : ∀ (f : Nat) (s inn : List UInt8), s.length ≤ 1000000 → inn.length + s.length ≤ 1000000 → ((mkP base f s inn).flatMap encP).length ≤ 10 + inn.length + 4 * s.length
  | 0, s, inn, hs, hi => by
    have := flushB_len inn (by omega)
    unfold flushB at this
    unfold mkP
    omega
  | f + 1, [], inn, hs, hi => by
    have := flushB_len inn (by omega)
    unfold flushB at this
    unfold mkP
    simp only [List.length_nil]
    omega
  | f + 1, c :: s, inn, hs, hi => by
    rw [List.length_cons] at hs hi
    by_cases h0 : (bestD base (c :: s)).1 = 0
    · rw [mkP_lit _ _ _ _ _ h0]
      have := mkP_len base hb f s (inn ++ [c]) (by omega) (by simp; omega)
      simp only [List.length_append, List.length_cons, List.length_nil] at this ⊢
      omega
    · obtain ⟨r1, r2, r3, _⟩ := bestD_ok base (c :: s) h0
      rw [List.length_cons] at r2
      rw [mkP_cop _ _ _ _ _ h0]
      have h1 := flushB_len inn (by omega)
      have h2 := mkP_len base hb f ((c :: s).drop (bestD base (c :: s)).1) [] (by rw [List.length_drop, List.length_cons]; omega) (by rw [List.length_drop, List.length_cons]; simp; omega)
      have h3 := vPut_len10 (2 * (bestD base (c :: s)).1 + 1) (by omega)
      have h4 := vPut_len10 (bestD base (c :: s)).2 (by omega)
      unfold flushB at h1
      rw [List.length_drop, List.length_cons] at h2
      rw [List.flatMap_append, List.flatMap_cons, List.length_append, List.length_append, List.length_cons]
      simp only [encP, List.length_append, List.length_nil] at h2 ⊢
      omega
theorem mkD_len (base target : List UInt8) (hb : base.length ≤ 100000) (ht : target.length ≤ 100000) : (mkD base target).length ≤ 1000000 := by
  have h1 := mkP_len base (by omega) target.length target [] (by omega) (by simp; omega)
  have h2 := vPut_len10 base.length (by omega)
  have h3 := vPut_len10 target.length (by omega)
  unfold mkD
  simp only [List.length_append, List.length_nil, crcBytes, List.length_cons] at h1 ⊢
  omega
theorem mkD_size (b t : ByteArray) (hb : b.size ≤ 100000) (ht : t.size ≤ 100000) : (⟨(mkD b.data.toList t.data.toList).toArray⟩ : ByteArray).size ≤ 1000000 := by
  rw [show (⟨(mkD b.data.toList t.data.toList).toArray⟩ : ByteArray).size = (mkD b.data.toList t.data.toList).length from List.size_toArray]
  exact mkD_len _ _ (by simpa using hb) (by simpa using ht)
/-- chapter 33's example -/
theorem awake_sz : szD (mkD [97, 98, 99, 100, 101, 102, 103, 104] [97, 98, 99, 100, 101, 102, 103, 104, 120]) = (8, 1, 0) := by
  rw [(szD_mk _ _ (by decide) (by decide)).1]
  decide +kernel
set_option maxHeartbeats 2000000 in
theorem awake_any (w : World) : Calls Try.prog 7 #[] w fun e w' => e = .returned (.bool true) ∧ Below w.heap.size w w' := by
  have HM := Lib.hid (fun w => make_any ⟨#[97, 98, 99, 100, 101, 102, 103, 104]⟩ ⟨#[97, 98, 99, 100, 101, 102, 103, 104, 120]⟩ (by decide) (by decide) w)
  have hsz := mkD_size ⟨#[97, 98, 99, 100, 101, 102, 103, 104]⟩ ⟨#[97, 98, 99, 100, 101, 102, 103, 104, 120]⟩ (by decide) (by decide)
  have HA := Lib.hid (fun w => apply_any ⟨#[97, 98, 99, 100, 101, 102, 103, 104]⟩ (⟨(mkD [97, 98, 99, 100, 101, 102, 103, 104] [97, 98, 99, 100, 101, 102, 103, 104, 120]).toArray⟩ : ByteArray) w (by decide) hsz)
  have HS := Lib.hid (fun w => sizes_any (⟨(mkD [97, 98, 99, 100, 101, 102, 103, 104] [97, 98, 99, 100, 101, 102, 103, 104, 120]).toArray⟩ : ByteArray) w hsz)
  have e1 : apD [97, 98, 99, 100, 101, 102, 103, 104] (mkD [97, 98, 99, 100, 101, 102, 103, 104] [97, 98, 99, 100, 101, 102, 103, 104, 120]) = ([97, 98, 99, 100, 101, 102, 103, 104, 120], 0) := apD_back _ _ (by decide) (by decide)
  change Hid (∀ w, Calls _ _ _ w fun e w' => e = .returned (applyV (apD [97, 98, 99, 100, 101, 102, 103, 104] (mkD [97, 98, 99, 100, 101, 102, 103, 104] [97, 98, 99, 100, 101, 102, 103, 104, 120]))) ∧ Below w.heap.size w w') at HA
  change Hid (∀ w, Calls _ _ _ w fun e w' => e = .returned (sizesV (szD (mkD [97, 98, 99, 100, 101, 102, 103, 104] [97, 98, 99, 100, 101, 102, 103, 104, 120]))) ∧ Below w.heap.size w w') at HS
  change Hid (∀ w, Calls _ _ _ w fun e w' => e = .returned (.string ⟨(mkD [97, 98, 99, 100, 101, 102, 103, 104] [97, 98, 99, 100, 101, 102, 103, 104, 120]).toArray⟩) ∧ Below w.heap.size w w') at HM
  rw [e1] at HA
  rw [awake_sz] at HS
  clear e1 hsz
  generalize (⟨(mkD [97, 98, 99, 100, 101, 102, 103, 104] [97, 98, 99, 100, 101, 102, 103, 104, 120]).toArray⟩ : ByteArray) = d at *
  go_enter Try.func7, Try.ntmps7
  go_wp2_with fail
  refine (HM.out _).mono ?_
  rintro e w1 ⟨rfl, b1⟩
  have B1 := Lib.hid b1; clear b1
  go_wp2_with fail
  refine (HA.out _).mono ?_
  rintro e w2 ⟨rfl, b2⟩
  have B2 := Lib.hid (B1.out.trans (b2.mono B1.out.size)); clear b2 B1
  unfold applyV
  go_wp2_with fail
  refine (HS.out _).mono ?_
  rintro e w3 ⟨rfl, b3⟩
  have B3 := Lib.hid (B2.out.trans (b3.mono B2.out.size)); clear b3 B2
  unfold sizesV
  go_wp2_with fail
  go_ret
  exact ⟨rfl, B3.out⟩
theorem str_eq_self (l : List UInt8) : ((⟨l.toArray⟩ : ByteArray).toList == (⟨l.toArray⟩ : ByteArray).toList) = true := by simp
set_option maxHeartbeats 2000000 in
theorem deltaMakes_ok (W : World) (x0 : ByteArray) (w0 : x0.size ≤ 140737488351232) (x1 : ByteArray) (w1 : x1.size ≤ 140737488351232) :
    Calls Try.prog 3 #[.string x0, .string x1] W fun e w' => e = .returned (.bool true) ∧ Below W.heap.size W w' := by
  have HW := Lib.hid awake_any
  by_cases h0 : x0.size ≤ 400
  · by_cases h1 : x1.size ≤ 400
    · have h0' : (x0.size : Int) ≤ 400 := by omega
      have h1' : (x1.size : Int) ≤ 400 := by omega
      have HM := Lib.hid (fun w => make_any x0 x1 (by omega) (by omega) w)
      have HR := Lib.hid (fun w => refMake_any x0 x1 (by omega) (by omega) w)
      have hs := str_eq_self (mkD x0.data.toList x1.data.toList)
      generalize (⟨(mkD x0.data.toList x1.data.toList).toArray⟩ : ByteArray) = d at *
      go_enter Try.func3, Try.ntmps3
      go_wp2_with fail
      refine (HM.out _).mono ?_
      rintro e w1 ⟨rfl, b1⟩
      have B1 := Lib.hid b1; clear b1
      go_wp2_with fail
      refine (HR.out _).mono ?_
      rintro e w2 ⟨rfl, b2⟩
      have B2 := Lib.hid (B1.out.trans (b2.mono B1.out.size)); clear b2 B1
      go_wp2_with fail
      refine (HW.out _).mono ?_
      rintro e w3 ⟨rfl, b3⟩
      have B3 := Lib.hid (B2.out.trans (b3.mono B2.out.size)); clear b3 B2
      go_wp2_with fail
      go_ret
      exact ⟨rfl, B3.out⟩
    · have h0' : (x0.size : Int) ≤ 400 := by omega
      have h1' : (400 : Int) < (x1.size : Int) := by omega
      go_enter Try.func3, Try.ntmps3
      go_wp2_with fail
      refine (HW.out _).mono ?_
      rintro e w3 ⟨rfl, b3⟩
      go_wp2_with fail
      go_ret
      exact ⟨rfl, b3⟩
  · have h0' : (400 : Int) < (x0.size : Int) := by omega
    go_enter Try.func3, Try.ntmps3
    go_wp2_with fail
    refine (HW.out _).mono ?_
    rintro e w3 ⟨rfl, b3⟩
    go_wp2_with fail
    go_ret
    exact ⟨rfl, b3⟩
/-! the other laws -/
theorem szMk (b t : ByteArray) (hb : b.size ≤ 65536) (ht : t.size ≤ 65536) : ∃ (x y : Nat) (d : ByteArray), Hid (∀ w, Calls Try.prog 12 #[.string d] w fun e w' => e = .returned (.tuple #[.int .i64 x, .int .i64 y, .int .i64 0]) ∧ Below w.heap.size w w') ∧
    Hid (∀ w, Calls Try.prog 8 #[.string b, .string t] w fun e w' => e = .returned (.string d) ∧ Below w.heap.size w w') ∧ (x + y = t.size ∧ y = ((mkP b.data.toList t.size t.data.toList []).map putIn).sum) := by
  have lb : b.data.toList.length = b.size := Array.length_toList
  have lt : t.data.toList.length = t.size := Array.length_toList
  obtain ⟨h1, h2⟩ := szD_mk b.data.toList t.data.toList (by omega) (by omega)
  rw [lt] at h1 h2
  refine ⟨_, _, ⟨(mkD b.data.toList t.data.toList).toArray⟩, ?_, fun w => make_any b t (by omega) (by omega) w, h2, rfl⟩
  intro w
  have h := sizes_any ⟨(mkD b.data.toList t.data.toList).toArray⟩ w (mkD_size b t (by omega) (by omega))
  change Calls _ _ _ w fun e w' => e = .returned (sizesV (szD (mkD b.data.toList t.data.toList))) ∧ Below w.heap.size w w' at h
  rw [h1] at h
  exact h
theorem mkP_self' (t : ByteArray) (h : 8 ≤ t.size) : ((mkP t.data.toList t.size t.data.toList []).map putIn).sum = 0 := by
  have lt : t.data.toList.length = t.size := Array.length_toList
  have := mkP_self t.data.toList (by omega)
  rwa [lt] at this
theorem mkP_mid' (s t : ByteArray) : ((mkP t.data.toList (s ++ t).size (s ++ t).data.toList []).map putIn).sum ≤ s.size + 7 := by
  have e : (s ++ t).data.toList = s.data.toList ++ t.data.toList := by simp
  have ls : s.data.toList.length = s.size := Array.length_toList
  have lt : t.data.toList.length = t.size := Array.length_toList
  have := mkP_mid t.data.toList (s ++ t).size s.data.toList [] (by rw [List.length_append, ls, lt, ByteArray.size_append]; exact Nat.le_refl _)
  rw [e]
  rw [List.length_nil, ls] at this
  omega
set_option maxHeartbeats 4000000 in
theorem deltaApplies_ok (W : World) (x0 : ByteArray) (w0 : x0.size ≤ 140737488351232) (x1 : ByteArray) (w1 : x1.size ≤ 140737488351232) :
    Calls Try.prog 4 #[.string x0, .string x1] W fun e w' => e = .returned (.bool true) ∧ Below W.heap.size W w' := by
  have HW := Lib.hid awake_any
  by_cases h0 : x0.size ≤ 3000
  · have h0' : (x0.size : Int) ≤ 3000 := by omega
    by_cases h1 : x1.size ≤ 1000
    · have h1' : (x1.size : Int) ≤ 1000 := by omega
      have HA := Lib.hid (fun w => apply_any x0 x1 w (by omega) (by omega))
      have HB := Lib.hid (fun w => refApply_any x0 x1 (by omega) (by omega) w)
      have HS := Lib.hid (fun w => sizes_any x1 w (by omega))
      have HT := Lib.hid (fun w => refSizes_any x1 (by omega) w)
      generalize apD x0.data.toList x1.data.toList = r at *
      generalize szD x1.data.toList = q at *
      obtain ⟨l, k⟩ := r
      obtain ⟨a, b, c⟩ := q
      have hs := str_eq_self l
      go_enter Try.func4, Try.ntmps4
      go_wp2_with fail
      refine (HA.out _).mono ?_
      rintro e v1 ⟨rfl, b1⟩
      have B1 := Lib.hid b1; clear b1
      try unfold applyV
      go_wp2_with fail
      refine (HB.out _).mono ?_
      rintro e v2 ⟨rfl, b2⟩
      have B2 := Lib.hid (B1.out.trans (b2.mono B1.out.size)); clear b2 B1
      try unfold applyV
      go_wp2_with fail
      refine (HS.out _).mono ?_
      rintro e v3 ⟨rfl, b3⟩
      have B3 := Lib.hid (B2.out.trans (b3.mono B2.out.size)); clear b3 B2
      try unfold sizesV
      go_wp2_with fail
      refine (HT.out _).mono ?_
      rintro e v4 ⟨rfl, b4⟩
      have B4 := Lib.hid (B3.out.trans (b4.mono B3.out.size)); clear b4 B3
      try unfold sizesV
      go_wp2_with fail
      refine (HW.out _).mono ?_
      rintro e v5 ⟨rfl, b5⟩
      have B5 := Lib.hid (B4.out.trans (b5.mono B4.out.size)); clear b5 B4
      go_wp2_with fail
      go_ret
      exact ⟨rfl, B5.out⟩
    · have h1' : (1000 : Int) < (x1.size : Int) := by omega
      go_enter Try.func4, Try.ntmps4
      go_wp2_with fail
      refine (HW.out _).mono ?_
      rintro e w3 ⟨rfl, b3⟩
      go_wp2_with fail
      go_ret
      exact ⟨rfl, b3⟩
  · have h0' : (3000 : Int) < (x0.size : Int) := by omega
    go_enter Try.func4, Try.ntmps4
    go_wp2_with fail
    refine (HW.out _).mono ?_
    rintro e w3 ⟨rfl, b3⟩
    go_wp2_with fail
    go_ret
    exact ⟨rfl, b3⟩
set_option maxHeartbeats 4000000 in
theorem deltaBack_ok (W : World) (x0 : ByteArray) (w0 : x0.size ≤ 140737488351232) (x1 : ByteArray) (w1 : x1.size ≤ 140737488351232) (x2 : ByteArray) (w2 : x2.size ≤ 140737488351232) :
    Calls Try.prog 5 #[.string x0, .string x1, .string x2] W fun e w' => e = .returned (.bool true) ∧ Below W.heap.size W w' := by
  have HW := Lib.hid awake_any
  by_cases h0 : x0.size ≤ 2000
  · have h0' : (x0.size : Int) ≤ 2000 := by omega
    by_cases h1 : x1.size ≤ 2000
    · have h1' : (x1.size : Int) ≤ 2000 := by omega
      by_cases h2 : x2.size ≤ 100
      · have h2' : (x2.size : Int) ≤ 100 := by omega
        have l0 : x0.data.toList.length ≤ 65536 := by have : x0.data.toList.length = x0.size := Array.length_toList
                                                      omega
        have l1 : x1.data.toList.length ≤ 65536 := by have : x1.data.toList.length = x1.size := Array.length_toList
                                                      omega
        have hsz := mkD_size x0 x1 (by omega) (by omega)
        have HM := Lib.hid (fun w => make_any x0 x1 (by omega) (by omega) w)
        have HA := Lib.hid (fun w => apply_any x0 (⟨(mkD x0.data.toList x1.data.toList).toArray⟩ : ByteArray) w (by omega) hsz)
        have HB := Lib.hid (fun w => apply_any (x0 ++ x2) (⟨(mkD x0.data.toList x1.data.toList).toArray⟩ : ByteArray) w (by rw [ByteArray.size_append]; omega) hsz)
        have e1 := apD_back x0.data.toList x1.data.toList l0 l1
        change Hid (∀ w, Calls _ _ _ w fun e w' => e = .returned (applyV (apD x0.data.toList (mkD x0.data.toList x1.data.toList))) ∧ Below w.heap.size w w') at HA
        change Hid (∀ w, Calls _ _ _ w fun e w' => e = .returned (applyV (apD (x0 ++ x2).data.toList (mkD x0.data.toList x1.data.toList))) ∧ Below w.heap.size w w') at HB
        rw [e1, applyV_o] at HA
        have hs : (x1.toList == x1.toList) = true := by simp
        by_cases hm : x2.size = 0
        · have e0 : x0 ++ x2 = x0 := by apply ByteArray.ext; simp; exact Array.eq_empty_of_size_eq_zero hm
          have ht : x2.toList.isEmpty = true := by rw [ByteArray.toList_eq, List.isEmpty_iff]; exact List.eq_nil_of_length_eq_zero (by rw [Array.length_toList]; exact hm)
          rw [e0, e1, applyV_o] at HB
          clear e1 hsz l0 l1
          generalize (⟨(mkD x0.data.toList x1.data.toList).toArray⟩ : ByteArray) = d at *
          generalize hxx : x0 ++ x2 = xx at *
          go_enter Try.func5, Try.ntmps5
          go_wp2_with fail
          refine (HM.out _).mono ?_
          rintro e v6 ⟨rfl, b6⟩
          have B6 := Lib.hid b6; clear b6
          go_wp2_with fail
          refine (HA.out _).mono ?_
          rintro e v7 ⟨rfl, b7⟩
          have B7 := Lib.hid (B6.out.trans (b7.mono B6.out.size)); clear b7 B6
          try unfold applyV
          go_wp2_with fail
          refine (HB.out _).mono ?_
          rintro e v8 ⟨rfl, b8⟩
          have B8 := Lib.hid (B7.out.trans (b8.mono B7.out.size)); clear b8 B7
          try unfold applyV
          go_wp2_with fail
          refine (HW.out _).mono ?_
          rintro e v9 ⟨rfl, b9⟩
          have B9 := Lib.hid (B8.out.trans (b9.mono B8.out.size)); clear b9 B8
          go_wp2_with fail
          go_ret
          exact ⟨rfl, B9.out⟩
        · have ht : x2.toList.isEmpty = false := by rw [ByteArray.toList_eq, List.isEmpty_eq_false_iff]; intro e; apply hm; have := congrArg List.length e; rw [Array.length_toList] at this; exact this
          have e2 := apD_other x0.data.toList (x0 ++ x2).data.toList x1.data.toList l0 l1 (by rw [Array.length_toList, Array.length_toList]; show x0.size ≠ (x0 ++ x2).size; rw [ByteArray.size_append]; omega)
          rw [e2] at HB
          clear e1 e2 hsz l0 l1
          generalize (⟨(mkD x0.data.toList x1.data.toList).toArray⟩ : ByteArray) = d at *
          go_enter Try.func5, Try.ntmps5
          go_wp2_with fail
          refine (HM.out _).mono ?_
          rintro e v6 ⟨rfl, b6⟩
          have B6 := Lib.hid b6; clear b6
          go_wp2_with fail
          refine (HA.out _).mono ?_
          rintro e v7 ⟨rfl, b7⟩
          have B7 := Lib.hid (B6.out.trans (b7.mono B6.out.size)); clear b7 B6
          try unfold applyV
          go_wp2_with fail
          refine (HB.out _).mono ?_
          rintro e v8 ⟨rfl, b8⟩
          have B8 := Lib.hid (B7.out.trans (b8.mono B7.out.size)); clear b8 B7
          try unfold applyV
          go_wp2_with fail
          refine (HW.out _).mono ?_
          rintro e v9 ⟨rfl, b9⟩
          have B9 := Lib.hid (B8.out.trans (b9.mono B8.out.size)); clear b9 B8
          go_wp2_with fail
          go_ret
          exact ⟨rfl, B9.out⟩
      · have h2' : (100 : Int) < (x2.size : Int) := by omega
        go_enter Try.func5, Try.ntmps5
        go_wp2_with fail
        refine (HW.out _).mono ?_
        rintro e w3 ⟨rfl, b3⟩
        go_wp2_with fail
        go_ret
        exact ⟨rfl, b3⟩
    · have h1' : (2000 : Int) < (x1.size : Int) := by omega
      go_enter Try.func5, Try.ntmps5
      go_wp2_with fail
      refine (HW.out _).mono ?_
      rintro e w3 ⟨rfl, b3⟩
      go_wp2_with fail
      go_ret
      exact ⟨rfl, b3⟩
  · have h0' : (2000 : Int) < (x0.size : Int) := by omega
    go_enter Try.func5, Try.ntmps5
    go_wp2_with fail
    refine (HW.out _).mono ?_
    rintro e w3 ⟨rfl, b3⟩
    go_wp2_with fail
    go_ret
    exact ⟨rfl, b3⟩
set_option maxHeartbeats 4000000 in
theorem deltaSizes_ok (W : World) (x0 : ByteArray) (w0 : x0.size ≤ 140737488351232) (x1 : ByteArray) (w1 : x1.size ≤ 140737488351232) :
    Calls Try.prog 6 #[.string x0, .string x1] W fun e w' => e = .returned (.bool true) ∧ Below W.heap.size W w' := by
  have HW := Lib.hid awake_any
  by_cases h0 : x0.size ≤ 1000
  · have h0' : (x0.size : Int) ≤ 1000 := by omega
    by_cases h1 : x1.size ≤ 1000
    · have h1' : (x1.size : Int) ≤ 1000 := by omega
      obtain ⟨a, b, d1, HS, HM, q1⟩ := szMk x0 x1 (by omega) (by omega)
      obtain ⟨c, d, d2, HS2, HM2, q2⟩ := szMk x1 x1 (by omega) (by omega)
      obtain ⟨u, v, d3, HS3, HM3, q3⟩ := szMk x1 (x0 ++ x1) (by omega) (by rw [ByteArray.size_append]; omega)
      rw [ByteArray.size_append] at q3
      obtain ⟨q1, r1⟩ := q1
      obtain ⟨q2, r2⟩ := q2
      obtain ⟨q3, r3⟩ := q3
      have p1 : (a : Int) + (b : Int) = (x1.size : Int) := by omega
      have p2 : (c : Int) + (d : Int) = (x1.size : Int) := by omega
      have p3 : (u : Int) + (v : Int) = (x0.size : Int) + (x1.size : Int) := by omega
      by_cases h8 : x1.size < 8
      · have h8' : (x1.size : Int) < 8 := by omega
        clear r1 r2 r3 q1 q2 q3
        go_enter Try.func6, Try.ntmps6
        go_wp2_with fail
        refine (HM.out _).mono ?_
        rintro e v10 ⟨rfl, b10⟩
        have B10 := Lib.hid b10; clear b10
        go_wp2_with fail
        refine (HS.out _).mono ?_
        rintro e v11 ⟨rfl, b11⟩
        have B11 := Lib.hid (B10.out.trans (b11.mono B10.out.size)); clear b11 B10
        go_wp2_with fail
        refine (HM2.out _).mono ?_
        rintro e v12 ⟨rfl, b12⟩
        have B12 := Lib.hid (B11.out.trans (b12.mono B11.out.size)); clear b12 B11
        go_wp2_with fail
        refine (HS2.out _).mono ?_
        rintro e v13 ⟨rfl, b13⟩
        have B13 := Lib.hid (B12.out.trans (b13.mono B12.out.size)); clear b13 B12
        go_wp2_with fail
        refine (HM3.out _).mono ?_
        rintro e v14 ⟨rfl, b14⟩
        have B14 := Lib.hid (B13.out.trans (b14.mono B13.out.size)); clear b14 B13
        go_wp2_with fail
        refine (HS3.out _).mono ?_
        rintro e v15 ⟨rfl, b15⟩
        have B15 := Lib.hid (B14.out.trans (b15.mono B14.out.size)); clear b15 B14
        go_wp2_with fail
        refine (HW.out _).mono ?_
        rintro e v16 ⟨rfl, b16⟩
        have B16 := Lib.hid (B15.out.trans (b16.mono B15.out.size)); clear b16 B15
        go_wp2_with fail
        go_ret
        exact ⟨rfl, B16.out⟩
      · have h8' : (8 : Int) ≤ (x1.size : Int) := by omega
        have hd : d = 0 := by rw [r2]; exact mkP_self' x1 (by omega)
        have hv : v ≤ x0.size + 7 := by rw [r3, ← ByteArray.size_append]; exact mkP_mid' x0 x1
        have hv' : (v : Int) ≤ (x0.size : Int) + 7 := by omega
        clear r1 r2 r3 q1 q2 q3
        subst hd
        go_enter Try.func6, Try.ntmps6
        go_wp2_with fail
        refine (HM.out _).mono ?_
        rintro e v10 ⟨rfl, b10⟩
        have B10 := Lib.hid b10; clear b10
        go_wp2_with fail
        refine (HS.out _).mono ?_
        rintro e v11 ⟨rfl, b11⟩
        have B11 := Lib.hid (B10.out.trans (b11.mono B10.out.size)); clear b11 B10
        go_wp2_with fail
        refine (HM2.out _).mono ?_
        rintro e v12 ⟨rfl, b12⟩
        have B12 := Lib.hid (B11.out.trans (b12.mono B11.out.size)); clear b12 B11
        go_wp2_with fail
        refine (HS2.out _).mono ?_
        rintro e v13 ⟨rfl, b13⟩
        have B13 := Lib.hid (B12.out.trans (b13.mono B12.out.size)); clear b13 B12
        go_wp2_with fail
        refine (HM3.out _).mono ?_
        rintro e v14 ⟨rfl, b14⟩
        have B14 := Lib.hid (B13.out.trans (b14.mono B13.out.size)); clear b14 B13
        go_wp2_with fail
        refine (HS3.out _).mono ?_
        rintro e v15 ⟨rfl, b15⟩
        have B15 := Lib.hid (B14.out.trans (b15.mono B14.out.size)); clear b15 B14
        go_wp2_with fail
        refine (HW.out _).mono ?_
        rintro e v16 ⟨rfl, b16⟩
        have B16 := Lib.hid (B15.out.trans (b16.mono B15.out.size)); clear b16 B15
        go_wp2_with fail
        go_ret
        exact ⟨rfl, B16.out⟩
    · have h1' : (1000 : Int) < (x1.size : Int) := by omega
      go_enter Try.func6, Try.ntmps6
      go_wp2_with fail
      refine (HW.out _).mono ?_
      rintro e w3 ⟨rfl, b3⟩
      go_wp2_with fail
      go_ret
      exact ⟨rfl, b3⟩
  · have h0' : (1000 : Int) < (x0.size : Int) := by omega
    go_enter Try.func6, Try.ntmps6
    go_wp2_with fail
    refine (HW.out _).mono ?_
    rintro e w3 ⟨rfl, b3⟩
    go_wp2_with fail
    go_ret
    exact ⟨rfl, b3⟩
end Go.Proofs.Ytlkpgefapcfdbaa
