/- Take, in both packages. -/
import Derived.Test.YtkbpkodakfknoaaPackSplit
import Derived.Test.YtkbpkodakfknoaaPackIter
import Derived.Test.YtkbpkodakfknoaaPackFind
import Derived.Deep.RegionHeld3
namespace Go.Proofs.Ytkbpkodakfknoaa
open Go.RowKit
set_option linter.unusedVariables false
set_option linter.unusedSimpArgs false
def inR (n : Nat) (at0 sz : Int) : Bool := decide (0 ≤ at0 ∧ 0 ≤ sz ∧ at0 ≤ n ∧ sz ≤ n - at0)
/-- an object out of a pack -/
def takeV (s key : ByteArray) (at0 sz : Int) : ByteArray × Int :=
  if inR s.size at0 sz = true then
    (let r := fOpen ((s.extract at0.toNat (at0.toNat + sz.toNat)).data.toList)
     let t : ByteArray := ⟨r.1.toArray⟩
     if r.2.2 ≠ 0 ∨ r.2.1 < sz.toNat ∨ t.size < 32 then (⟨#[]⟩, 2) else if goodT t = true ∧ t.extract 0 32 = key then (t.extract 32 t.size, 0) else (⟨#[]⟩, 11))
  else (⟨#[]⟩, 4)
theorem takeV_in (s key : ByteArray) (a z : Nat) (h : inR s.size a z = true) (t : List UInt8) (n e : Nat) (hr : fOpen ((s.extract a (a + z)).data.toList) = (t, n, e)) :
    takeV s key a z = if e ≠ 0 ∨ n < z ∨ (⟨t.toArray⟩ : ByteArray).size < 32 then (⟨#[]⟩, 2) else if goodT ⟨t.toArray⟩ = true ∧ (⟨t.toArray⟩ : ByteArray).extract 0 32 = key then ((⟨t.toArray⟩ : ByteArray).extract 32 (⟨t.toArray⟩ : ByteArray).size, 0) else (⟨#[]⟩, 11) := by
  unfold takeV
  rw [if_pos h]
  simp only [Int.toNat_natCast, hr]
theorem data_eq {a b : ByteArray} (h : a.toList = b.toList) : a = b := by
  rw [toList_data, toList_data] at h
  exact ByteArray.ext (Array.toList_inj.1 h)
theorem fOpen_lenT (s : List UInt8) : (fOpen s).1.length ≤ s.length := by
  unfold fOpen
  split
  · simp
  · split
    · simp
    · split
      · simp
      · show (vTakeText s).1.length ≤ s.length
        unfold vTakeText
        split
        · simp
        · split
          · simp
          · split
            · simp
            · simp only [List.length_take, List.length_drop]; omega
set_option maxRecDepth 20000 in
set_option maxHeartbeats 2000000 in
theorem ptake_any (s key : ByteArray) (at0 sz : Int) (w : World) (hs : s.size ≤ 1000000000) (ha : -9223372036854775808 ≤ at0 ∧ at0 ≤ 9223372036854775807) (hz : -9223372036854775808 ≤ sz ∧ sz ≤ 9223372036854775807) :
    Calls Try.prog 15 #[.string s, .agg #[.string key, .int .i64 at0, .int .i64 sz]] w fun e w' => e = .returned (.tuple #[.string (takeV s key at0 sz).1, .int .i64 (takeV s key at0 sz).2]) ∧ Below w.heap.size w w' := by
  obtain ⟨ha1, ha2⟩ := ha
  obtain ⟨hz1, hz2⟩ := hz
  have HBW : Hid (Below w.heap.size w (w.alloc (.cells #[.string key, .int .i64 at0, .int .i64 sz] 30))) := (Below.refl _ _).alloc (Nat.le_refl _) _
  by_cases h : inR s.size at0 sz = true
  · have h' := h
    unfold inR at h'
    rw [decide_eq_true_iff] at h'
    obtain ⟨h1, h2, h3, h4⟩ := h'
    obtain ⟨a, rfl⟩ := Int.eq_ofNat_of_zero_le h1
    obtain ⟨z, rfl⟩ := Int.eq_ofNat_of_zero_le h2
    have hsum : (a : Int) + (z : Int) ≤ (s.size : Int) := by omega
    have hsum0 : (0 : Int) ≤ (a : Int) + (z : Int) := by omega
    have haz : (a : Int) ≤ (a : Int) + (z : Int) := by omega
    have htn : ((a : Int) + (z : Int)).toNat = a + z := by omega
    have hx : (s.extract a (a + z)).size ≤ 1000000000 := by rw [ByteArray.size_extract]; omega
    have HO := Lib.hid (fun w => open_any (s.extract a (a + z)) (by omega) w)
    have HV := Lib.hid (takeV_in s key a z h)
    have hlT := fOpen_lenT (s.extract a (a + z)).data.toList
    have hle := fOpen_leP (s.extract a (a + z)).data.toList
    have hxl : (s.extract a (a + z)).data.toList.length = z := by rw [Array.length_toList]; show (s.extract a (a + z)).size = z; rw [ByteArray.size_extract]; omega
    rw [hxl] at hlT hle
    generalize fOpen (s.extract a (a + z)).data.toList = r at *
    obtain ⟨t, n', e'⟩ := r
    dsimp only at *
    have HV2 := Lib.hid (HV.out t n' e' rfl)
    obtain ⟨T, hT⟩ : ∃ T : ByteArray, T = ⟨t.toArray⟩ := ⟨_, rfl⟩
    have hTs : T.size ≤ 1000000000 := by
      rw [hT]; show t.toArray.size ≤ _; rw [List.size_toArray]; omega
    rw [← hT] at HO HV2
    obtain ⟨hle1, hle2⟩ := hle
    clear hlT hxl hT HV h hx
    have d1 : decide ((a : Int) < 0) = false := by simp
    have d2 : decide ((z : Int) < 0) = false := by simp
    have d3 : decide ((s.size : Int) < (a : Int)) = false := by simp; omega
    have d4 : decide ((s.size : Int) - (a : Int) < (z : Int)) = false := by simp; omega
    by_cases he : e' = 0
    · subst he
      have hn1 := (hle1 rfl).1
      clear hle1 hle2
      by_cases hn : n' < z
      · have dn : decide ((n' : Int) < (z : Int)) = true := by simp; omega
        have dn2 : ((n' : Int) != (z : Int)) = true := by rw [bne_iff_ne]; omega
        have dn3 : ((n' : Int) == (z : Int)) = false := by rw [beq_eq_false_iff_ne]; omega
        rw [if_pos (.inr (.inl hn))] at HV2
        rw [HV2.out]
        dsimp only
        clear HV2
        go_enter Try.func15, Try.ntmps15
        go_wp2_with fail
        refine (HO.out _).mono ?_
        rintro e w1 ⟨rfl, b1⟩
        have HB1 := Lib.hid (HBW.out.trans (b1.mono HBW.out.size))
        have y1 := (b1.cell (p := ⟨w.heap.size, 1, none⟩) (by simp)).trans (cells3P (heap_alloc_new w (.cells #[.string key, .int .i64 (a : Int), .int .i64 (z : Int)] 30))).2.1
        have y2 := (b1.cell (p := ⟨w.heap.size, 2, none⟩) (by simp)).trans (cells3P (heap_alloc_new w (.cells #[.string key, .int .i64 (a : Int), .int .i64 (z : Int)] 30))).2.2.1
        clear b1
        go_wp2_with fail
        go_ret2
        exact ⟨rfl, HB1.out⟩
      · have dn : decide ((n' : Int) < (z : Int)) = false := by simp; omega
        obtain rfl : n' = z := by omega
        have dn2 : ((n' : Int) != (n' : Int)) = false := by simp
        have dn3 : ((n' : Int) == (n' : Int)) = true := by simp
        by_cases hsh : T.size < 32
        · have d32 : decide ((T.size : Int) < 32) = true := by simp; omega
          rw [if_pos (.inr (.inr hsh))] at HV2
          rw [HV2.out]
          dsimp only
          clear HV2
          go_enter Try.func15, Try.ntmps15
          go_wp2_with fail
          refine (HO.out _).mono ?_
          rintro e w1 ⟨rfl, b1⟩
          have HB1 := Lib.hid (HBW.out.trans (b1.mono HBW.out.size))
          have y0 := (b1.cell (p := ⟨w.heap.size, 0, none⟩) (by simp)).trans (cells3P (heap_alloc_new w (.cells #[.string key, .int .i64 (a : Int), .int .i64 (n' : Int)] 30))).1
          have y1 := (b1.cell (p := ⟨w.heap.size, 1, none⟩) (by simp)).trans (cells3P (heap_alloc_new w (.cells #[.string key, .int .i64 (a : Int), .int .i64 (n' : Int)] 30))).2.1
          have y2 := (b1.cell (p := ⟨w.heap.size, 2, none⟩) (by simp)).trans (cells3P (heap_alloc_new w (.cells #[.string key, .int .i64 (a : Int), .int .i64 (n' : Int)] 30))).2.2.1
          have hw1 : w.heap.size < w1.heap.size := by have := b1.size; simp at this; omega
          clear b1
          have HSP := Lib.hid (fun w => split_any T (by omega) w)
          rw [if_pos hsh] at HSP
          go_wp2_with fail
          refine (HSP.out _).mono ?_
          rintro e w2 ⟨rfl, b2⟩
          have HB2 := Lib.hid (HB1.out.trans (b2.mono HB1.out.size))
          clear b2
          go_wp2_with fail
          go_ret2
          exact ⟨rfl, HB2.out⟩
        · have d32 : decide ((T.size : Int) < 32) = false := by simp; omega
          have h32 : (32 : Int) ≤ (T.size : Int) := by omega
          rw [if_neg (by rintro (h | h | h) <;> omega)] at HV2
          by_cases hg : goodT T = true
          · by_cases hk : T.extract 0 32 = key
            · have dk : ((T.extract 0 32).toList == key.toList) = true := by rw [hk]; simp
              rw [if_pos ⟨hg, hk⟩] at HV2
              rw [HV2.out]
              dsimp only
              have HSP := Lib.hid (fun w => split_any T (by omega) w)
              rw [if_neg hsh, if_pos hg] at HSP
              clear HV2 hk hg
              go_enter Try.func15, Try.ntmps15
              go_wp2_with fail
              refine (HO.out _).mono ?_
              rintro e w1 ⟨rfl, b1⟩
              have HB1 := Lib.hid (HBW.out.trans (b1.mono HBW.out.size))
              have y0 := (b1.cell (p := ⟨w.heap.size, 0, none⟩) (by simp)).trans (cells3P (heap_alloc_new w (.cells #[.string key, .int .i64 (a : Int), .int .i64 (n' : Int)] 30))).1
              have y1 := (b1.cell (p := ⟨w.heap.size, 1, none⟩) (by simp)).trans (cells3P (heap_alloc_new w (.cells #[.string key, .int .i64 (a : Int), .int .i64 (n' : Int)] 30))).2.1
              have y2 := (b1.cell (p := ⟨w.heap.size, 2, none⟩) (by simp)).trans (cells3P (heap_alloc_new w (.cells #[.string key, .int .i64 (a : Int), .int .i64 (n' : Int)] 30))).2.2.1
              have hw1 : w.heap.size < w1.heap.size := by have := b1.size; simp at this; omega
              clear b1
              go_wp2_with fail
              refine (HSP.out _).mono ?_
              rintro e w2 ⟨rfl, b2⟩
              have HB2 := Lib.hid (HB1.out.trans (b2.mono HB1.out.size))
              have u0 := (b2.cell (p := ⟨w.heap.size, 0, none⟩) hw1).trans y0
              clear b2 y0
              go_wp2_with fail
              go_ret2
              exact ⟨rfl, HB2.out⟩
            · have dk : ((T.extract 0 32).toList == key.toList) = false := by
                rw [beq_eq_false_iff_ne]
                exact fun e => hk (data_eq e)
              rw [if_neg (fun h => hk h.2)] at HV2
              rw [HV2.out]
              dsimp only
              have HSP := Lib.hid (fun w => split_any T (by omega) w)
              rw [if_neg hsh, if_pos hg] at HSP
              clear HV2 hk hg
              go_enter Try.func15, Try.ntmps15
              go_wp2_with fail
              refine (HO.out _).mono ?_
              rintro e w1 ⟨rfl, b1⟩
              have HB1 := Lib.hid (HBW.out.trans (b1.mono HBW.out.size))
              have y0 := (b1.cell (p := ⟨w.heap.size, 0, none⟩) (by simp)).trans (cells3P (heap_alloc_new w (.cells #[.string key, .int .i64 (a : Int), .int .i64 (n' : Int)] 30))).1
              have y1 := (b1.cell (p := ⟨w.heap.size, 1, none⟩) (by simp)).trans (cells3P (heap_alloc_new w (.cells #[.string key, .int .i64 (a : Int), .int .i64 (n' : Int)] 30))).2.1
              have y2 := (b1.cell (p := ⟨w.heap.size, 2, none⟩) (by simp)).trans (cells3P (heap_alloc_new w (.cells #[.string key, .int .i64 (a : Int), .int .i64 (n' : Int)] 30))).2.2.1
              have hw1 : w.heap.size < w1.heap.size := by have := b1.size; simp at this; omega
              clear b1
              go_wp2_with fail
              refine (HSP.out _).mono ?_
              rintro e w2 ⟨rfl, b2⟩
              have HB2 := Lib.hid (HB1.out.trans (b2.mono HB1.out.size))
              have u0 := (b2.cell (p := ⟨w.heap.size, 0, none⟩) hw1).trans y0
              clear b2 y0
              go_wp2_with fail
              go_ret2
              exact ⟨rfl, HB2.out⟩
          · rw [if_neg (fun h => hg h.1)] at HV2
            rw [HV2.out]
            dsimp only
            have HSP := Lib.hid (fun w => split_any T (by omega) w)
            rw [if_neg hsh, if_neg hg] at HSP
            clear HV2 hg
            go_enter Try.func15, Try.ntmps15
            go_wp2_with fail
            refine (HO.out _).mono ?_
            rintro e w1 ⟨rfl, b1⟩
            have HB1 := Lib.hid (HBW.out.trans (b1.mono HBW.out.size))
            have y0 := (b1.cell (p := ⟨w.heap.size, 0, none⟩) (by simp)).trans (cells3P (heap_alloc_new w (.cells #[.string key, .int .i64 (a : Int), .int .i64 (n' : Int)] 30))).1
            have y1 := (b1.cell (p := ⟨w.heap.size, 1, none⟩) (by simp)).trans (cells3P (heap_alloc_new w (.cells #[.string key, .int .i64 (a : Int), .int .i64 (n' : Int)] 30))).2.1
            have y2 := (b1.cell (p := ⟨w.heap.size, 2, none⟩) (by simp)).trans (cells3P (heap_alloc_new w (.cells #[.string key, .int .i64 (a : Int), .int .i64 (n' : Int)] 30))).2.2.1
            have hw1 : w.heap.size < w1.heap.size := by have := b1.size; simp at this; omega
            clear b1
            go_wp2_with fail
            refine (HSP.out _).mono ?_
            rintro e w2 ⟨rfl, b2⟩
            have HB2 := Lib.hid (HB1.out.trans (b2.mono HB1.out.size))
            have u0 := (b2.cell (p := ⟨w.heap.size, 0, none⟩) hw1).trans y0
            clear b2 y0
            go_wp2_with fail
            go_ret2
            exact ⟨rfl, HB2.out⟩
    · have he' : ((e' : Int) != 0) = true := by simp; omega
      rw [if_pos (.inl he)] at HV2
      rw [HV2.out]
      dsimp only
      clear HV2 hle1 hle2
      go_enter Try.func15, Try.ntmps15
      go_wp2_with fail
      refine (HO.out _).mono ?_
      rintro e w1 ⟨rfl, b1⟩
      have HB1 := Lib.hid (HBW.out.trans (b1.mono HBW.out.size))
      clear b1
      go_wp2_with fail
      go_ret2
      exact ⟨rfl, HB1.out⟩
  · have hv : takeV s key at0 sz = (⟨#[]⟩, 4) := by unfold takeV; rw [if_neg h]
    rw [hv]
    dsimp only
    have h' : ¬ (0 ≤ at0 ∧ 0 ≤ sz ∧ at0 ≤ s.size ∧ sz ≤ s.size - at0) := by
      intro hh; exact h (by unfold inR; simpa using hh)
    clear hv h
    by_cases h1 : at0 < 0
    · have d1 : decide (at0 < 0) = true := by simpa using h1
      go_enter Try.func15, Try.ntmps15
      go_wp2
      go_ret2
      exact ⟨rfl, HBW.out⟩
    · have d1 : decide (at0 < 0) = false := by simpa using h1
      by_cases h2 : sz < 0
      · have d2 : decide (sz < 0) = true := by simpa using h2
        go_enter Try.func15, Try.ntmps15
        go_wp2
        go_ret2
        exact ⟨rfl, HBW.out⟩
      · have d2 : decide (sz < 0) = false := by simpa using h2
        by_cases h3 : (s.size : Int) < at0
        · have d3 : decide ((s.size : Int) < at0) = true := by simpa using h3
          go_enter Try.func15, Try.ntmps15
          go_wp2
          go_ret2
          exact ⟨rfl, HBW.out⟩
        · have d3 : decide ((s.size : Int) < at0) = false := by simpa using h3
          have h4 : (s.size : Int) - at0 < sz := by omega
          have d4 : decide ((s.size : Int) - at0 < sz) = true := by simpa using h4
          have hb0 : (0 : Int) ≤ at0 := by omega
          have hb1 : at0 ≤ (s.size : Int) := by omega
          clear h'
          go_enter Try.func15, Try.ntmps15
          go_wp2
          go_ret2
          exact ⟨rfl, HBW.out⟩
set_option maxRecDepth 20000 in
set_option maxHeartbeats 2000000 in
theorem prtake_any (s key : ByteArray) (at0 sz : Int) (w : World) (hs : s.size ≤ 1000000000) (ha : -9223372036854775808 ≤ at0 ∧ at0 ≤ 9223372036854775807) (hz : -9223372036854775808 ≤ sz ∧ sz ≤ 9223372036854775807) :
    Calls Try.prog 16 #[.string s, .agg #[.string key, .int .i64 at0, .int .i64 sz]] w fun e w' => e = .returned (.tuple #[.string (takeV s key at0 sz).1, .int .i64 (takeV s key at0 sz).2]) ∧ Below w.heap.size w w' := by
  obtain ⟨ha1, ha2⟩ := ha
  obtain ⟨hz1, hz2⟩ := hz
  have HBW : Hid (Below w.heap.size w (w.alloc (.cells #[.string key, .int .i64 at0, .int .i64 sz] 30))) := (Below.refl _ _).alloc (Nat.le_refl _) _
  by_cases h : inR s.size at0 sz = true
  · have h' := h
    unfold inR at h'
    rw [decide_eq_true_iff] at h'
    obtain ⟨h1, h2, h3, h4⟩ := h'
    obtain ⟨a, rfl⟩ := Int.eq_ofNat_of_zero_le h1
    obtain ⟨z, rfl⟩ := Int.eq_ofNat_of_zero_le h2
    have hsum : (a : Int) + (z : Int) ≤ (s.size : Int) := by omega
    have hsum0 : (0 : Int) ≤ (a : Int) + (z : Int) := by omega
    have haz : (a : Int) ≤ (a : Int) + (z : Int) := by omega
    have htn : ((a : Int) + (z : Int)).toNat = a + z := by omega
    have hx : (s.extract a (a + z)).size ≤ 1000000000 := by rw [ByteArray.size_extract]; omega
    have HO := Lib.hid (fun w => refOpen_any (s.extract a (a + z)) (by omega) w)
    have HV := Lib.hid (takeV_in s key a z h)
    have hlT := fOpen_lenT (s.extract a (a + z)).data.toList
    have hle := fOpen_leP (s.extract a (a + z)).data.toList
    have hxl : (s.extract a (a + z)).data.toList.length = z := by rw [Array.length_toList]; show (s.extract a (a + z)).size = z; rw [ByteArray.size_extract]; omega
    rw [hxl] at hlT hle
    generalize fOpen (s.extract a (a + z)).data.toList = r at *
    obtain ⟨t, n', e'⟩ := r
    dsimp only at *
    have HV2 := Lib.hid (HV.out t n' e' rfl)
    obtain ⟨T, hT⟩ : ∃ T : ByteArray, T = ⟨t.toArray⟩ := ⟨_, rfl⟩
    have hTs : T.size ≤ 1000000000 := by
      rw [hT]; show t.toArray.size ≤ _; rw [List.size_toArray]; omega
    rw [← hT] at HO HV2
    obtain ⟨hle1, hle2⟩ := hle
    clear hlT hxl hT HV h hx
    have d1 : decide ((a : Int) < 0) = false := by simp
    have d2 : decide ((z : Int) < 0) = false := by simp
    have d3 : decide ((s.size : Int) < (a : Int)) = false := by simp; omega
    have d4 : decide ((s.size : Int) - (a : Int) < (z : Int)) = false := by simp; omega
    by_cases he : e' = 0
    · subst he
      have hn1 := (hle1 rfl).1
      clear hle1 hle2
      by_cases hn : n' < z
      · have dn : decide ((n' : Int) < (z : Int)) = true := by simp; omega
        have dn2 : ((n' : Int) != (z : Int)) = true := by rw [bne_iff_ne]; omega
        have dn3 : ((n' : Int) == (z : Int)) = false := by rw [beq_eq_false_iff_ne]; omega
        rw [if_pos (.inr (.inl hn))] at HV2
        rw [HV2.out]
        dsimp only
        clear HV2
        go_enter Try.func16, Try.ntmps16
        go_wp2_with fail
        refine (HO.out _).mono ?_
        rintro e w1 ⟨rfl, b1⟩
        have HB1 := Lib.hid (HBW.out.trans (b1.mono HBW.out.size))
        have y1 := (b1.cell (p := ⟨w.heap.size, 1, none⟩) (by simp)).trans (cells3P (heap_alloc_new w (.cells #[.string key, .int .i64 (a : Int), .int .i64 (z : Int)] 30))).2.1
        have y2 := (b1.cell (p := ⟨w.heap.size, 2, none⟩) (by simp)).trans (cells3P (heap_alloc_new w (.cells #[.string key, .int .i64 (a : Int), .int .i64 (z : Int)] 30))).2.2.1
        clear b1
        go_wp2_with fail
        go_ret2
        exact ⟨rfl, HB1.out⟩
      · have dn : decide ((n' : Int) < (z : Int)) = false := by simp; omega
        obtain rfl : n' = z := by omega
        have dn2 : ((n' : Int) != (n' : Int)) = false := by simp
        have dn3 : ((n' : Int) == (n' : Int)) = true := by simp
        by_cases hsh : T.size < 32
        · have d32 : decide ((T.size : Int) < 32) = true := by simp; omega
          rw [if_pos (.inr (.inr hsh))] at HV2
          rw [HV2.out]
          dsimp only
          clear HV2
          go_enter Try.func16, Try.ntmps16
          go_wp2_with fail
          refine (HO.out _).mono ?_
          rintro e w1 ⟨rfl, b1⟩
          have HB1 := Lib.hid (HBW.out.trans (b1.mono HBW.out.size))
          have y0 := (b1.cell (p := ⟨w.heap.size, 0, none⟩) (by simp)).trans (cells3P (heap_alloc_new w (.cells #[.string key, .int .i64 (a : Int), .int .i64 (n' : Int)] 30))).1
          have y1 := (b1.cell (p := ⟨w.heap.size, 1, none⟩) (by simp)).trans (cells3P (heap_alloc_new w (.cells #[.string key, .int .i64 (a : Int), .int .i64 (n' : Int)] 30))).2.1
          have y2 := (b1.cell (p := ⟨w.heap.size, 2, none⟩) (by simp)).trans (cells3P (heap_alloc_new w (.cells #[.string key, .int .i64 (a : Int), .int .i64 (n' : Int)] 30))).2.2.1
          have hw1 : w.heap.size < w1.heap.size := by have := b1.size; simp at this; omega
          clear b1
          go_wp2_with fail
          go_ret2
          exact ⟨rfl, HB1.out⟩
        · have d32 : decide ((T.size : Int) < 32) = false := by simp; omega
          have h32 : (32 : Int) ≤ (T.size : Int) := by omega
          rw [if_neg (by rintro (h | h | h) <;> omega)] at HV2
          have HGD : Hid (goodT T = decide (shaSum (T.extract 32 T.size).data.toList = T.extract 0 32)) := by unfold Hid goodT; rw [decide_eq_true (by omega), Bool.true_and]
          have HSm := Lib.hid (fun w => refSum_any (T.extract 32 T.size) w (by rw [ByteArray.size_extract]; omega))
          generalize hsm : shaSum (T.extract 32 T.size).data.toList = sm at *
          clear hsm
          rw [HGD.out] at HV2
          clear HGD
          by_cases hk : T.extract 0 32 = key
          · have dk : ((T.extract 0 32).toList == key.toList) = true := by rw [hk]; simp
            by_cases hq : sm = key
            · have dq : (sm.toList == key.toList) = true := by rw [hq]; simp
              rw [if_pos ⟨by rw [hq, hk]; simp, hk⟩] at HV2
              rw [HV2.out]
              dsimp only
              clear HV2 hk hq
              go_enter Try.func16, Try.ntmps16
              go_wp2_with fail
              refine (HO.out _).mono ?_
              rintro e w1 ⟨rfl, b1⟩
              have HB1 := Lib.hid (HBW.out.trans (b1.mono HBW.out.size))
              have y0 := (b1.cell (p := ⟨w.heap.size, 0, none⟩) (by simp)).trans (cells3P (heap_alloc_new w (.cells #[.string key, .int .i64 (a : Int), .int .i64 (n' : Int)] 30))).1
              have y1 := (b1.cell (p := ⟨w.heap.size, 1, none⟩) (by simp)).trans (cells3P (heap_alloc_new w (.cells #[.string key, .int .i64 (a : Int), .int .i64 (n' : Int)] 30))).2.1
              have y2 := (b1.cell (p := ⟨w.heap.size, 2, none⟩) (by simp)).trans (cells3P (heap_alloc_new w (.cells #[.string key, .int .i64 (a : Int), .int .i64 (n' : Int)] 30))).2.2.1
              have hw1 : w.heap.size < w1.heap.size := by have := b1.size; simp at this; omega
              clear b1
              go_wp2_with fail
              go_region_held3 (fun w' => w'.cell? ⟨w.heap.size, 0, none⟩ = some (.string key)) (first | exact y0 | (have hh : World.cell? _ ⟨w.heap.size, 0, none⟩ = some (.string key) := (by with_reducible assumption); exact (b2.cell (p := ⟨w.heap.size, 0, none⟩) hw1).trans hh)) (first | (go_at_call 19; refine (HSm.out _).mono ?_; rintro e w2 ⟨rfl, b2⟩))
              replace b2 := below_drew0 b2
              have HB2 := Lib.hid (HB1.out.trans (b2.mono HB1.out.size))
              clear b2
              go_wp2_with fail
              go_ret2
              exact ⟨rfl, HB2.out⟩
            · have dq : (sm.toList == key.toList) = false := by
                rw [beq_eq_false_iff_ne]
                exact fun e => hq (data_eq e)
              rw [if_neg (fun h => hq (by have := of_decide_eq_true h.1; rw [this]; exact h.2))] at HV2
              rw [HV2.out]
              dsimp only
              clear HV2 hk hq
              go_enter Try.func16, Try.ntmps16
              go_wp2_with fail
              refine (HO.out _).mono ?_
              rintro e w1 ⟨rfl, b1⟩
              have HB1 := Lib.hid (HBW.out.trans (b1.mono HBW.out.size))
              have y0 := (b1.cell (p := ⟨w.heap.size, 0, none⟩) (by simp)).trans (cells3P (heap_alloc_new w (.cells #[.string key, .int .i64 (a : Int), .int .i64 (n' : Int)] 30))).1
              have y1 := (b1.cell (p := ⟨w.heap.size, 1, none⟩) (by simp)).trans (cells3P (heap_alloc_new w (.cells #[.string key, .int .i64 (a : Int), .int .i64 (n' : Int)] 30))).2.1
              have y2 := (b1.cell (p := ⟨w.heap.size, 2, none⟩) (by simp)).trans (cells3P (heap_alloc_new w (.cells #[.string key, .int .i64 (a : Int), .int .i64 (n' : Int)] 30))).2.2.1
              have hw1 : w.heap.size < w1.heap.size := by have := b1.size; simp at this; omega
              clear b1
              go_wp2_with fail
              go_region_held3 (fun w' => w'.cell? ⟨w.heap.size, 0, none⟩ = some (.string key)) (first | exact y0 | (have hh : World.cell? _ ⟨w.heap.size, 0, none⟩ = some (.string key) := (by with_reducible assumption); exact (b2.cell (p := ⟨w.heap.size, 0, none⟩) hw1).trans hh)) (first | (go_at_call 19; refine (HSm.out _).mono ?_; rintro e w2 ⟨rfl, b2⟩))
              replace b2 := below_drew0 b2
              have HB2 := Lib.hid (HB1.out.trans (b2.mono HB1.out.size))
              clear b2
              go_wp2_with fail
              go_ret2
              exact ⟨rfl, HB2.out⟩
          · have dk : ((T.extract 0 32).toList == key.toList) = false := by
              rw [beq_eq_false_iff_ne]
              exact fun e => hk (data_eq e)
            rw [if_neg (fun h => hk h.2)] at HV2
            rw [HV2.out]
            dsimp only
            clear HV2 hk
            go_enter Try.func16, Try.ntmps16
            go_wp2_with fail
            refine (HO.out _).mono ?_
            rintro e w1 ⟨rfl, b1⟩
            have HB1 := Lib.hid (HBW.out.trans (b1.mono HBW.out.size))
            have y0 := (b1.cell (p := ⟨w.heap.size, 0, none⟩) (by simp)).trans (cells3P (heap_alloc_new w (.cells #[.string key, .int .i64 (a : Int), .int .i64 (n' : Int)] 30))).1
            have y1 := (b1.cell (p := ⟨w.heap.size, 1, none⟩) (by simp)).trans (cells3P (heap_alloc_new w (.cells #[.string key, .int .i64 (a : Int), .int .i64 (n' : Int)] 30))).2.1
            have y2 := (b1.cell (p := ⟨w.heap.size, 2, none⟩) (by simp)).trans (cells3P (heap_alloc_new w (.cells #[.string key, .int .i64 (a : Int), .int .i64 (n' : Int)] 30))).2.2.1
            have hw1 : w.heap.size < w1.heap.size := by have := b1.size; simp at this; omega
            clear b1
            go_wp2_with fail
            go_quiet (fail)
            go_wp2_with fail
            go_ret2
            exact ⟨rfl, Below.drewN HB1.out _⟩
    · have he' : ((e' : Int) != 0) = true := by simp; omega
      rw [if_pos (.inl he)] at HV2
      rw [HV2.out]
      dsimp only
      clear HV2 hle1 hle2
      go_enter Try.func16, Try.ntmps16
      go_wp2_with fail
      refine (HO.out _).mono ?_
      rintro e w1 ⟨rfl, b1⟩
      have HB1 := Lib.hid (HBW.out.trans (b1.mono HBW.out.size))
      clear b1
      go_wp2_with fail
      go_ret2
      exact ⟨rfl, HB1.out⟩
  · have hv : takeV s key at0 sz = (⟨#[]⟩, 4) := by unfold takeV; rw [if_neg h]
    rw [hv]
    dsimp only
    have h' : ¬ (0 ≤ at0 ∧ 0 ≤ sz ∧ at0 ≤ s.size ∧ sz ≤ s.size - at0) := by
      intro hh; exact h (by unfold inR; simpa using hh)
    clear hv h
    by_cases h1 : at0 < 0
    · have d1 : decide (at0 < 0) = true := by simpa using h1
      go_enter Try.func16, Try.ntmps16
      go_wp2
      go_ret2
      exact ⟨rfl, HBW.out⟩
    · have d1 : decide (at0 < 0) = false := by simpa using h1
      by_cases h2 : sz < 0
      · have d2 : decide (sz < 0) = true := by simpa using h2
        go_enter Try.func16, Try.ntmps16
        go_wp2
        go_ret2
        exact ⟨rfl, HBW.out⟩
      · have d2 : decide (sz < 0) = false := by simpa using h2
        by_cases h3 : (s.size : Int) < at0
        · have d3 : decide ((s.size : Int) < at0) = true := by simpa using h3
          go_enter Try.func16, Try.ntmps16
          go_wp2
          go_ret2
          exact ⟨rfl, HBW.out⟩
        · have d3 : decide ((s.size : Int) < at0) = false := by simpa using h3
          have h4 : (s.size : Int) - at0 < sz := by omega
          have d4 : decide ((s.size : Int) - at0 < sz) = true := by simpa using h4
          have hb0 : (0 : Int) ≤ at0 := by omega
          have hb1 : at0 ≤ (s.size : Int) := by omega
          clear h'
          go_enter Try.func16, Try.ntmps16
          go_wp2
          go_ret2
          exact ⟨rfl, HBW.out⟩
end Go.Proofs.Ytkbpkodakfknoaa
