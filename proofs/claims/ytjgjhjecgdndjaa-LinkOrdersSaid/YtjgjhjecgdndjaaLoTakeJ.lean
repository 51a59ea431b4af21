/- link.Take of junk: the end stays, nothing is told (printed by gen-lo-take.py j). -/
import Derived.Test.YtjgjhjecgdndjaaLoTake
namespace Go.Proofs.Ytjgjhjecgdndjaa
open Go.RowKit
set_option linter.unusedVariables false
set_option linter.unusedSimpArgs false
set_option maxRecDepth 20000 in
set_option maxHeartbeats 8000000 in
theorem takeJ (ses : UInt64) (base k : Nat) (idle : Int) (dead : Bool) (vo vw ve : Value) (lo lw : List ByteArray) (le : List Frm4) (raw : ByteArray) (w : World) (ho : StrsN w vo lo) (hwt : StrsN w vw lw) (hf : FrsN w ve le) (hat : ∀ b, ve.ownBlock = some b → b < w.heap.size) (hb9 : base ≤ 90) (hk9 : k ≤ 90) (h4 : lo.length ≤ 4) (hl : le.length ≤ 900) (hi : 0 ≤ idle ∧ idle ≤ 40) (hraw : raw.size ≤ 1000000)
    (hgood : ∀ (q a : Nat) (d : ByteArray), lRead raw.data.toList ≠ ((ses.toNat, q, a, d.data.toList), 0)) :
    Calls Try.prog 14 #[End8 ses.toNat base vo vw k ve idle dead, .string raw] w (fun e w' => e = .returned (.tuple #[End8 ses.toNat base vo vw k ve idle dead, .slice none 0 0]) ∧ Below w.heap.size w w') := by
  obtain ⟨s2, q, a, d, err, hrd, hq, ha, hrc⟩ := read_frX raw hraw w
  have HR := Lib.hid (fun W => (read_frX raw hraw W))
  have HRD := Lib.hid hrd
  have HGOOD := Lib.hid hgood
  obtain ⟨Ao, co, rfl, hoc, hom⟩ := ho.1.len
  obtain ⟨Aw, cw, rfl, _, _⟩ := hwt.1.len
  obtain ⟨Ae, ce, rfl, _, _⟩ := hf.len
  obtain ⟨no, hno⟩ : ∃ no, no = lo.length := ⟨_, rfl⟩
  obtain ⟨nw, hnw⟩ : ∃ nw, nw = lw.length := ⟨_, rfl⟩
  obtain ⟨ne, hne⟩ : ∃ ne, ne = le.length := ⟨_, rfl⟩
  rw [← hno] at ho hoc h4
  rw [← hnw] at hwt
  rw [← hne] at hf hl
  rw [← hno, ← hnw, ← hne]
  rw [← hne] at hat
  have HAT := Lib.hid hat
  have HNO := Lib.hid hno.symm
  have HNE := Lib.hid hne.symm
  have HO := Lib.hid ho
  have HWT := Lib.hid hwt
  have HF := Lib.hid hf
  clear hno hnw hne ho hwt hf hat hgood hrd
  unfold End8
  have q1 := World.alloc_heap_new w (.cells #[.int .u64 ses.toNat, .int .i64 base, .slice Ao no co, .slice Aw nw cw, .int .i64 k, .slice Ae ne ce, .int .i64 idle, .bool dead] 37)
  obtain ⟨wp, hwp⟩ : ∃ wp, wp = w.alloc (.cells #[.int .u64 ses.toNat, .int .i64 base, .slice Ao no co, .slice Aw nw cw, .int .i64 k, .slice Ae ne ce, .int .i64 idle, .bool dead] 37) := ⟨_, rfl⟩
  rw [← hwp] at q1
  have HBp : Hid (Below w.heap.size w wp) := by unfold Hid; rw [hwp]; exact (Below.refl _ _).alloc (Nat.le_refl _) _
  have hsp : wp.heap.size = w.heap.size + 1 := by rw [hwp]; simp
  have q2 := World.alloc_heap_new wp (.cells #[.int .u64 0, .int .i64 0, .slice none 0 0, .slice none 0 0, .int .i64 0, .slice none 0 0, .int .i64 0, .bool false] 37)
  obtain ⟨wo, hwo⟩ : ∃ wo, wo = wp.alloc (.cells #[.int .u64 0, .int .i64 0, .slice none 0 0, .slice none 0 0, .int .i64 0, .slice none 0 0, .int .i64 0, .bool false] 37) := ⟨_, rfl⟩
  rw [← hwo, hsp] at q2
  have HBo : Hid (Below wp.heap.size wp wo) := by unfold Hid; rw [hwo]; exact (Below.refl _ _).alloc (Nat.le_refl _) _
  have hso : wo.heap.size = w.heap.size + 1 + 1 := by rw [hwo]; simp [hsp]
  have HX1 := Lib.hid ((cells8 q1).below HBo.out (by omega))
  have HX2 := Lib.hid (cells8 q2)
  have HB := Lib.hid (HBp.out.trans (HBo.out.mono (by omega)))
  have HWO : Hid ((w.alloc (.cells #[.int .u64 ses.toNat, .int .i64 base, .slice Ao no co, .slice Aw nw cw, .int .i64 k, .slice Ae ne ce, .int .i64 idle, .bool dead] 37)).alloc (.cells #[.int .u64 0, .int .i64 0, .slice none 0 0, .slice none 0 0, .int .i64 0, .slice none 0 0, .int .i64 0, .bool false] 37) = wo) := by unfold Hid; rw [← hwp, ← hwo]
  have HSO := Lib.hid hso
  have hrw := (read_frX raw hraw wo)
  obtain ⟨s2', q', a', d', err', hrd', hq', ha', hrc'⟩ := hrw
  have heq : s2' = s2 ∧ q' = q ∧ a' = a ∧ d' = d ∧ err' = err := by
    rw [HRD.out] at hrd'
    injection hrd' with h1 h2
    injection h1 with h1 h3
    injection h3 with h3 h5
    injection h5 with h5 h6
    exact ⟨(UInt64.toNat_inj.1 h1).symm, h3.symm, h5.symm, (ByteArray.ext (Array.toList_inj.1 h6)).symm, h2.symm⟩
  obtain ⟨rfl, rfl, rfl, rfl, rfl⟩ := heq
  have HRC := Lib.hid hrc'
  clear q1 q2 hwp hwo hsp hso HBp HBo hrc hrd' hrc' hq' ha' HR
  clear wp
  go_enter Try.func14, Try.ntmps14
  go_wp2_with fail
  rw [HWO.out]
  refine HRC.out.mono ?_
  rintro e w1 ⟨rfl, b1⟩
  have hs1 : w.heap.size + 1 + 1 ≤ w1.heap.size := by have := b1.size; have := HSO.out; omega
  have HY1 := Lib.hid (HX1.out.below b1 (by have := HSO.out; omega))
  have HY2 := Lib.hid (HX2.out.below b1 (by have := HSO.out; omega))
  have HB1 := Lib.hid (HB.out.trans (b1.mono HB.out.size))
  clear b1 HX1 HX2 HB HWO HSO HRC
  have q1 := World.alloc_heap_new w1 (.cells #[.int .u64 s2'.toNat, .int .i64 q', .int .i64 a', .string d'] 24)
  obtain ⟨w2, hw2⟩ : ∃ w2, w2 = w1.alloc (.cells #[.int .u64 s2'.toNat, .int .i64 q', .int .i64 a', .string d'] 24) := ⟨_, rfl⟩
  have HW2 : Hid (w1.alloc (.cells #[.int .u64 s2'.toNat, .int .i64 q', .int .i64 a', .string d'] 24) = w2) := hw2.symm
  have hb2 : Below w1.heap.size w1 w2 := by rw [hw2]; exact (Below.refl _ _).alloc (Nat.le_refl _) _
  have hs2 : w2.heap.size = w1.heap.size + 1 := by rw [hw2]; simp
  rw [← hw2] at q1
  have HZ1 := Lib.hid (HY1.out.below hb2 (by omega))
  have HZ2 := Lib.hid (HY2.out.below hb2 (by omega))
  have q3 := World.alloc_heap_new w2 (.cells #[.int .u64 ses.toNat, .int .i64 base, .slice Ao no co, .slice Aw nw cw, .int .i64 k, .slice Ae ne ce, .int .i64 idle, .bool dead] 69)
  obtain ⟨w3, hw3⟩ : ∃ w3, w3 = w2.alloc (.cells #[.int .u64 ses.toNat, .int .i64 base, .slice Ao no co, .slice Aw nw cw, .int .i64 k, .slice Ae ne ce, .int .i64 idle, .bool dead] 69) := ⟨_, rfl⟩
  have HW3 : Hid (w2.alloc (.cells #[.int .u64 ses.toNat, .int .i64 base, .slice Ao no co, .slice Aw nw cw, .int .i64 k, .slice Ae ne ce, .int .i64 idle, .bool dead] 69) = w3) := hw3.symm
  have hb3 : Below w2.heap.size w2 w3 := by rw [hw3]; exact (Below.refl _ _).alloc (Nat.le_refl _) _
  have hs3 : w3.heap.size = w2.heap.size + 1 := by rw [hw3]; simp
  rw [← hw3] at q3
  rw [hs2] at q3
  have HK := Lib.hid (cells8 q3)
  have HFB := Lib.hid ((hb3.block w1.heap.size (by omega)).trans q1)
  have HU1 := Lib.hid (HZ1.out.below hb3 (by omega))
  have HU2 := Lib.hid (HZ2.out.below hb3 (by omega))
  have HB3 := Lib.hid ((HB1.out.trans (hb2.mono HB1.out.size)).trans (hb3.mono (by omega)))
  obtain ⟨a0, a1, a2, a3, a4, a5, a6, a7, _, alt⟩ := HY1.out
  have HY2x := Lib.hid HY2.out
  have HB1x := Lib.hid HB1.out
  have HS2 := Lib.hid hs2
  have HS3 := Lib.hid hs3
  clear q1 q3 hw2 hw3 hb2 hb3 HB1 HY1 HY2 HZ2 HZ1 hs2 hs3
  by_cases herr : err' = 0
  · subst herr
    go_wp2_with fail
    rw [HW2.out, HW3.out]
    refine (wants_any (w1.heap.size + 1) ses s2' base k idle q' a' dead Aw Ae Ao nw cw ne ce no co d' w3 HK.out (by omega) (by omega) (by omega) (by omega) (by omega)).mono ?_
    rintro e w4 ⟨r, rfl, hr, b4⟩
    have hs2 := HS2.out
    have hs3 := HS3.out
    have HK4 := Lib.hid (HK.out.below b4 (by omega))
    have HF4 := Lib.hid ((b4.block w1.heap.size (by omega)).trans HFB.out)
    have HE4 := Lib.hid (HU1.out.below b4 (by omega))
    have HU4 := Lib.hid (HU2.out.below b4 (by omega))
    have HB4 := Lib.hid (HB3.out.trans (b4.mono HB3.out.size))
    have hs4 : w1.heap.size + 2 ≤ w4.heap.size := by have := b4.size; omega
    clear hs2 hs3 b4 HK HFB HU1 HU2 HB3 HW2 HW3 a0 a1 a2 a3 a4 a5 a6 a7 alt
    cases r with
    | false =>
      clear hr
      obtain ⟨a0, a1, a2, a3, a4, a5, a6, a7, _, alt⟩ := HE4.out
      obtain ⟨d0, d1, d2, d3, d4, d5, d6, d7, df, dlt⟩ := HU4.out
      have df0 := df 0
      have df1 := df 1
      have df2 := df 2
      have df3 := df 3
      have df4 := df 4
      have df5 := df 5
      have df6 := df 6
      have df7 := df 7
      clear df
      go_wp2_with fail
      (try simp only [Exit.inBlock, Exit.then])
      refine bodyPost_cell (V := .agg #[.int .u64 ses.toNat, .int .i64 base, .slice Ao no co, .slice Aw nw cw, .int .i64 k, .slice Ae ne ce, .int .i64 idle, .bool dead]) rfl rfl ?_ rfl ?_
      · go_simp
      · have hbz := below_set8 HB4.out (b := w.heap.size + 1) (by omega) (.int .u64 ses.toNat) (.int .i64 base) (.slice Ao no co) (.slice Aw nw cw) (.int .i64 k) (.slice Ae ne ce) (.int .i64 idle) (.bool dead)
        exact ⟨rfl, hbz⟩
    | true =>
      obtain ⟨hses, hba, hano⟩ := hr rfl
      clear hr
      subst hses
      exact absurd HRD.out (HGOOD.out _ _ _)
  · have herr1 : ((err' : Int) != 0) = true := by rw [bne_iff_ne]; omega
    have hs2 := HS2.out
    have hs3 := HS3.out
    clear herr
    obtain ⟨d0, d1, d2, d3, d4, d5, d6, d7, df, dlt⟩ := HY2x.out
    have df0 := df 0
    have df1 := df 1
    have df2 := df 2
    have df3 := df 3
    have df4 := df 4
    have df5 := df 5
    have df6 := df 6
    have df7 := df 7
    clear df
    go_wp2_with fail
    (try simp only [Exit.inBlock, Exit.then])
    refine bodyPost_cell (V := .agg #[.int .u64 ses.toNat, .int .i64 base, .slice Ao no co, .slice Aw nw cw, .int .i64 k, .slice Ae ne ce, .int .i64 idle, .bool dead]) rfl rfl ?_ rfl ?_
    · go_simp
    · have hbz := below_set8 HB1x.out (b := w.heap.size + 1) (by omega) (.int .u64 ses.toNat) (.int .i64 base) (.slice Ao no co) (.slice Aw nw cw) (.int .i64 k) (.slice Ae ne ce) (.int .i64 idle) (.bool dead)
      have hbz := hbz.alloc hbz.size (.cells #[.int .u64 s2'.toNat, .int .i64 q', .int .i64 a', .string d'] 24)
      have hbz := hbz.alloc hbz.size (.cells #[.int .u64 ses.toNat, .int .i64 base, .slice Ao no co, .slice Aw nw cw, .int .i64 k, .slice Ae ne ce, .int .i64 idle, .bool dead] 69)
      exact ⟨rfl, hbz⟩
end Go.Proofs.Ytjgjhjecgdndjaa
