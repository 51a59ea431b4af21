/- link.Take at any end: its walk (printed by gen-lo-take.py). -/
import Derived.Test.YtjgjhjecgdndjaaLoLed
import Derived.Test.YtjgjhjecgdndjaaLoSeq
import Derived.Test.YtjgjhjecgdndjaaLoKeep
import Derived.Test.YtjgjhjecgdndjaaLoWants
import Derived.Test.YtjgjhjecgdndjaaLinkTake
namespace Go.Proofs.Ytjgjhjecgdndjaa
open Go.RowKit
set_option linter.unusedVariables false
set_option linter.unusedSimpArgs false
theorem strsN_nilL (w : World) : StrsN w (.slice none 0 0) [] := ⟨⟨none, 0, rfl, Nat.le_refl _, by unfold maxLen; omega, fun h => absurd h (by simp)⟩, fun n c e => by cases e; rfl⟩
def TakePost (S T : List ByteArray) (ses : UInt64) (k : Nat) (idle : Int) (dead : Bool) (vo vw ve : Value) (lw : List ByteArray) (le : List Frm4) (w : World) (e : Ending) (w' : World) : Prop :=
  ∃ (b' m : Nat) (vo' ve' u : Value) (lo' : List ByteArray) (le' : List Frm4) (idle' : Int), e = .returned (.tuple #[End8 ses.toNat b' vo' vw ((k + m : Nat) : Int) ve' idle' dead, u]) ∧ (b' ≤ S.length ∧ lo' ++ lw = S.drop b') ∧ k + m ≤ T.length ∧ (idle' = idle ∨ idle' = 0) ∧ (StrsN w' vo' lo' ∧ lo'.length ≤ 4 ∧ SrcV w w' vo vo') ∧ (FrsN w' ve' le' ∧ GoodL T ses le' ∧ le'.length ≤ le.length + 1 ∧ SrcV w w' ve ve') ∧ StrsN w' u ((T.drop k).take m) ∧ Below w.heap.size w w'
theorem FrsN.setW {W : World} {v : Value} {l : List Frm4} (h : FrsN W v l) (b j : Nat) (x : Value) (hn : ∀ c, v.ownBlock = some c → c ≠ b) : FrsN (W.setCell ⟨b, j, none⟩ x) v l := h.grown (grown_set W b j x) fun c hc e => hn c hc (Option.some.inj e)
theorem FrsN.set8E {W : World} {v : Value} {l : List Frm4} (h : FrsN W v l) (b : Nat) (hn : ∀ c, v.ownBlock = some c → c ≠ b) (x0 x1 x2 x3 x4 x5 x6 x7 : Value) : FrsN ((((((((W.setCell ⟨b, 0, none⟩ x0).setCell ⟨b, 1, none⟩ x1).setCell ⟨b, 2, none⟩ x2).setCell ⟨b, 3, none⟩ x3).setCell ⟨b, 4, none⟩ x4).setCell ⟨b, 5, none⟩ x5).setCell ⟨b, 6, none⟩ x6).setCell ⟨b, 7, none⟩ x7) v l :=
  (((((((h.setW b 0 _ hn).setW b 1 _ hn).setW b 2 _ hn).setW b 3 _ hn).setW b 4 _ hn).setW b 5 _ hn).setW b 6 _ hn).setW b 7 _ hn
theorem StrsN.setW {W : World} {v : Value} {l : List ByteArray} (h : StrsN W v l) (b j : Nat) (x : Value) (hn : ∀ c, v.ownBlock = some c → c ≠ b) : StrsN (W.setCell ⟨b, j, none⟩ x) v l := h.grown (grown_set W b j x) fun c hc e => hn c hc (Option.some.inj e)
theorem StrsN.set8E {W : World} {v : Value} {l : List ByteArray} (h : StrsN W v l) (b : Nat) (hn : ∀ c, v.ownBlock = some c → c ≠ b) (x0 x1 x2 x3 x4 x5 x6 x7 : Value) : StrsN ((((((((W.setCell ⟨b, 0, none⟩ x0).setCell ⟨b, 1, none⟩ x1).setCell ⟨b, 2, none⟩ x2).setCell ⟨b, 3, none⟩ x3).setCell ⟨b, 4, none⟩ x4).setCell ⟨b, 5, none⟩ x5).setCell ⟨b, 6, none⟩ x6).setCell ⟨b, 7, none⟩ x7) v l :=
  (((((((h.setW b 0 _ hn).setW b 1 _ hn).setW b 2 _ hn).setW b 3 _ hn).setW b 4 _ hn).setW b 5 _ hn).setW b 6 _ hn).setW b 7 _ hn
theorem lRead_parts (s : List UInt8) : ∃ (a q k : Nat) (d : List UInt8) (e : Nat), lRead s = ((a, q, k, d), e) ∧ a < 18446744073709551616 ∧ q ≤ 1073741824 ∧ k ≤ 1073741824 := by
  have h1 := lRead_lt s
  have h2 : (lRead s).1.2.1 ≤ 1073741824 ∧ (lRead s).1.2.2.1 ≤ 1073741824 := by
    unfold lRead
    split
    · exact ⟨by decide, by decide⟩
    · split
      · exact ⟨by decide, by decide⟩
      · split
        · exact ⟨by decide, by decide⟩
        · dsimp only; omega
  generalize lRead s = r at *
  obtain ⟨⟨a, q, k, d⟩, e⟩ := r
  exact ⟨a, q, k, d, e, rfl, h1, h2.1, h2.2⟩
theorem read_frX (raw : ByteArray) (hs : raw.size ≤ 1000000) (w : World) : ∃ (s2 : UInt64) (q a : Nat) (d : ByteArray) (err : Nat), lRead raw.data.toList = ((s2.toNat, q, a, d.data.toList), err) ∧ q ≤ 1073741824 ∧ a ≤ 1073741824 ∧ Calls Try.prog 7 #[.string raw] w fun e w' => e = .returned (.tuple #[.agg #[.int .u64 s2.toNat, .int .i64 (q : Nat), .int .i64 (a : Nat), .string d], .int .i64 (err : Nat)]) ∧ Below w.heap.size w w' := by
  have h := read_any raw hs w
  obtain ⟨s, q, a, d, e, hr, h1, h2, h3⟩ := lRead_parts raw.data.toList
  rw [hr] at h
  unfold FrV at h
  dsimp only at h
  refine ⟨UInt64.ofNat s, q, a, ⟨d.toArray⟩, e, ?_, h2, h3, ?_⟩
  · rw [hr]
    have : (UInt64.ofNat s).toNat = s := by simp [UInt64.toNat_ofNat']; omega
    rw [this]
  · have : (UInt64.ofNat s).toNat = s := by simp [UInt64.toNat_ofNat']; omega
    rw [this]
    exact h
set_option maxRecDepth 20000 in
set_option maxHeartbeats 8000000 in
theorem takeG (S T : List ByteArray) (ses : UInt64) (base k : Nat) (idle : Int) (dead : Bool) (vo vw ve : Value) (lo lw : List ByteArray) (le : List Frm4) (raw : ByteArray) (w : World) (ho : StrsN w vo lo) (hwt : StrsN w vw lw) (hf : FrsN w ve le) (hat : ∀ b, ve.ownBlock = some b → b < w.heap.size) (hb : base ≤ S.length ∧ lo ++ lw = S.drop base) (hk : k ≤ T.length) (hT : T.length ≤ 90) (hS : S.length ≤ 90) (h4 : lo.length ≤ 4) (hg : GoodL T ses le) (hl : le.length ≤ 900) (hi : 0 ≤ idle ∧ idle ≤ 40) (hraw : raw.size ≤ 1000000)
    (hgood : ∀ (q a : Nat) (d : ByteArray), lRead raw.data.toList = ((ses.toNat, q, a, d.data.toList), 0) → d.data.toList = [] ∨ T[q]? = some d) :
    Calls Try.prog 14 #[End8 ses.toNat base vo vw k ve idle dead, .string raw] w (TakePost S T ses k idle dead vo vw ve lw le w) := by
  obtain ⟨s2, q, a, d, err, hrd, hq, ha, hrc⟩ := read_frX raw hraw w
  have HR := Lib.hid (fun W => (read_frX raw hraw W))
  have HRD := Lib.hid hrd
  have HGOOD := Lib.hid hgood
  obtain ⟨Ao, co, rfl, hoc, hom⟩ := ho.1.len
  obtain ⟨Aw, cw, rfl, _, _⟩ := hwt.1.len
  obtain ⟨Ae, ce, rfl, _, _⟩ := hf.len
  obtain ⟨no, hno⟩ : ∃ no, no = lo.length := ⟨_, rfl⟩
  obtain ⟨nw, hnw⟩ : ∃ nw, nw = lw.length := ⟨_, rfl⟩
  obtain ⟨ne, hne⟩ : ∃ ne, ne = le.length := ⟨_, rfl⟩
  rw [← hno] at ho hoc h4
  rw [← hnw] at hwt
  rw [← hne] at hf hl
  rw [← hno, ← hnw, ← hne]
  rw [← hne] at hat
  have HAT := Lib.hid hat
  have HNO := Lib.hid hno.symm
  have HNE := Lib.hid hne.symm
  have HO := Lib.hid ho
  have HWT := Lib.hid hwt
  have HF := Lib.hid hf
  have HBS := Lib.hid hb
  have HG := Lib.hid hg
  have hb9 : base ≤ 90 := by omega
  have hk9 : k ≤ 90 := by omega
  clear hno hnw hne ho hwt hf hat hb hg hgood hrd
  unfold End8
  have q1 := World.alloc_heap_new w (.cells #[.int .u64 ses.toNat, .int .i64 base, .slice Ao no co, .slice Aw nw cw, .int .i64 k, .slice Ae ne ce, .int .i64 idle, .bool dead] 37)
  obtain ⟨wp, hwp⟩ : ∃ wp, wp = w.alloc (.cells #[.int .u64 ses.toNat, .int .i64 base, .slice Ao no co, .slice Aw nw cw, .int .i64 k, .slice Ae ne ce, .int .i64 idle, .bool dead] 37) := ⟨_, rfl⟩
  rw [← hwp] at q1
  have HBp : Hid (Below w.heap.size w wp) := by unfold Hid; rw [hwp]; exact (Below.refl _ _).alloc (Nat.le_refl _) _
  have hsp : wp.heap.size = w.heap.size + 1 := by rw [hwp]; simp
  have q2 := World.alloc_heap_new wp (.cells #[.int .u64 0, .int .i64 0, .slice none 0 0, .slice none 0 0, .int .i64 0, .slice none 0 0, .int .i64 0, .bool false] 37)
  obtain ⟨wo, hwo⟩ : ∃ wo, wo = wp.alloc (.cells #[.int .u64 0, .int .i64 0, .slice none 0 0, .slice none 0 0, .int .i64 0, .slice none 0 0, .int .i64 0, .bool false] 37) := ⟨_, rfl⟩
  rw [← hwo, hsp] at q2
  have HBo : Hid (Below wp.heap.size wp wo) := by unfold Hid; rw [hwo]; exact (Below.refl _ _).alloc (Nat.le_refl _) _
  have hso : wo.heap.size = w.heap.size + 1 + 1 := by rw [hwo]; simp [hsp]
  have HX1 := Lib.hid ((cells8 q1).below HBo.out (by omega))
  have HX2 := Lib.hid (cells8 q2)
  have HB := Lib.hid (HBp.out.trans (HBo.out.mono (by omega)))
  have HWO : Hid ((w.alloc (.cells #[.int .u64 ses.toNat, .int .i64 base, .slice Ao no co, .slice Aw nw cw, .int .i64 k, .slice Ae ne ce, .int .i64 idle, .bool dead] 37)).alloc (.cells #[.int .u64 0, .int .i64 0, .slice none 0 0, .slice none 0 0, .int .i64 0, .slice none 0 0, .int .i64 0, .bool false] 37) = wo) := by unfold Hid; rw [← hwp, ← hwo]
  have HSO := Lib.hid hso
  have hrw := (read_frX raw hraw wo)
  obtain ⟨s2', q', a', d', err', hrd', hq', ha', hrc'⟩ := hrw
  have heq : s2' = s2 ∧ q' = q ∧ a' = a ∧ d' = d ∧ err' = err := by
    rw [HRD.out] at hrd'
    injection hrd' with h1 h2
    injection h1 with h1 h3
    injection h3 with h3 h5
    injection h5 with h5 h6
    exact ⟨(UInt64.toNat_inj.1 h1).symm, h3.symm, h5.symm, (ByteArray.ext (Array.toList_inj.1 h6)).symm, h2.symm⟩
  obtain ⟨rfl, rfl, rfl, rfl, rfl⟩ := heq
  have HRC := Lib.hid hrc'
  clear q1 q2 hwp hwo hsp hso HBp HBo hrc hrd' hrc' hq' ha' HR
  clear wp
  go_enter Try.func14, Try.ntmps14
  go_wp2_with fail
  rw [HWO.out]
  refine HRC.out.mono ?_
  rintro e w1 ⟨rfl, b1⟩
  have hs1 : w.heap.size + 1 + 1 ≤ w1.heap.size := by have := b1.size; have := HSO.out; omega
  have HY1 := Lib.hid (HX1.out.below b1 (by have := HSO.out; omega))
  have HY2 := Lib.hid (HX2.out.below b1 (by have := HSO.out; omega))
  have HB1 := Lib.hid (HB.out.trans (b1.mono HB.out.size))
  clear b1 HX1 HX2 HB HWO HSO HRC
  have q1 := World.alloc_heap_new w1 (.cells #[.int .u64 s2'.toNat, .int .i64 q', .int .i64 a', .string d'] 24)
  obtain ⟨w2, hw2⟩ : ∃ w2, w2 = w1.alloc (.cells #[.int .u64 s2'.toNat, .int .i64 q', .int .i64 a', .string d'] 24) := ⟨_, rfl⟩
  have HW2 : Hid (w1.alloc (.cells #[.int .u64 s2'.toNat, .int .i64 q', .int .i64 a', .string d'] 24) = w2) := hw2.symm
  have hb2 : Below w1.heap.size w1 w2 := by rw [hw2]; exact (Below.refl _ _).alloc (Nat.le_refl _) _
  have hs2 : w2.heap.size = w1.heap.size + 1 := by rw [hw2]; simp
  rw [← hw2] at q1
  have HZ1 := Lib.hid (HY1.out.below hb2 (by omega))
  have HZ2 := Lib.hid (HY2.out.below hb2 (by omega))
  have q3 := World.alloc_heap_new w2 (.cells #[.int .u64 ses.toNat, .int .i64 base, .slice Ao no co, .slice Aw nw cw, .int .i64 k, .slice Ae ne ce, .int .i64 idle, .bool dead] 69)
  obtain ⟨w3, hw3⟩ : ∃ w3, w3 = w2.alloc (.cells #[.int .u64 ses.toNat, .int .i64 base, .slice Ao no co, .slice Aw nw cw, .int .i64 k, .slice Ae ne ce, .int .i64 idle, .bool dead] 69) := ⟨_, rfl⟩
  have HW3 : Hid (w2.alloc (.cells #[.int .u64 ses.toNat, .int .i64 base, .slice Ao no co, .slice Aw nw cw, .int .i64 k, .slice Ae ne ce, .int .i64 idle, .bool dead] 69) = w3) := hw3.symm
  have hb3 : Below w2.heap.size w2 w3 := by rw [hw3]; exact (Below.refl _ _).alloc (Nat.le_refl _) _
  have hs3 : w3.heap.size = w2.heap.size + 1 := by rw [hw3]; simp
  rw [← hw3] at q3
  rw [hs2] at q3
  have HK := Lib.hid (cells8 q3)
  have HFB := Lib.hid ((hb3.block w1.heap.size (by omega)).trans q1)
  have HU1 := Lib.hid (HZ1.out.below hb3 (by omega))
  have HU2 := Lib.hid (HZ2.out.below hb3 (by omega))
  have HB3 := Lib.hid ((HB1.out.trans (hb2.mono HB1.out.size)).trans (hb3.mono (by omega)))
  obtain ⟨a0, a1, a2, a3, a4, a5, a6, a7, _, alt⟩ := HY1.out
  have HY2x := Lib.hid HY2.out
  have HB1x := Lib.hid HB1.out
  have HS2 := Lib.hid hs2
  have HS3 := Lib.hid hs3
  clear q1 q3 hw2 hw3 hb2 hb3 HB1 HY1 HY2 HZ2 HZ1 hs2 hs3
  by_cases herr : err' = 0
  · subst herr
    go_wp2_with fail
    rw [HW2.out, HW3.out]
    refine (wants_any (w1.heap.size + 1) ses s2' base k idle q' a' dead Aw Ae Ao nw cw ne ce no co d' w3 HK.out (by omega) (by omega) (by omega) (by omega) (by omega)).mono ?_
    rintro e w4 ⟨r, rfl, hr, b4⟩
    have hs2 := HS2.out
    have hs3 := HS3.out
    have HK4 := Lib.hid (HK.out.below b4 (by omega))
    have HF4 := Lib.hid ((b4.block w1.heap.size (by omega)).trans HFB.out)
    have HE4 := Lib.hid (HU1.out.below b4 (by omega))
    have HU4 := Lib.hid (HU2.out.below b4 (by omega))
    have HB4 := Lib.hid (HB3.out.trans (b4.mono HB3.out.size))
    have hs4 : w1.heap.size + 2 ≤ w4.heap.size := by have := b4.size; omega
    clear hs2 hs3 b4 HK HFB HU1 HU2 HB3 HW2 HW3 a0 a1 a2 a3 a4 a5 a6 a7 alt
    cases r with
    | false =>
      clear hr
      obtain ⟨a0, a1, a2, a3, a4, a5, a6, a7, _, alt⟩ := HE4.out
      obtain ⟨d0, d1, d2, d3, d4, d5, d6, d7, df, dlt⟩ := HU4.out
      have df0 := df 0
      have df1 := df 1
      have df2 := df 2
      have df3 := df 3
      have df4 := df 4
      have df5 := df 5
      have df6 := df 6
      have df7 := df 7
      clear df
      go_wp2_with fail
      (try simp only [Exit.inBlock, Exit.then])
      refine bodyPost_cell (V := .agg #[.int .u64 ses.toNat, .int .i64 base, .slice Ao no co, .slice Aw nw cw, .int .i64 k, .slice Ae ne ce, .int .i64 idle, .bool dead]) rfl rfl ?_ rfl ?_
      · go_simp
      · have hbz := below_set8 HB4.out (b := w.heap.size + 1) (by omega) (.int .u64 ses.toNat) (.int .i64 base) (.slice Ao no co) (.slice Aw nw cw) (.int .i64 k) (.slice Ae ne ce) (.int .i64 idle) (.bool dead)
        exact ⟨base, 0, _, _, _, lo, le, idle, rfl, HBS.out, by omega, .inl rfl, ⟨HO.out.below hbz (Nat.le_refl _), by have := HNO.out; omega, SrcV.refl _ _ _⟩, ⟨HF.out.below hbz (Nat.le_refl _), HG.out, by omega, SrcV.refl _ _ _⟩, by rw [List.take_zero]; exact strsN_nilL _, hbz⟩
    | true =>
      obtain ⟨hses, hba, hano⟩ := hr rfl
      clear hr
      subst hses
      have hgd := HGOOD.out _ _ _ HRD.out
      have HGD := Lib.hid hgd
      clear HGOOD HRD hgd
      obtain ⟨f0, f1, f2, f3, _⟩ := cells4 HF4.out
      obtain ⟨k0, k1, k2, k3, k4, k5, k6, k7, kf, klt⟩ := HK4.out
      have kf1 := kf 1
      have kf2 := kf 2
      clear kf HY2x HB1x HE4
      go_wp2_with fail
      go_quiet (fail)
      go_wp2_with fail
      go_region
      obtain ⟨Ao2, hAo2⟩ : ∃ x, x = (if co = a' - base then Ao else Option.map (fun x => x.add (a' - base)) Ao) := ⟨_, rfl⟩
      obtain ⟨no2, hno2⟩ : ∃ x, x = no - (a' - base) := ⟨_, rfl⟩
      obtain ⟨co2, hco2⟩ : ∃ x, x = co - (a' - base) := ⟨_, rfl⟩
      rw [← hAo2, ← hno2, ← hco2]
      have hsl : (Value.slice Ao2 no2 co2) = sliced Ao (a' - base) no co 1 := by
        unfold sliced
        rw [hAo2, hno2, hco2]
        by_cases hc : co = a' - base
        · rw [if_pos hc, if_pos hc]
        · rw [if_neg hc, if_neg hc]; simp
      have hml : a' - base ≤ lo.length := by have := HNO.out; omega
      have HO2 : Hid (StrsN w (.slice Ao2 no2 co2) (lo.drop (a' - base))) := by unfold Hid; rw [hsl]; exact HO.out.drop _ hml
      have HSO2 : Hid (SrcO (.slice Ao no co) (.slice Ao2 no2 co2)) := by unfold Hid; rw [hsl]; exact SrcO.sliced Ao (a' - base) no co 1 no co
      have HBS2 : Hid (a' ≤ S.length ∧ lo.drop (a' - base) ++ lw = S.drop a') := by
        unfold Hid
        obtain ⟨g1, g2⟩ := HBS.out
        have g3 := congrArg List.length g2
        rw [List.length_append, List.length_drop] at g3
        refine ⟨by omega, ?_⟩
        have g4 := congrArg (List.drop (a' - base)) g2
        rw [List.drop_append_of_le_length hml, List.drop_drop, show base + (a' - base) = a' by omega] at g4
        exact g4
      have HNO2 : Hid ((lo.drop (a' - base)).length ≤ 4) := by unfold Hid; rw [List.length_drop]; have := HNO.out; omega
      have hn4 : no2 ≤ 4 := by omega
      have ha9 : a' ≤ 90 := by have := HBS2.out.1; omega
      clear hsl hAo2 hno2 hco2 hml HO HBS HNO
      obtain ⟨lo2, hlo2⟩ : ∃ x, x = lo.drop (a' - base) := ⟨_, rfl⟩
      rw [← hlo2] at HO2 HBS2 HNO2
      clear hlo2
      obtain ⟨news, hnews⟩ : ∃ b : Bool, b = decide (base < a') := ⟨_, rfl⟩
      rw [← hnews]
      clear hnews
      obtain ⟨w5, hw5⟩ : ∃ w5, w5 = (((w4.drewN (nq + 1)).setCell ⟨w1.heap.size + 1, 2, none⟩ (.slice Ao2 no2 co2)).setCell ⟨w1.heap.size + 1, 1, none⟩ (.int .i64 a')) := ⟨_, rfl⟩
      have HK5 : Hid (Box8 (w1.heap.size + 1) (.int .u64 ses.toNat) (.int .i64 a') (.slice Ao2 no2 co2) (.slice Aw nw cw) (.int .i64 k) (.slice Ae ne ce) (.int .i64 idle) (.bool dead) w5) := by
        unfold Hid; rw [hw5]
        exact ((box_of_block (w' := w4.drewN (nq + 1)) HK4.out rfl).set2 (.slice Ao2 no2 co2)).set1 (.int .i64 a')
      have hoth : ∀ j, j ≠ w1.heap.size + 1 → w5.heap[j]? = w4.heap[j]? := by
        intro j hj
        rw [hw5, Below.heap_setCell _ _ _ _ (by dsimp only; exact hj), Below.heap_setCell _ _ _ _ (by dsimp only; exact hj)]
        rfl
      have HF5 := Lib.hid ((hoth w1.heap.size (by omega)).trans HF4.out)
      have HU5 := Lib.hid (box_of_block HU4.out (hoth (w.heap.size + 1) (by omega)))
      have HB5 : Hid (Below w.heap.size w w5) := by
        unfold Hid; rw [hw5]
        exact (((Below.drewN HB4.out (nq + 1)).setCell (p := ⟨w1.heap.size + 1, 2, none⟩) (by dsimp only; omega) _).setCell (p := ⟨w1.heap.size + 1, 1, none⟩) (by dsimp only; omega) _)
      have hs5 : w1.heap.size + 2 ≤ w5.heap.size := by rw [hw5, World.size_setCell, World.size_setCell]; exact hs4
      rw [← hw5]
      clear f0 f1 f2 f3 k0 k1 k2 k3 k4 k5 k6 k7 klt kf1 kf2 HK4 HF4 HU4 HB4 hs4 hoth hw5 hba hano
      obtain ⟨f0, f1, f2, f3, _⟩ := cells4 HF5.out
      obtain ⟨k0, k1, k2, k3, k4, k5, k6, k7, kf, klt⟩ := HK5.out
      have kf6 := kf 6
      clear kf
      by_cases hd0 : d' = ⟨#[]⟩
      · subst hd0
        clear HGD
        obtain ⟨d0, d1, d2, d3, d4, d5, d6, d7, df, dlt⟩ := HU5.out
        have df0 := df 0
        have df1 := df 1
        have df2 := df 2
        have df3 := df 3
        have df4 := df 4
        have df5 := df 5
        have df6 := df 6
        have df7 := df 7
        clear df
        clear HU5 HF5 HK5
        cases news with
        | false =>
          go_wp2_with fail
          (try simp only [Exit.inBlock, Exit.then])
          refine bodyPost_cell (V := .agg #[.int .u64 ses.toNat, .int .i64 a', .slice Ao2 no2 co2, .slice Aw nw cw, .int .i64 k, .slice Ae ne ce, .int .i64 idle, .bool dead]) rfl rfl ?_ rfl ?_
          · go_simp
          · have hbz := below_set8 HB5.out (b := w.heap.size + 1) (by omega) (.int .u64 ses.toNat) (.int .i64 a') (.slice Ao2 no2 co2) (.slice Aw nw cw) (.int .i64 k) (.slice Ae ne ce) (.int .i64 idle) (.bool dead)
            exact ⟨a', 0, _, _, _, lo2, le, idle, rfl, HBS2.out, by omega, .inl rfl, ⟨HO2.out.below hbz (Nat.le_refl _), HNO2.out, HSO2.out.v _ _⟩, ⟨HF.out.below hbz (Nat.le_refl _), HG.out, by omega, SrcV.refl _ _ _⟩, by rw [List.take_zero]; exact strsN_nilL _, hbz⟩
        | true =>
          go_wp2_with fail
          (try simp only [Exit.inBlock, Exit.then])
          refine bodyPost_cell (V := .agg #[.int .u64 ses.toNat, .int .i64 a', .slice Ao2 no2 co2, .slice Aw nw cw, .int .i64 k, .slice Ae ne ce, .int .i64 0, .bool dead]) rfl rfl ?_ rfl ?_
          · go_simp
          · have hbz := below_set8 (HB5.out.setCell (p := ⟨w1.heap.size + 1, 6, none⟩) (by dsimp only; omega) (.int .i64 0)) (b := w.heap.size + 1) (by omega) (.int .u64 ses.toNat) (.int .i64 a') (.slice Ao2 no2 co2) (.slice Aw nw cw) (.int .i64 k) (.slice Ae ne ce) (.int .i64 0) (.bool dead)
            exact ⟨a', 0, _, _, _, lo2, le, 0, rfl, HBS2.out, by omega, .inr rfl, ⟨HO2.out.below hbz (Nat.le_refl _), HNO2.out, HSO2.out.v _ _⟩, ⟨HF.out.below hbz (Nat.le_refl _), HG.out, by omega, SrcV.refl _ _ _⟩, by rw [List.take_zero]; exact strsN_nilL _, hbz⟩
      · have hqd : T[q']? = some d' := by
          rcases HGD.out with h | h
          · exact absurd (ByteArray.ext (Array.toList_inj.1 (by rw [h]))) hd0
          · exact h
        have HQD := Lib.hid hqd
        have hq9 : q' < T.length := (List.getElem?_eq_some_iff.1 hqd).1
        have he2 : ¬ d'.toList = [] := by
          intro e
          rw [ByteArray.toList_eq] at e
          exact hd0 (ByteArray.ext (Array.toList_inj.1 e))
        have he3 : d'.toList.isEmpty = false := by simpa using he2
        have he4 : (d'.toList == []) = false := by simpa using he2
        clear hqd HGD
        by_cases hqk : k < q'
        · go_wp2_with fail
          go_quiet (fail)
          go_wp2_with fail
          obtain ⟨w6, hw6⟩ : ∃ w6, w6 = w5.drewN nq := ⟨_, rfl⟩
          have HK6 : Hid (Box8 (w1.heap.size + 1) (.int .u64 ses.toNat) (.int .i64 a') (.slice Ao2 no2 co2) (.slice Aw nw cw) (.int .i64 k) (.slice Ae ne ce) (.int .i64 idle) (.bool dead) w6) := by
            unfold Hid; rw [hw6]; exact box_of_block (w' := w5.drewN nq) HK5.out rfl
          have HF6 : Hid (w6.heap[w1.heap.size]? = some (.cells #[.int .u64 ses.toNat, .int .i64 q', .int .i64 a', .string d'] 24)) := by unfold Hid; rw [hw6]; exact HF5.out
          have HU6 : Hid (Box8 (w.heap.size + 1) (.int .u64 0) (.int .i64 0) (.slice none 0 0) (.slice none 0 0) (.int .i64 0) (.slice none 0 0) (.int .i64 0) (.bool false) w6) := by
            unfold Hid; rw [hw6]; exact box_of_block (w' := w5.drewN nq) HU5.out rfl
          have HB6 : Hid (Below w.heap.size w w6) := by unfold Hid; rw [hw6]; exact Below.drewN HB5.out _
          have hs6 : w1.heap.size + 2 ≤ w6.heap.size := by rw [hw6]; exact hs5
          rw [← hw6]
          clear f0 f1 f2 f3 k0 k1 k2 k3 k4 k5 k6 k7 klt kf6 HK5 HF5 HU5 HB5 hs5 hw6
          clear HF6
          refine (keep_any (w1.heap.size + 1) ses ses a' k idle q' a' (.slice Ao2 no2 co2) (.slice Aw nw cw) Ae ne ce dead d' le w6 HK6.out (HF.out.below HB6.out (Nat.le_refl _)) (fun b hb e => by have := HAT.out b hb; omega) (by have := HNE.out; omega)).mono ?_
          rintro e w7 ⟨r, ve7, le7, rfl, hx7, hf7, hmem, hlen7, hsrc, hg7⟩
          obtain ⟨Ae7, ce7, rfl, _, _⟩ := hf7.len
          obtain ⟨ne7, hne7⟩ : ∃ x, x = le7.length := ⟨_, rfl⟩
          rw [← hne7] at hx7 hf7 hsrc
          have HG7 : Hid (GoodL T ses le7) := by
            intro y hy
            rcases hmem y hy with h | h
            · exact HG.out y h
            · subst h; exact ⟨rfl, q', rfl, HQD.out⟩
          have HL7 := Lib.hid hlen7
          have HS7 : Hid (∀ c, (Value.slice Ae7 ne7 ce7).ownBlock = some c → c ≠ w1.heap.size + 1 ∧ c ≠ w.heap.size + 1 ∧ ((Value.slice Ae ne ce).ownBlock = some c ∨ w.heap.size ≤ c ∧ c < w7.heap.size)) := by
            intro c hc
            rcases hsrc c hc with h | ⟨h1, h2⟩
            · have := HAT.out c h
              exact ⟨by omega, by omega, .inl h⟩
            · exact ⟨by omega, by omega, .inr ⟨by omega, h2⟩⟩
          have HF7 := Lib.hid hf7
          have HX7 := Lib.hid hx7
          have HU7 := Lib.hid (box_of_block HU6.out (hg7.block (w.heap.size + 1) (by omega) (by intro e; injection e; omega)))
          have HB7 : Hid (Below w.heap.size w w7) := by
            unfold Hid
            refine ⟨hg7.os.trans HB6.out.os, hg7.tape.trans HB6.out.tape, hg7.output.trans HB6.out.output, Nat.le_trans HB6.out.size hg7.size, fun j hj => ?_⟩
            rw [hg7.block j (by have := HB6.out.size; omega) (by intro e; injection e; omega)]
            exact HB6.out.block j hj
          have hs7 : w6.heap.size ≤ w7.heap.size := hg7.size
          clear hx7 hf7 hmem hlen7 hsrc hg7 HK6 HU6 HB6 hne7
          obtain ⟨k0, k1, k2, k3, k4, k5, k6, k7, kf, klt⟩ := HX7.out
          have kf6 := kf 6
          clear kf
          obtain ⟨d0, d1, d2, d3, d4, d5, d6, d7, df, dlt⟩ := HU7.out
          have df0 := df 0
          have df1 := df 1
          have df2 := df 2
          have df3 := df 3
          have df4 := df 4
          have df5 := df 5
          have df6 := df 6
          have df7 := df 7
          clear df
          clear HU7 HX7
          cases r with
          | true =>
            go_wp2_with fail
            (try simp only [Exit.inBlock, Exit.then])
            refine bodyPost_cell (V := .agg #[.int .u64 ses.toNat, .int .i64 a', .slice Ao2 no2 co2, .slice Aw nw cw, .int .i64 k, .slice Ae7 ne7 ce7, .int .i64 0, .bool dead]) rfl rfl ?_ rfl ?_
            · go_simp
            · have hbz := below_set8 (HB7.out.setCell (p := ⟨w1.heap.size + 1, 6, none⟩) (by dsimp only; omega) (.int .i64 0)) (b := w.heap.size + 1) (by omega) (.int .u64 ses.toNat) (.int .i64 a') (.slice Ao2 no2 co2) (.slice Aw nw cw) (.int .i64 k) (.slice Ae7 ne7 ce7) (.int .i64 0) (.bool dead)
              exact ⟨a', 0, _, _, _, lo2, le7, 0, rfl, HBS2.out, by omega, .inr rfl, ⟨HO2.out.below hbz (Nat.le_refl _), HNO2.out, HSO2.out.v _ _⟩, ⟨(HF7.out.setW (w1.heap.size + 1) 6 (.int .i64 0) (fun c hc => (HS7.out c hc).1)).set8E (w.heap.size + 1) (fun c hc => (HS7.out c hc).2.1) _ _ _ _ _ _ _ _, HG7.out, by have := HL7.out; omega, fun c hc => by rcases (HS7.out c hc).2.2 with h | h; exact .inl h; exact .inr ⟨h.1, by simp only [World.size_setCell]; exact h.2⟩⟩, by rw [List.take_zero]; exact strsN_nilL _, hbz⟩
          | false =>
            cases news with
            | false =>
              go_wp2_with fail
              (try simp only [Exit.inBlock, Exit.then])
              refine bodyPost_cell (V := .agg #[.int .u64 ses.toNat, .int .i64 a', .slice Ao2 no2 co2, .slice Aw nw cw, .int .i64 k, .slice Ae7 ne7 ce7, .int .i64 idle, .bool dead]) rfl rfl ?_ rfl ?_
              · go_simp
              · have hbz := below_set8 HB7.out (b := w.heap.size + 1) (by omega) (.int .u64 ses.toNat) (.int .i64 a') (.slice Ao2 no2 co2) (.slice Aw nw cw) (.int .i64 k) (.slice Ae7 ne7 ce7) (.int .i64 idle) (.bool dead)
                exact ⟨a', 0, _, _, _, lo2, le7, idle, rfl, HBS2.out, by omega, .inl rfl, ⟨HO2.out.below hbz (Nat.le_refl _), HNO2.out, HSO2.out.v _ _⟩, ⟨HF7.out.set8E (w.heap.size + 1) (fun c hc => (HS7.out c hc).2.1) _ _ _ _ _ _ _ _, HG7.out, by have := HL7.out; omega, fun c hc => by rcases (HS7.out c hc).2.2 with h | h; exact .inl h; exact .inr ⟨h.1, by simp only [World.size_setCell]; exact h.2⟩⟩, by rw [List.take_zero]; exact strsN_nilL _, hbz⟩
            | true =>
              go_wp2_with fail
              (try simp only [Exit.inBlock, Exit.then])
              refine bodyPost_cell (V := .agg #[.int .u64 ses.toNat, .int .i64 a', .slice Ao2 no2 co2, .slice Aw nw cw, .int .i64 k, .slice Ae7 ne7 ce7, .int .i64 0, .bool dead]) rfl rfl ?_ rfl ?_
              · go_simp
              · have hbz := below_set8 (HB7.out.setCell (p := ⟨w1.heap.size + 1, 6, none⟩) (by dsimp only; omega) (.int .i64 0)) (b := w.heap.size + 1) (by omega) (.int .u64 ses.toNat) (.int .i64 a') (.slice Ao2 no2 co2) (.slice Aw nw cw) (.int .i64 k) (.slice Ae7 ne7 ce7) (.int .i64 0) (.bool dead)
                exact ⟨a', 0, _, _, _, lo2, le7, 0, rfl, HBS2.out, by omega, .inr rfl, ⟨HO2.out.below hbz (Nat.le_refl _), HNO2.out, HSO2.out.v _ _⟩, ⟨(HF7.out.setW (w1.heap.size + 1) 6 (.int .i64 0) (fun c hc => (HS7.out c hc).1)).set8E (w.heap.size + 1) (fun c hc => (HS7.out c hc).2.1) _ _ _ _ _ _ _ _, HG7.out, by have := HL7.out; omega, fun c hc => by rcases (HS7.out c hc).2.2 with h | h; exact .inl h; exact .inr ⟨h.1, by simp only [World.size_setCell]; exact h.2⟩⟩, by rw [List.take_zero]; exact strsN_nilL _, hbz⟩
        · go_wp2_with fail
          go_quiet (fail)
          go_wp2_with fail
          obtain ⟨w6, hw6⟩ : ∃ w6, w6 = w5.drewN nq := ⟨_, rfl⟩
          have HK6 : Hid (Box8 (w1.heap.size + 1) (.int .u64 ses.toNat) (.int .i64 a') (.slice Ao2 no2 co2) (.slice Aw nw cw) (.int .i64 k) (.slice Ae ne ce) (.int .i64 idle) (.bool dead) w6) := by
            unfold Hid; rw [hw6]; exact box_of_block (w' := w5.drewN nq) HK5.out rfl
          have HF6 : Hid (w6.heap[w1.heap.size]? = some (.cells #[.int .u64 ses.toNat, .int .i64 q', .int .i64 a', .string d'] 24)) := by unfold Hid; rw [hw6]; exact HF5.out
          have HU6 : Hid (Box8 (w.heap.size + 1) (.int .u64 0) (.int .i64 0) (.slice none 0 0) (.slice none 0 0) (.int .i64 0) (.slice none 0 0) (.int .i64 0) (.bool false) w6) := by
            unfold Hid; rw [hw6]; exact box_of_block (w' := w5.drewN nq) HU5.out rfl
          have HB6 : Hid (Below w.heap.size w w6) := by unfold Hid; rw [hw6]; exact Below.drewN HB5.out _
          have hs6 : w1.heap.size + 2 ≤ w6.heap.size := by rw [hw6]; exact hs5
          rw [← hw6]
          clear f0 f1 f2 f3 k0 k1 k2 k3 k4 k5 k6 k7 klt kf6 HK5 HF5 HU5 HB5 hs5 hw6
          refine (whole_any (w1.heap.size + 1) ses.toNat q' a' d' w6).mono ?_
          rintro e w7 ⟨rfl, h7⟩
          -- the two boxes of whole
          have q1 := World.alloc_heap_new w6 (.cells #[.pointer (some ⟨w1.heap.size + 1, 0, none⟩)] 67)
          obtain ⟨wa, hwa⟩ : ∃ wa, wa = w6.alloc (.cells #[.pointer (some ⟨w1.heap.size + 1, 0, none⟩)] 67) := ⟨_, rfl⟩
          rw [← hwa] at q1 h7
          have hba : Below w6.heap.size w6 wa := by rw [hwa]; exact (Below.refl _ _).alloc (Nat.le_refl _) _
          have hsa : wa.heap.size = w6.heap.size + 1 := by rw [hwa]; simp
          have q2 := World.alloc_heap_new wa (.cells #[.int .u64 ses.toNat, .int .i64 q', .int .i64 a', .string d'] 24)
          have hb7 : Below wa.heap.size wa w7 := by rw [← h7]; exact (Below.refl _ _).alloc (Nat.le_refl _) _
          have hs7 : w7.heap.size = wa.heap.size + 1 := by rw [← h7]; simp
          rw [h7, hsa] at q2
          have q3 : w7.cell? ⟨w6.heap.size, 0, none⟩ = some (.pointer (some ⟨w1.heap.size + 1, 0, none⟩)) := (hb7.cell (p := ⟨w6.heap.size, 0, none⟩) (by dsimp only; omega)).trans (by unfold World.cell?; simp [q1])
          have HBB := hba.trans (hb7.mono (by omega))
          have HK7 := Lib.hid (HK6.out.below HBB (by omega))
          have HU7 := Lib.hid (HU6.out.below HBB (by omega))
          have HB7 := Lib.hid (HB6.out.trans (HBB.mono HB6.out.size))
          have HC := Lib.hid (collect_whole (w1.heap.size + 1) (w6.heap.size + 1) w6.heap.size ses (.int .i64 a') (.slice Ao2 no2 co2) (.slice Aw nw cw) (.int .i64 idle) (.bool dead) Ae ne ce T k q' a' d' le w w7 hT hk HQD.out HG.out HF.out (by omega) ⟨HB7.out.size, HB7.out.block⟩ ⟨by omega, by omega, by omega⟩ (by omega) q2 q3 HK7.out)
          have HS7 : Hid (w7.heap.size = w6.heap.size + 2) := by unfold Hid; omega
          clear q1 q2 q3 hba hsa hb7 hs7 h7 HBB HK6 HU6 HB6 HF6
          clear hwa
          go_wp2_with fail
          refine (HC.out).mono ?_
          rintro e w8 ⟨v8, m, rfl, hm, o8, ⟨ve8, le8, hx8, hf8, hg8, hl8, hsrc⟩, g8⟩
          obtain ⟨Av, cv, rfl, _, _⟩ := (StrsN.of_owns o8).1.len
          obtain ⟨Ae8, ce8, rfl, _, _⟩ := hf8.len
          obtain ⟨ne8, hne8⟩ : ∃ x, x = le8.length := ⟨_, rfl⟩
          rw [← hne8] at hx8 hf8 hsrc
          obtain ⟨nv, hnv⟩ : ∃ x, x = ((T.drop k).take m).length := ⟨_, rfl⟩
          rw [← hnv]
          have HV8 : Hid (∀ c, (Value.slice Av nv cv).ownBlock = some c → c ≠ w1.heap.size + 1 ∧ c ≠ w.heap.size + 1) := by
            intro c hc
            rw [hnv] at hc
            have h := (o8.lt c hc).1
            have := HS7.out
            exact ⟨by omega, by omega⟩
          have HW8 : Hid (StrsN w8 (.slice Av nv cv) ((T.drop k).take m)) := by unfold Hid; rw [hnv]; exact StrsN.of_owns o8
          have HG8 := Lib.hid hg8
          have HL8 := Lib.hid hl8
          have HF8 := Lib.hid hf8
          have HSR := Lib.hid hsrc
          have hm9 : k + m ≤ 90 := by omega
          have HM := Lib.hid hm
          have HX8 := Lib.hid hx8
          have HU8 := Lib.hid (box_of_block HU7.out (g8.block (w.heap.size + 1) (by have := HS7.out; omega) (by intro e; injection e; omega)))
          have HB8 : Hid (Below w.heap.size w w8) := by
            unfold Hid
            refine ⟨g8.os.trans HB7.out.os, g8.tape.trans HB7.out.tape, g8.output.trans HB7.out.output, Nat.le_trans HB7.out.size g8.size, fun j hj => ?_⟩
            rw [g8.block j (by have := HB7.out.size; omega) (by intro e; injection e; omega)]
            exact HB7.out.block j hj
          have hs8 : w7.heap.size ≤ w8.heap.size := g8.size
          have hs70 := HS7.out
          clear o8 g8 HC HK7 HU7 HB7 hx8 hf8 hg8 hl8 hsrc hne8 hnv hm
          obtain ⟨k0, k1, k2, k3, k4, k5, k6, k7, kf, klt⟩ := HX8.out
          have kf6 := kf 6
          clear kf
          obtain ⟨d0, d1, d2, d3, d4, d5, d6, d7, df, dlt⟩ := HU8.out
          have df0 := df 0
          have df1 := df 1
          have df2 := df 2
          have df3 := df 3
          have df4 := df 4
          have df5 := df 5
          have df6 := df 6
          have df7 := df 7
          clear df
          clear HU8 HX8
          by_cases hnv0 : 0 < nv
          · cases news with
            | true =>
              go_wp2_with fail
              (try simp only [Exit.inBlock, Exit.then])
              refine bodyPost_cell (V := .agg #[.int .u64 ses.toNat, .int .i64 a', .slice Ao2 no2 co2, .slice Aw nw cw, .int .i64 ((k + m : Nat) : Int), .slice Ae8 ne8 ce8, .int .i64 0, .bool dead]) rfl rfl ?_ rfl ?_
              · go_simp
              · have hbz := below_set8 (HB8.out.setCell (p := ⟨w1.heap.size + 1, 6, none⟩) (by dsimp only; omega) (.int .i64 0)) (b := w.heap.size + 1) (by omega) (.int .u64 ses.toNat) (.int .i64 a') (.slice Ao2 no2 co2) (.slice Aw nw cw) (.int .i64 ((k + m : Nat) : Int)) (.slice Ae8 ne8 ce8) (.int .i64 0) (.bool dead)
                exact ⟨a', m, _, _, _, lo2, le8, 0, rfl, HBS2.out, HM.out, .inr rfl, ⟨HO2.out.below hbz (Nat.le_refl _), HNO2.out, HSO2.out.v _ _⟩, ⟨HF8.out.below hbz (Nat.le_refl _), HG8.out, by have := HL8.out; omega, HSR.out.v _ _⟩, (HW8.out.setW (w1.heap.size + 1) 6 (.int .i64 0) (fun c hc => (HV8.out c hc).1)).set8E (w.heap.size + 1) (fun c hc => (HV8.out c hc).2) _ _ _ _ _ _ _ _, hbz⟩
            | false =>
              go_wp2_with fail
              (try simp only [Exit.inBlock, Exit.then])
              refine bodyPost_cell (V := .agg #[.int .u64 ses.toNat, .int .i64 a', .slice Ao2 no2 co2, .slice Aw nw cw, .int .i64 ((k + m : Nat) : Int), .slice Ae8 ne8 ce8, .int .i64 0, .bool dead]) rfl rfl ?_ rfl ?_
              · go_simp
              · have hbz := below_set8 (HB8.out.setCell (p := ⟨w1.heap.size + 1, 6, none⟩) (by dsimp only; omega) (.int .i64 0)) (b := w.heap.size + 1) (by omega) (.int .u64 ses.toNat) (.int .i64 a') (.slice Ao2 no2 co2) (.slice Aw nw cw) (.int .i64 ((k + m : Nat) : Int)) (.slice Ae8 ne8 ce8) (.int .i64 0) (.bool dead)
                exact ⟨a', m, _, _, _, lo2, le8, 0, rfl, HBS2.out, HM.out, .inr rfl, ⟨HO2.out.below hbz (Nat.le_refl _), HNO2.out, HSO2.out.v _ _⟩, ⟨HF8.out.below hbz (Nat.le_refl _), HG8.out, by have := HL8.out; omega, HSR.out.v _ _⟩, (HW8.out.setW (w1.heap.size + 1) 6 (.int .i64 0) (fun c hc => (HV8.out c hc).1)).set8E (w.heap.size + 1) (fun c hc => (HV8.out c hc).2) _ _ _ _ _ _ _ _, hbz⟩
          · have hnv1 : nv = 0 := by omega
            subst hnv1
            cases news with
            | false =>
              go_wp2_with fail
              (try simp only [Exit.inBlock, Exit.then])
              refine bodyPost_cell (V := .agg #[.int .u64 ses.toNat, .int .i64 a', .slice Ao2 no2 co2, .slice Aw nw cw, .int .i64 ((k + m : Nat) : Int), .slice Ae8 ne8 ce8, .int .i64 idle, .bool dead]) rfl rfl ?_ rfl ?_
              · go_simp
              · have hbz := below_set8 HB8.out (b := w.heap.size + 1) (by omega) (.int .u64 ses.toNat) (.int .i64 a') (.slice Ao2 no2 co2) (.slice Aw nw cw) (.int .i64 ((k + m : Nat) : Int)) (.slice Ae8 ne8 ce8) (.int .i64 idle) (.bool dead)
                exact ⟨a', m, _, _, _, lo2, le8, idle, rfl, HBS2.out, HM.out, .inl rfl, ⟨HO2.out.below hbz (Nat.le_refl _), HNO2.out, HSO2.out.v _ _⟩, ⟨HF8.out.below hbz (Nat.le_refl _), HG8.out, by have := HL8.out; omega, HSR.out.v _ _⟩, HW8.out.set8E (w.heap.size + 1) (fun c hc => (HV8.out c hc).2) _ _ _ _ _ _ _ _, hbz⟩
            | true =>
              go_wp2_with fail
              (try simp only [Exit.inBlock, Exit.then])
              refine bodyPost_cell (V := .agg #[.int .u64 ses.toNat, .int .i64 a', .slice Ao2 no2 co2, .slice Aw nw cw, .int .i64 ((k + m : Nat) : Int), .slice Ae8 ne8 ce8, .int .i64 0, .bool dead]) rfl rfl ?_ rfl ?_
              · go_simp
              · have hbz := below_set8 (HB8.out.setCell (p := ⟨w1.heap.size + 1, 6, none⟩) (by dsimp only; omega) (.int .i64 0)) (b := w.heap.size + 1) (by omega) (.int .u64 ses.toNat) (.int .i64 a') (.slice Ao2 no2 co2) (.slice Aw nw cw) (.int .i64 ((k + m : Nat) : Int)) (.slice Ae8 ne8 ce8) (.int .i64 0) (.bool dead)
                exact ⟨a', m, _, _, _, lo2, le8, 0, rfl, HBS2.out, HM.out, .inr rfl, ⟨HO2.out.below hbz (Nat.le_refl _), HNO2.out, HSO2.out.v _ _⟩, ⟨HF8.out.below hbz (Nat.le_refl _), HG8.out, by have := HL8.out; omega, HSR.out.v _ _⟩, (HW8.out.setW (w1.heap.size + 1) 6 (.int .i64 0) (fun c hc => (HV8.out c hc).1)).set8E (w.heap.size + 1) (fun c hc => (HV8.out c hc).2) _ _ _ _ _ _ _ _, hbz⟩
  · have herr1 : ((err' : Int) != 0) = true := by rw [bne_iff_ne]; omega
    have hs2 := HS2.out
    have hs3 := HS3.out
    clear herr
    obtain ⟨d0, d1, d2, d3, d4, d5, d6, d7, df, dlt⟩ := HY2x.out
    have df0 := df 0
    have df1 := df 1
    have df2 := df 2
    have df3 := df 3
    have df4 := df 4
    have df5 := df 5
    have df6 := df 6
    have df7 := df 7
    clear df
    go_wp2_with fail
    (try simp only [Exit.inBlock, Exit.then])
    refine bodyPost_cell (V := .agg #[.int .u64 ses.toNat, .int .i64 base, .slice Ao no co, .slice Aw nw cw, .int .i64 k, .slice Ae ne ce, .int .i64 idle, .bool dead]) rfl rfl ?_ rfl ?_
    · go_simp
    · have hbz := below_set8 HB1x.out (b := w.heap.size + 1) (by omega) (.int .u64 ses.toNat) (.int .i64 base) (.slice Ao no co) (.slice Aw nw cw) (.int .i64 k) (.slice Ae ne ce) (.int .i64 idle) (.bool dead)
      have hbz := hbz.alloc hbz.size (.cells #[.int .u64 s2'.toNat, .int .i64 q', .int .i64 a', .string d'] 24)
      have hbz := hbz.alloc hbz.size (.cells #[.int .u64 ses.toNat, .int .i64 base, .slice Ao no co, .slice Aw nw cw, .int .i64 k, .slice Ae ne ce, .int .i64 idle, .bool dead] 69)
      exact ⟨base, 0, _, _, _, lo, le, idle, rfl, HBS.out, by omega, .inl rfl, ⟨HO.out.below hbz (Nat.le_refl _), by have := HNO.out; omega, SrcV.refl _ _ _⟩, ⟨HF.out.below hbz (Nat.le_refl _), HG.out, by omega, SrcV.refl _ _ _⟩, by rw [List.take_zero]; exact strsN_nilL _, hbz⟩
end Go.Proofs.Ytjgjhjecgdndjaa
