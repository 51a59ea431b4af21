/- Find, in both packages. -/
import Derived.Test.YtkbpkodakfknoaaPackCmp
namespace Go.Proofs.Ytkbpkodakfknoaa
open Go.RowKit
set_option linter.unusedVariables false
set_option linter.unusedSimpArgs false
theorem bodyPost_cellP {P : Program} {fn : Func} {R : Ending → World → Prop} {a : Act} {w : World} {V : Value} {a1 u : Tmp} {t1 : TypeId} {ad : Addr} (h : fn.results = #[.cell a1 t1, .tmp u]) (hp : a.tmps.getD a1 undef = .pointer (some ad)) (hl : (loadVar t1 ad).run P w = .ok V w) (hd : a.defers = [])
    (hR : R (.returned (.tuple #[V, a.tmps.getD u undef])) w) : bodyPost P fn R .ret a w :=
  ⟨hd, _, by simp only [results, h, List.mapM_toArray, List.mapM_cons, List.mapM_nil, hp, asAddr]; simp [hl], hR⟩
def SltV (x : Slt) : Value := .agg #[.string x.1, .int .i64 x.2.1, .int .i64 x.2.2]
def noS : Slt := (⟨#[]⟩, 0, 0)
/-- the slot of a key -/
def foundS (l : List Slt) (k : ByteArray) : Slt := if hasAt l k = true then (l[place l k]?).getD noS else noS
theorem foundS_yes {l : List Slt} {k : ByteArray} (h : place l k < l.length) (hh : hasAt l k = true) : foundS l k = l[place l k] := by
  unfold foundS; rw [if_pos hh, List.getElem?_eq_getElem h]; rfl
theorem foundS_no {l : List Slt} {k : ByteArray} (hh : hasAt l k = false) : foundS l k = noS := by
  unfold foundS; rw [hh]; rfl
theorem hasAt_lt {l : List Slt} {k : ByteArray} (hh : hasAt l k = true) : place l k < l.length := by
  unfold hasAt at hh
  cases hq : l[place l k]? with
  | none => rw [hq] at hh; cases hh
  | some x => exact (List.getElem?_eq_some_iff.1 hq).1
theorem below_set3 {B : Nat} {w w' : World} {b : Nat} (h : Below B w w') (hB : B ≤ b) (x y z : Value) : Below B w (((w'.setCell ⟨b, 0, none⟩ x).setCell ⟨b, 1, none⟩ y).setCell ⟨b, 2, none⟩ z) :=
  ((h.setCell (p := ⟨b, 0, none⟩) hB x).setCell (p := ⟨b, 1, none⟩) hB y).setCell (p := ⟨b, 2, none⟩) hB z
theorem cells3P {w : World} {b : Nat} {x y z : Value} {t : TypeId} (h : w.heap[b]? = some (.cells #[x, y, z] t)) : w.cell? ⟨b, 0, none⟩ = some x ∧ w.cell? ⟨b, 1, none⟩ = some y ∧ w.cell? ⟨b, 2, none⟩ = some z ∧ w.frozen? ⟨b, 0, none⟩ = false ∧ w.frozen? ⟨b, 1, none⟩ = false ∧ w.frozen? ⟨b, 2, none⟩ = false := by
  refine ⟨?_, ?_, ?_, frozen_of_row w _ 0 _ _ h, frozen_of_row w _ 1 _ _ h, frozen_of_row w _ 2 _ _ h⟩
  · unfold World.cell?; simp [h]
  · unfold World.cell?; simp [h]
  · unfold World.cell?; simp [h]
set_option maxRecDepth 20000 in
set_option maxHeartbeats 2000000 in
theorem find_any (v : Value) (l : List Slt) (k : ByteArray) (w : World) (hv : SlotsB w v l) (hr : RisS l) (hl : l.length ≤ 1000000000) :
    Calls Try.prog 17 #[v, .string k] w fun e w' => e = .returned (.tuple #[SltV (foundS l k), .bool (hasAt l k)]) ∧ Below w.heap.size w w' := by
  have HV := Lib.hid hv
  obtain ⟨A, c, rfl, h2, h3, h4⟩ := hv
  have hc9 : c ≤ 9223372036854775807 := by unfold maxLen at h3; omega
  have q1 := heap_alloc_new w (.cells #[.string ⟨#[]⟩, .int .i64 0, .int .i64 0] 30)
  obtain ⟨wp, hwp⟩ : ∃ wp, wp = w.alloc (.cells #[.string ⟨#[]⟩, .int .i64 0, .int .i64 0] 30) := ⟨_, rfl⟩
  have HWP : Hid (w.alloc (.cells #[.string ⟨#[]⟩, .int .i64 0, .int .i64 0] 30) = wp) := hwp.symm
  rw [← hwp] at q1
  have hbp : Below w.heap.size w wp := by rw [hwp]; exact (Below.refl _ _).alloc (Nat.le_refl _) _
  have hsp : wp.heap.size = w.heap.size + 1 := by rw [hwp]; simp
  have HBS := Lib.hid (bs_any _ l k wp (HV.out.below hbp (Nat.le_refl _)) hr hl)
  have HQ := Lib.hid q1
  have HBP := Lib.hid hbp
  have HSP := Lib.hid hsp
  have HH4 := Lib.hid h4
  have HLT := Lib.hid (@hasAt_lt l k)
  have HFY := Lib.hid (@foundS_yes l k)
  have HFN := Lib.hid (@foundS_no l k)
  clear hwp q1 hbp hsp h4 h3 hr HV
  obtain ⟨p, hp⟩ : ∃ p, p = place l k := ⟨_, rfl⟩
  have HPE := Lib.hid hp
  rw [← hp] at HBS HLT
  clear hp
  unfold SltV
  cases hh : hasAt l k with
  | true =>
    rw [hh] at HBS
    have hpl := HLT.out hh
    have hfy := HFY.out (by rw [← HPE.out]; exact hpl) hh
    have HFE : Hid (foundS l k = l[p]) := by unfold Hid; rw [hfy]; simp only [HPE.out]
    obtain ⟨b, off, rfl, hblt, hcells⟩ := HH4.out (by omega)
    obtain ⟨x1, x2, x3⟩ := hcells p hpl
    have hpl' : (p : Int) < (l.length : Int) := by omega
    rw [HFE.out]
    generalize l[p] = y at *
    clear hcells hfy HFY HFN HLT hh HFE
    obtain ⟨n, hn⟩ : ∃ n, n = l.length := ⟨_, rfl⟩
    rw [← hn] at HBS hpl hpl' hl h2 ⊢
    clear hn
    go_enter Try.func17, Try.ntmps17
    go_wp2_with fail
    rw [HWP.out]
    refine (HBS.out).mono ?_
    rintro e w1 ⟨rfl, b1⟩
    have hB1 := HBP.out.trans (b1.mono HBP.out.size)
    have y1 := (hB1.cell (p := ⟨b, off + p * 3, none⟩) hblt).trans x1
    have y2 := (hB1.cell (p := ⟨b, off + p * 3 + 1, none⟩) hblt).trans x2
    have y3 := (hB1.cell (p := ⟨b, off + p * 3 + 2, none⟩) hblt).trans x3
    obtain ⟨z0, z1, z2, f0, f1, f2⟩ := cells3P ((b1.block w.heap.size (by have := HSP.out; omega)).trans HQ.out)
    have HB1 := Lib.hid hB1
    have hp0 : (0 : Int) ≤ (p : Int) := by omega
    have hnb : ¬ b = w.heap.size := by omega
    clear b1 hB1 x1 x2 x3 HBS
    go_wp2_with fail
    refine bodyPost_cellP (V := .agg #[.string y.1, .int .i64 y.2.1, .int .i64 y.2.2]) rfl rfl ?_ rfl ?_
    · go_simp
    · exact ⟨rfl, below_set3 HB1.out (Nat.le_refl _) _ _ _⟩
  | false =>
    rw [hh] at HBS
    rw [HFN.out hh]
    unfold noS
    clear HFY HFN HLT hh
    obtain ⟨n, hn⟩ : ∃ n, n = l.length := ⟨_, rfl⟩
    rw [← hn] at HBS hl h2 ⊢
    clear hn
    go_enter Try.func17, Try.ntmps17
    go_wp2_with fail
    rw [HWP.out]
    refine (HBS.out).mono ?_
    rintro e w1 ⟨rfl, b1⟩
    obtain ⟨z0, z1, z2, f0, f1, f2⟩ := cells3P ((b1.block w.heap.size (by have := HSP.out; omega)).trans HQ.out)
    have HB1 := Lib.hid (HBP.out.trans (b1.mono HBP.out.size))
    clear b1 HBS
    go_wp2_with fail
    refine bodyPost_cellP (V := .agg #[.string ⟨#[]⟩, .int .i64 0, .int .i64 0]) rfl rfl ?_ rfl ?_
    · go_simp
    · exact ⟨rfl, below_set3 HB1.out (Nat.le_refl _) _ _ _⟩
theorem key_at {l : List Slt} {k : ByteArray} (hr : RisS l) (i : Nat) (h : i < l.length) : (l[i].1.toList == k.toList) = (decide (i = place l k) && hasAt l k) := by
  by_cases he : l[i].1 = k
  · have hh : hasAt l k = true := (hasAt_iff k hr).2 ⟨_, List.getElem_mem h, he⟩
    have h1 := place_lt l k hr i h
    rw [he, bl_irrefl] at h1
    have h2 : place l k ≤ i := by simpa using h1.symm
    have h3 : i = place l k := by
      rcases Nat.lt_or_ge (place l k) i with h4 | h4
      · have h5 := List.pairwise_iff_getElem.1 hr (place l k) i (by omega) h h4
        rw [he, place_lt l k hr _ (by omega)] at h5
        simp at h5
      · omega
    rw [hh, he, ← h3]; simp
  · have h1 : (l[i].1.toList == k.toList) = false := by
      rw [beq_eq_false_iff_ne, toList_data, toList_data]
      exact fun e => he (ByteArray.ext (Array.toList_inj.1 e))
    rw [h1]
    by_cases hp : i = place l k
    · have : hasAt l k = false := by
        unfold hasAt; rw [← hp, List.getElem?_eq_getElem h]; simpa using he
      rw [this]; simp
    · simp [hp]
set_option maxRecDepth 20000 in
set_option maxHeartbeats 2000000 in
theorem rfind_any (v : Value) (l : List Slt) (k : ByteArray) (w : World) (hv : SlotsB w v l) (hr : RisS l) (hl : l.length ≤ 1000000000) :
    Calls Try.prog 18 #[v, .string k] w fun e w' => e = .returned (.tuple #[SltV (foundS l k), .bool (hasAt l k)]) ∧ Below w.heap.size w w' := by
  obtain ⟨A, c, rfl, h2, h3, h4⟩ := hv
  have hc9 : c ≤ 9223372036854775807 := by unfold maxLen at h3; omega
  have q1 := heap_alloc_new w (.cells #[.string ⟨#[]⟩, .int .i64 0, .int .i64 0] 30)
  obtain ⟨wp, hwp⟩ : ∃ wp, wp = w.alloc (.cells #[.string ⟨#[]⟩, .int .i64 0, .int .i64 0] 30) := ⟨_, rfl⟩
  have HWP : Hid (w.alloc (.cells #[.string ⟨#[]⟩, .int .i64 0, .int .i64 0] 30) = wp) := hwp.symm
  rw [← hwp] at q1
  have hbp : Below w.heap.size w wp := by rw [hwp]; exact (Below.refl _ _).alloc (Nat.le_refl _) _
  have hsp : wp.heap.size = w.heap.size + 1 := by rw [hwp]; simp
  have HQ := Lib.hid q1
  have HBP := Lib.hid hbp
  have HSP := Lib.hid hsp
  have HH4 := Lib.hid h4
  have HLT := Lib.hid (@hasAt_lt l k)
  have HFY := Lib.hid (@foundS_yes l k)
  have HFN := Lib.hid (@foundS_no l k)
  have HKA := Lib.hid (@key_at l k hr)
  clear hwp q1 hbp hsp h4 h3 hr
  obtain ⟨p, hp⟩ : ∃ p, p = place l k := ⟨_, rfl⟩
  have HPE := Lib.hid hp
  rw [← hp] at HLT HKA
  clear hp
  obtain ⟨n, hn⟩ : ∃ n, n = l.length := ⟨_, rfl⟩
  have HN := Lib.hid hn
  rw [← hn] at hl h2 ⊢
  clear hn
  obtain ⟨R, hR⟩ : ∃ R, R = SltV (foundS l k) := ⟨_, rfl⟩
  obtain ⟨q, hq⟩ : ∃ q, q = hasAt l k := ⟨_, rfl⟩
  have HR := Lib.hid hR
  have HQH := Lib.hid hq
  rw [← hR, ← hq]
  rw [← hq] at HKA HLT
  clear hR hq
  go_enter Try.func18, Try.ntmps18
  go_wp2_with fail
  rw [HWP.out]
  go_loopw [6] (fun i wr => ∃ j : Nat, j ≤ n ∧ i = .int .i64 j ∧ Hid (q = true → j ≤ p) ∧ wr = wp) (fun i _ => n - (intOf i).toNat)
  case atStart => exact ⟨0, Nat.zero_le _, rfl, fun _ => Nat.zero_le _, rfl⟩
  case round =>
    obtain ⟨j, hj, rfl, HJ, rfl⟩ := hrel
    by_cases hlt : j < n
    · have hlt' : (j : Int) < (n : Int) := by omega
      have hnn := HN.out
      obtain ⟨b, off, rfl, hblt, hcells⟩ := HH4.out (by omega)
      have hml : j < l.length := by omega
      obtain ⟨x1, x2, x3⟩ := hcells j hml
      have y1 := (HBP.out.cell (p := ⟨b, off + j * 3, none⟩) hblt).trans x1
      have y2 := (HBP.out.cell (p := ⟨b, off + j * 3 + 1, none⟩) hblt).trans x2
      have y3 := (HBP.out.cell (p := ⟨b, off + j * 3 + 2, none⟩) hblt).trans x3
      have hka := HKA.out j hml
      have hj0 : (0 : Int) ≤ (j : Int) := by omega
      by_cases hfound : j = p ∧ q = true
      · obtain ⟨hjp, hqt⟩ := hfound
        have HFE : Hid (R = SltV l[j]) := by
          unfold Hid
          rw [HR.out, HFY.out (by rw [← HPE.out]; omega) (by rw [← HQH.out]; exact hqt)]
          have : place l k = j := by rw [← HPE.out, hjp]
          simp only [this]
        have hka' : (l[j].1.toList == k.toList) = true := by rw [hka, hqt, decide_eq_true hjp]; rfl
        have HQT := Lib.hid hqt
        generalize l[j] = y at *
        obtain ⟨z0, z1, z2, f0, f1, f2⟩ := cells3P HQ.out
        have hnb : ¬ b = w.heap.size := by omega
        clear hka hjp hqt x1 x2 x3 hcells hnn
        go_wp2_with fail
        refine bodyPost_cellP (V := .agg #[.string y.1, .int .i64 y.2.1, .int .i64 y.2.2]) rfl rfl ?_ rfl ?_
        · go_simp
        · refine ⟨by rw [HFE.out, HQT.out]; rfl, below_set3 HBP.out (Nat.le_refl _) _ _ _⟩
      · have hka' : (l[j].1.toList == k.toList) = false := by
          rw [hka]
          by_cases h1 : j = p
          · cases hq2 : q with
            | true => exact absurd ⟨h1, hq2⟩ hfound
            | false => simp
          · simp [h1]
        have HJ2 : Hid (q = true → j + 1 ≤ p) := by
          intro hq2
          have := HJ.out hq2
          have : ¬ j = p := fun e => hfound ⟨e, hq2⟩
          omega
        generalize l[j] = y at *
        clear hka hfound x1 x2 x3 hcells hnn
        go_wp2_with fail
        go_roundw
        case rel => exact ⟨j + 1, by omega, by go_num, HJ2, by first | rfl | trivial⟩
        case measure => simp [intOf]; omega
    · have hq0 : q = false := by
        cases hq2 : q with
        | true =>
          have h1 := HJ.out hq2
          have h2 := HLT.out hq2
          have h3 := HN.out
          omega
        | false => rfl
      subst hq0
      have HFE : Hid (R = SltV noS) := by unfold Hid; rw [HR.out, HFN.out HQH.out.symm]
      obtain ⟨z0, z1, z2, f0, f1, f2⟩ := cells3P HQ.out
      go_wp2_with fail
      refine bodyPost_cellP (V := .agg #[.string ⟨#[]⟩, .int .i64 0, .int .i64 0]) rfl rfl ?_ rfl ?_
      · go_simp
      · exact ⟨by rw [HFE.out]; rfl, below_set3 HBP.out (Nat.le_refl _) _ _ _⟩
end Go.Proofs.Ytkbpkodakfknoaa
