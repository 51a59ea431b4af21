/- PackParts: the law. -/
import Derived.Test.YtkbpkodakfknoaaPackOb
namespace Go.Proofs.Ytkbpkodakfknoaa
open Go.RowKit
set_option linter.unusedVariables false
set_option linter.unusedSimpArgs false
set_option maxRecDepth 20000 in
set_option maxHeartbeats 4000000 in
theorem packParts_main (W : World) (A0 : Option Addr) (n0 c0 : Nat) (l : List Ob) (hv : ObjsN W (.slice A0 n0 c0) l) (hm : ∀ o ∈ l, o.1.size ≤ 140737488355328 ∧ o.2.size ≤ 140737488355328)
    (A1 : Option Addr) (n1 c1 : Nat) (l' : List Ob) (hv' : ObjsN W (.slice A1 n1 c1) l') (hm' : ∀ o ∈ l', o.1.size ≤ 140737488355328 ∧ o.2.size ≤ 140737488355328) :
    Calls Try.prog 3 #[.slice A0 n0 c0, .slice A1 n1 c1] W fun e w' => e = .returned (.bool true) ∧ Below W.heap.size W w' := by
  have HV := Lib.hid hv
  have HU := Lib.hid hv'
  have HSm := Lib.hid (small_any _ l W hv.1 hm)
  have HSm' := Lib.hid (fun w (h : ObjsB w (.slice A1 n1 c1) l') => small_any _ l' w h hm')
  have HAw := Lib.hid awakeP_any
  clear hm hm' hv hv'
  go_enter Try.func3, Try.ntmps3
  go_wp2_with fail
  refine (HSm.out).mono ?_
  rintro e w1 ⟨b, rfl, hb, b1⟩
  have HB1 := Lib.hid b1
  cases b with
  | false =>
    clear hb b1
    go_wp2_with fail
    refine (HAw.out _).mono ?_
    rintro e w2 ⟨rfl, b2⟩
    have HB2 := Lib.hid (HB1.out.trans (b2.mono HB1.out.size))
    clear b2
    go_wp2
    go_ret
    exact ⟨rfl, HB2.out⟩
  | true =>
    obtain ⟨h60, hsm, hso⟩ := hb rfl
    have HV1 := Lib.hid (HV.out.below b1 (Nat.le_refl _))
    have HU1 := Lib.hid (HU.out.below b1 (Nat.le_refl _))
    have HF := Lib.hid (And.intro h60 (And.intro hsm hso))
    clear hb b1 HV HU h60 hsm hso
    go_wp2_with fail
    refine (HSm'.out _ HU1.out.1).mono ?_
    rintro e w2 ⟨b, rfl, hb, b2⟩
    have HB2 := Lib.hid (HB1.out.trans (b2.mono HB1.out.size))
    cases b with
    | false =>
      clear hb b2
      go_wp2_with fail
      refine (HAw.out _).mono ?_
      rintro e w3 ⟨rfl, b3⟩
      have HB3 := Lib.hid (HB2.out.trans (b3.mono HB2.out.size))
      clear b3
      go_wp2
      go_ret
      exact ⟨rfl, HB3.out⟩
    | true =>
      obtain ⟨h60', hsm', hso'⟩ := hb rfl
      obtain ⟨h60, hsm, hso⟩ := HF.out
      have HV2 := Lib.hid (HV1.out.below b2 (Nat.le_refl _))
      have HU2 := Lib.hid (HU1.out.below b2 (Nat.le_refl _))
      have p1 := pWrap_len2 l hsm
      have p2 := pWrap_len2 l' hsm'
      have HW1 := Lib.hid (fun w (h : ObjsB w (.slice A0 n0 c0) l) => pwrap_any _ l w h hsm (by omega))
      have HW2 := Lib.hid (fun w (h : ObjsB w (.slice A1 n1 c1) l') => pwrap_any _ l' w h hsm' (by omega))
      have HW3 := Lib.hid (fun v w (h : ObjsB w v (l ++ l')) => pwrap_any v (l ++ l') w h (smallO_append hsm hsm') (by rw [List.length_append]; omega))
      have HLL : Hid (l.length ≤ 60 ∧ l'.length ≤ 60) := ⟨h60, h60'⟩
      have hjj : ((⟨(pWrap (l ++ l')).toArray⟩ : ByteArray).toList == ((⟨(pWrap l).toArray⟩ : ByteArray) ++ ⟨(pWrap l').toArray⟩).toList) = true := by
        rw [beq_iff_eq, toList_data, toList_data, pWrap_append]; simp
      obtain ⟨PA, hPA⟩ : ∃ PA : ByteArray, PA = ⟨(pWrap l).toArray⟩ := ⟨_, rfl⟩
      obtain ⟨PB, hPB⟩ : ∃ PB : ByteArray, PB = ⟨(pWrap l').toArray⟩ := ⟨_, rfl⟩
      obtain ⟨PJ, hPJ⟩ : ∃ PJ : ByteArray, PJ = ⟨(pWrap (l ++ l')).toArray⟩ := ⟨_, rfl⟩
      have sA : PA.size ≤ 30000 := by rw [hPA]; show (pWrap l).toArray.size ≤ _; rw [List.size_toArray]; omega
      have sB : PB.size ≤ 30000 := by rw [hPB]; show (pWrap l').toArray.size ≤ _; rw [List.size_toArray]; omega
      rw [← hPA] at HW1 hjj
      rw [← hPB] at HW2 hjj
      rw [← hPJ] at HW3 hjj
      clear hPA hPB hPJ p1 p2 HF h60 hsm hso h60' hsm' hso' HSm HSm' HV1 HU1 HB1 hb b2
      have hsz : (PA ++ PB).size = PA.size + PB.size := ByteArray.size_append
      have hdl : (PA ++ PB).data.toList = PA.data.toList ++ PB.data.toList := by simp
      have hlJ : (PA.data.toList ++ PB.data.toList).length = PA.size + PB.size := by rw [List.length_append, Array.length_toList, Array.length_toList]; rfl
      have hS1 := fun w => scan_any (PA ++ PB) (by omega) w
      rw [hdl] at hS1
      have HS1 := Lib.hid hS1
      have HS2 := Lib.hid (fun w => scan_any PA (by omega) w)
      obtain ⟨⟨hin, hsum⟩, hle⟩ := scanP_inv (PA.data.toList ++ PB.data.toList) (by omega)
      obtain ⟨hk1, hk2⟩ := scanP_more PA.data.toList PB.data.toList (by omega)
      rw [hlJ] at hle
      clear hdl hlJ hS1
      generalize scanP (PA.data.toList ++ PB.data.toList) = sc1 at *
      generalize scanP PA.data.toList = sc2 at *
      obtain ⟨sl, n⟩ := sc1
      obtain ⟨tl, k⟩ := sc2
      dsimp only at HS1 HS2 hin hsum hle hk1 hk2
      have HIN := Lib.hid hin
      have HTK := Lib.hid (sizeS_take sl (fun y hy => by have := hin y hy; omega))
      have HTS := Lib.hid (sizeS_succ sl)
      have hN : sl.length ≤ PA.size + PB.size := by
        have key : ∀ (L : List Slt), (∀ y ∈ L, 37 ≤ y.2.2) → (L.length : Int) ≤ sizeS L := by
          intro L
          induction L with
          | nil => intro _; simp [sizeS]
          | cons x L ih =>
            intro h
            have h1 := ih (fun y hy => h y (by simp [hy]))
            have h2 := h x (by simp)
            have h3 : sizeS (x :: L) = x.2.2 + sizeS L := by have := sizeS_append [x] L; rw [sizeS_one] at this; exact this
            rw [List.length_cons]; omega
        have := key sl (fun y hy => (hin y hy).2.1)
        omega
      clear hin
      have hPPs : (PA ++ PB).size ≤ 140737488355328 := by omega
      clear hsz
      go_wp2_with fail
      refine (HW1.out _ HV2.out.1).mono ?_
      rintro e w3 ⟨rfl, b3⟩
      have HB3 := Lib.hid (HB2.out.trans (b3.mono HB2.out.size))
      have HV3 := Lib.hid (HV2.out.below b3 (Nat.le_refl _))
      have HU3 := Lib.hid (HU2.out.below b3 (Nat.le_refl _))
      clear b3 HB2 HV2 HU2
      go_wp2_with fail
      refine (HW2.out _ HU3.out.1).mono ?_
      rintro e w4 ⟨rfl, b4⟩
      have HB4 := Lib.hid (HB3.out.trans (b4.mono HB3.out.size))
      have HV4 := Lib.hid (HV3.out.below b4 (Nat.le_refl _))
      have HU4 := Lib.hid (HU3.out.below b4 (Nat.le_refl _))
      clear b4 HB3 HV3 HU3
      have HBe : Hid (Below w4.heap.size w4 (w4.alloc (.cells #[] 45))) := (Below.refl _ _).alloc (Nat.le_refl _) _
      have HVe := Lib.hid (HV4.out.below HBe.out (Nat.le_refl _))
      have HOe : Hid ((w4.alloc (.cells #[] 45)).ownsRow w4.heap.size 45 2 (.slice (some ⟨w4.heap.size, 0, none⟩) 0 0) ([] : List Ob).length (obCells [])) := owns_emptyO (Nat.le_refl _)
      go_wp2_with (at_builtin; refine wpList_append_objs rfl _ _ _ rfl Try.underlying22 w4.heap.size _ [] rfl HOe.out _ l rfl HVe.out (by have := HLL.out; simp; omega) HBe.out.size ?_)
      intro v5 w5 h1 g1
      have HB5 := Lib.hid (HB4.out.trans (((own_growO HBe.out HOe.out g1)).mono HB4.out.size))
      have HU5 := Lib.hid (HU4.out.below (own_growO HBe.out HOe.out g1) (Nat.le_refl _))
      have HB45 := Lib.hid (own_growO HBe.out HOe.out g1)
      have HO5 := Lib.hid h1
      clear g1 h1 HBe HVe HOe HV4 HU4
      go_wp2_with (at_builtin; refine wpList_append_objs rfl _ _ _ rfl Try.underlying22 w4.heap.size _ _ rfl HO5.out _ l' rfl HU5.out (by have := HLL.out; simp; omega) HB45.out.size ?_)
      intro v6 w6 h1 g1
      have HB6 := Lib.hid (HB4.out.trans (((own_growO HB45.out HO5.out g1)).mono HB4.out.size))
      have HO6 : Hid (ObjsB w6 v6 (l ++ l')) := ObjsB.of_owns (B := w4.heap.size) (by rw [List.length_append, obCells, List.flatMap_append]; simpa [obCells] using h1)
      clear g1 h1 HB5 HU5 HB45 HO5 HB4
      go_wp2_with fail
      refine (HW3.out _ _ HO6.out).mono ?_
      rintro e w7 ⟨rfl, b7⟩
      have HB7 := Lib.hid (HB6.out.trans (b7.mono HB6.out.size))
      clear b7 HB6 HO6
      go_wp2_with fail
      refine (HS1.out _).mono ?_
      rintro e w8 ⟨v8, rfl, o8, b8⟩
      have HB8 := Lib.hid (HB7.out.trans (b8.mono HB7.out.size))
      have hs8 := SlotsB.of_owns o8
      clear b8 o8 HB7
      have HS8 := Lib.hid hs8
      obtain ⟨A8, c8, rfl, h2, h3, h4⟩ := hs8
      have hc9 : c8 ≤ 9223372036854775807 := by unfold maxLen at h3; omega
      have HH4 := Lib.hid h4
      obtain ⟨N, hNe⟩ : ∃ N, N = sl.length := ⟨_, rfl⟩
      have HNE := Lib.hid hNe
      rw [← hNe] at h2 hk2 hN HS8 ⊢
      clear h4 h3 hNe
      go_wp2_with fail
      go_loopw [9, 46] (fun s i wr => ∃ j : Nat, j ≤ N ∧ i = .int .i64 j ∧ s = .int .i64 (sizeS (sl.take j)) ∧ Hid (Below w8.heap.size w8 wr)) (fun _ i _ => N - (intOf i).toNat)
      case atStart => exact ⟨0, Nat.zero_le _, rfl, rfl, Below.refl _ _⟩
      case round =>
        obtain ⟨j, hj, rfl, rfl, HBr⟩ := hrel
        obtain ⟨ht0, ht1⟩ := HTK.out j
        by_cases hlt : j < N
        · have hlt' : (j : Int) < (N : Int) := by omega
          have hnn := HNE.out
          obtain ⟨b, off, rfl, hblt, hcells⟩ := HH4.out (by omega)
          have hml : j < sl.length := by omega
          obtain ⟨x1, x2, x3⟩ := hcells j hml
          have y1 := (HBr.out.cell (p := ⟨b, off + j * 3, none⟩) hblt).trans x1
          have y2 := (HBr.out.cell (p := ⟨b, off + j * 3 + 1, none⟩) hblt).trans x2
          have y3 := (HBr.out.cell (p := ⟨b, off + j * 3 + 2, none⟩) hblt).trans x3
          have hj0 : (0 : Int) ≤ (j : Int) := by omega
          obtain ⟨g1, g2, g3⟩ := HIN.out sl[j] (List.getElem_mem hml)
          have hT := HTS.out j hml
          obtain ⟨hu0, hu1⟩ := HTK.out (j + 1)
          rw [hT] at hu0 hu1
          have HT := Lib.hid hT
          generalize sl[j] = y at *
          obtain ⟨yk, ya, ys⟩ := y
          dsimp only at *
          generalize sizeS (sl.take j) = S0 at *
          have d1 : decide (ya < 0) = false := by simp; omega
          have d2 : decide (ys < 37) = false := by simp; omega
          have d3 : decide ((n : Int) < ya + ys) = false := by simp; omega
          have HBa : Hid (Below w8.heap.size w8 (wr.alloc (.cells #[.string yk, .int .i64 ya, .int .i64 ys] 30))) := HBr.out.alloc HBr.out.size _
          clear hcells x1 x2 x3 hnn hT
          go_wp2_with fail
          go_roundw
          case rel => exact ⟨j + 1, by omega, by go_num, by rw [HT.out], HBa⟩
          case measure => simp [intOf]; omega
        · obtain rfl : j = N := by omega
          have hnn := HNE.out
          have HTL : Hid (sizeS (sl.take j) = sizeS sl) := by unfold Hid; rw [hnn, List.take_length]
          rw [HTL.out] at ht0 ht1 ⊢
          generalize sizeS sl = SS at *
          have HB9 := Lib.hid (HB8.out.trans (HBr.out.mono HB8.out.size))
          have HS9 := Lib.hid (HS8.out.below HBr.out (Nat.le_refl _))
          clear hnn HBr HS8 HB8 HIN HTK HTS HH4
          go_wp2_with fail
          refine (HS2.out _).mono ?_
          rintro e w10 ⟨v10, rfl, o10, b10⟩
          have HB10 := Lib.hid (HB9.out.trans (b10.mono HB9.out.size))
          have HS10 := Lib.hid (HS9.out.below b10 (Nat.le_refl _))
          obtain ⟨A10, c10, rfl, h2', h3', h4'⟩ := SlotsB.of_owns o10
          have hc10 : c10 ≤ 9223372036854775807 := by unfold maxLen at h3'; omega
          have e1 : decide (SS ≤ (n : Int)) = true := by simp; omega
          have e2 : decide ((n : Int) ≤ (PA.size : Int) + (PB.size : Int)) = true := by simp; omega
          have e3 : decide ((tl.length : Int) ≤ (j : Int)) = true := by simp; omega
          have e4 : decide ((k : Int) ≤ (n : Int)) = true := by simp; omega
          clear b10 o10 HB9 HS9 h4' h3' HS2 HS1 HW1 HW2 HW3
          generalize tl.length = M at *
          by_cases hk : k < PA.size
          · have e5 : decide ((k : Int) < (PA.size : Int)) = true := by simp; omega
            go_wp2_with fail
            refine (rsame_any _ _ sl w10 (by have := HS10.out; exact this) HS10.out).mono ?_
            rintro e w11 ⟨rfl, b11⟩
            have HB11 := Lib.hid (HB10.out.trans (b11.mono HB10.out.size))
            clear b11
            go_wp2_with fail
            refine (HAw.out _).mono ?_
            rintro e w12 ⟨rfl, b12⟩
            have HB12 := Lib.hid (HB11.out.trans (b12.mono HB11.out.size))
            clear b12
            go_wp2_with fail
            go_ret
            exact ⟨rfl, HB12.out⟩
          · have e5 : decide ((k : Int) < (PA.size : Int)) = false := by simp; omega
            go_wp2_with fail
            refine (rsame_any _ _ sl w10 (by have := HS10.out; exact this) HS10.out).mono ?_
            rintro e w11 ⟨rfl, b11⟩
            have HB11 := Lib.hid (HB10.out.trans (b11.mono HB10.out.size))
            clear b11
            go_wp2_with fail
            refine (HAw.out _).mono ?_
            rintro e w12 ⟨rfl, b12⟩
            have HB12 := Lib.hid (HB11.out.trans (b12.mono HB11.out.size))
            clear b12
            go_wp2_with fail
            go_ret
            exact ⟨rfl, HB12.out⟩
theorem packParts_ok (W : World) (A0 : Option Addr) (n0 c0 : Nat) (x0 : List (ByteArray × ByteArray)) (w0 : Sl W A0 n0 c0 2 (x0.flatMap (ES2 EStr EStr)) ∧ x0.length = n0 ∧ (A0 = none → c0 = 0) ∧ ∀ y ∈ x0, y.1.size ≤ 140737488351232 ∧ y.2.size ≤ 140737488351232) (A1 : Option Addr) (n1 c1 : Nat) (x1 : List (ByteArray × ByteArray)) (w1 : Sl W A1 n1 c1 2 (x1.flatMap (ES2 EStr EStr)) ∧ x1.length = n1 ∧ (A1 = none → c1 = 0) ∧ ∀ y ∈ x1, y.1.size ≤ 140737488351232 ∧ y.2.size ≤ 140737488351232) :
    Calls Try.prog 3 #[.slice A0 n0 c0, .slice A1 n1 c1] W fun e w' => e = .returned (.bool true) ∧ Below W.heap.size W w' :=
  packParts_main W A0 n0 c0 x0 ⟨objs_of_sl w0.1 w0.2.1, fun n c e => by cases e; exact w0.2.2.1 rfl⟩ (fun o ho => ⟨by have := (w0.2.2.2 o ho).1; omega, by have := (w0.2.2.2 o ho).2; omega⟩)
    A1 n1 c1 x1 ⟨objs_of_sl w1.1 w1.2.1, fun n c e => by cases e; exact w1.2.2.1 rfl⟩ (fun o ho => ⟨by have := (w1.2.2.2 o ho).1; omega, by have := (w1.2.2.2 o ho).2; omega⟩)
end Go.Proofs.Ytkbpkodakfknoaa
