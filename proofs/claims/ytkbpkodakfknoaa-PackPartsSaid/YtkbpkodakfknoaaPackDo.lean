/- PackDoes: the law. -/
import Derived.Test.YtkbpkodakfknoaaPackAwake
import Derived.Test.YtkbpkodakfknoaaPackRScan
import Derived.Test.YtkbpkodakfknoaaPackSmall
import Derived.Test.YtkbpkodakfknoaaPackRWrap
import Derived.Test.YtkbpkodakfknoaaArgsW
namespace Go.Proofs.Ytkbpkodakfknoaa
open Go.RowKit
set_option linter.unusedVariables false
set_option linter.unusedSimpArgs false
theorem obs_get : ∀ (l : List Ob) (i : Nat) (h : i < l.length), (l.flatMap (ES2 EStr EStr))[i * 2]? = some (.string l[i].1) ∧ (l.flatMap (ES2 EStr EStr))[i * 2 + 1]? = some (.string l[i].2)
  | o :: l, 0, _ => ⟨rfl, rfl⟩
  | o :: l, i + 1, h => by
    have ih := obs_get l i (by simpa using h)
    constructor
    · show ([Value.string o.1, .string o.2] ++ l.flatMap (ES2 EStr EStr))[(i + 1) * 2]? = _
      rw [List.getElem?_append_right (by simp; omega), show (i + 1) * 2 - [Value.string o.1, .string o.2].length = i * 2 by simp; omega]
      exact ih.1
    · show ([Value.string o.1, .string o.2] ++ l.flatMap (ES2 EStr EStr))[(i + 1) * 2 + 1]? = _
      rw [List.getElem?_append_right (by simp; omega), show (i + 1) * 2 + 1 - [Value.string o.1, .string o.2].length = i * 2 + 1 by simp; omega]
      exact ih.2
theorem objs_of_sl {w : World} {A : Option Addr} {n c : Nat} {l : List Ob} (h : Sl w A n c 2 (l.flatMap (ES2 EStr EStr))) (hn : l.length = n) : ObjsB w (.slice A n c) l := by
  refine ⟨A, c, by rw [hn], by rw [hn]; exact h.le, h.cap, fun hl => ?_⟩
  obtain ⟨b, off, e1, e2, e3⟩ := h.cells (by omega)
  refine ⟨b, off, e1, e2, fun i hi => ?_⟩
  obtain ⟨g1, g2⟩ := obs_get l i hi
  exact ⟨(e3 (i * 2) (by omega)).trans g1, by rw [Nat.add_assoc]; exact (e3 (i * 2 + 1) (by omega)).trans g2⟩
theorem scanP_len (s : ByteArray) : (scanP s.data.toList).1.length ≤ s.size := by
  have h1 := foldS_len (goods (allF s.data.toList))
  have h2 : (goods (allF s.data.toList)).length ≤ (allF s.data.toList).length := (List.takeWhile_sublist _).length_le
  have h3 : ∀ (n k : Nat) (l : List UInt8), (fFrames n k l).length ≤ n := by
    intro n
    induction n with
    | zero => intro k l; simp [fFrames]
    | succ n ih =>
      intro k l
      rw [fFrames]
      split
      · simp
      · split
        · simp
        · have := ih (k + (fOpen (l.drop k)).2.1) l
          simp; omega
  have h4 : (allF s.data.toList).length ≤ s.data.toList.length := h3 _ _ _
  have h5 : s.data.toList.length = s.size := by rw [Array.length_toList]; rfl
  show (foldS (goods (allF s.data.toList))).1.length ≤ _
  omega
set_option maxRecDepth 20000 in
set_option maxHeartbeats 2000000 in
theorem packDoes_main (W : World) (v : Value) (l : List Ob) (s : ByteArray) (hv : ObjsB W v l) (hm : ∀ o ∈ l, o.1.size ≤ 140737488355328 ∧ o.2.size ≤ 140737488355328) :
    Calls Try.prog 4 #[v, .string s] W fun e w' => e = .returned (.bool true) ∧ Below W.heap.size W w' := by
  have HV := Lib.hid hv
  have HSm := Lib.hid (small_any v l W hv hm)
  have HAw := Lib.hid awakeP_any
  obtain ⟨A, c, hve, _⟩ := hv
  subst hve
  obtain ⟨n, hn⟩ : ∃ n, n = l.length := ⟨_, rfl⟩
  rw [← hn] at HV HSm ⊢
  clear hm hn
  go_enter Try.func4, Try.ntmps4
  go_wp2_with fail
  refine (HSm.out).mono ?_
  rintro e w1 ⟨b, rfl, hb, b1⟩
  have HB1 := Lib.hid b1
  cases b with
  | false =>
    clear hb b1
    go_wp2_with fail
    refine (HAw.out _).mono ?_
    rintro e w2 ⟨rfl, b2⟩
    have HB2 := Lib.hid (HB1.out.trans (b2.mono HB1.out.size))
    clear b2
    go_wp2
    go_ret
    exact ⟨rfl, HB2.out⟩
  | true =>
    obtain ⟨h60, hsm, -⟩ := hb rfl
    have HV1 := Lib.hid (HV.out.below b1 (Nat.le_refl _))
    clear hb b1 HV
    by_cases hs : s.size ≤ 20000
    · have d1 : decide ((20000 : Int) < (s.size : Int)) = false := by simp; omega
      have HSc := Lib.hid (fun w => scan_any s (by omega) w)
      have HRS := Lib.hid (fun w => rscan_any s (by omega) w)
      have HW1 := Lib.hid (fun w (h : ObjsB w (.slice A n c) l) => pwrap_any _ l w h hsm (by omega))
      have HW2 := Lib.hid (fun w (h : ObjsB w (.slice A n c) l) => rpwrap_any _ l w h hsm (by omega))
      have htt : ((⟨(pWrap l).toArray⟩ : ByteArray).toList == (⟨(pWrap l).toArray⟩ : ByteArray).toList) = true := by simp
      obtain ⟨PW, hPW⟩ : ∃ PW : ByteArray, PW = ⟨(pWrap l).toArray⟩ := ⟨_, rfl⟩
      rw [← hPW] at HW1 HW2 htt
      generalize scanP s.data.toList = sc at *
      obtain ⟨sl, se⟩ := sc
      dsimp only at HSc HRS
      have hse : ((se : Int) == (se : Int)) = true := by simp
      clear h60 hsm hs hPW
      go_wp2_with fail
      refine (HSc.out _).mono ?_
      rintro e w2 ⟨v2, rfl, o2, b2⟩
      have HB2 := Lib.hid (HB1.out.trans (b2.mono HB1.out.size))
      have HV2 := Lib.hid (HV1.out.below b2 (Nat.le_refl _))
      have HS2 := Lib.hid (SlotsB.of_owns o2)
      clear o2 b2 HB1 HV1
      go_wp2_with fail
      refine (HRS.out _).mono ?_
      rintro e w3 ⟨v3, rfl, s3, b3⟩
      have HB3 := Lib.hid (HB2.out.trans (b3.mono HB2.out.size))
      have HV3 := Lib.hid (HV2.out.below b3 (Nat.le_refl _))
      have HS3 := Lib.hid (HS2.out.below b3 (Nat.le_refl _))
      have HR3 := Lib.hid s3
      clear s3 b3 HB2 HV2 HS2
      go_wp2_with fail
      refine (HW1.out _ HV3.out).mono ?_
      rintro e w4 ⟨rfl, b4⟩
      have HB4 := Lib.hid (HB3.out.trans (b4.mono HB3.out.size))
      have HV4 := Lib.hid (HV3.out.below b4 (Nat.le_refl _))
      have HS4 := Lib.hid (HS3.out.below b4 (Nat.le_refl _))
      have HR4 := Lib.hid (HR3.out.below b4 (Nat.le_refl _))
      clear b4 HB3 HV3 HS3 HR3
      go_wp2_with fail
      refine (HW2.out _ HV4.out).mono ?_
      rintro e w5 ⟨rfl, b5⟩
      have HB5 := Lib.hid (HB4.out.trans (b5.mono HB4.out.size))
      have HS5 := Lib.hid (HS4.out.below b5 (Nat.le_refl _))
      have HR5 := Lib.hid (HR4.out.below b5 (Nat.le_refl _))
      clear b5 HB4 HV4 HS4 HR4
      go_wp2_with fail
      refine (rsame_any _ _ sl w5 HS5.out HR5.out).mono ?_
      rintro e w6 ⟨rfl, b6⟩
      have HB6 := Lib.hid (HB5.out.trans (b6.mono HB5.out.size))
      have HS6 := Lib.hid (HS5.out.below b6 (Nat.le_refl _))
      have HR6 := Lib.hid (HR5.out.below b6 (Nat.le_refl _))
      clear b6 HB5 HS5 HR5
      go_wp2_with fail
      refine (psame_any _ _ sl w6 HS6.out HR6.out).mono ?_
      rintro e w7 ⟨rfl, b7⟩
      have HB7 := Lib.hid (HB6.out.trans (b7.mono HB6.out.size))
      clear b7 HB6 HS6 HR6
      go_wp2_with fail
      refine (HAw.out _).mono ?_
      rintro e w8 ⟨rfl, b8⟩
      have HB8 := Lib.hid (HB7.out.trans (b8.mono HB7.out.size))
      clear b8
      go_wp2
      go_ret
      exact ⟨rfl, HB8.out⟩
    · have d1 : decide ((20000 : Int) < (s.size : Int)) = true := by simp; omega
      clear h60 hsm hs
      go_wp2_with fail
      refine (HAw.out _).mono ?_
      rintro e w2 ⟨rfl, b2⟩
      have HB2 := Lib.hid (HB1.out.trans (b2.mono HB1.out.size))
      clear b2
      go_wp2
      go_ret
      exact ⟨rfl, HB2.out⟩
theorem packDoes_ok (W : World) (A0 : Option Addr) (n0 c0 : Nat) (x0 : List (ByteArray × ByteArray)) (w0 : Sl W A0 n0 c0 2 (x0.flatMap (ES2 EStr EStr)) ∧ x0.length = n0 ∧ (A0 = none → c0 = 0) ∧ ∀ y ∈ x0, y.1.size ≤ 140737488351232 ∧ y.2.size ≤ 140737488351232) (x1 : ByteArray) (w1 : x1.size ≤ 140737488351232) :
    Calls Try.prog 4 #[.slice A0 n0 c0, .string x1] W fun e w' => e = .returned (.bool true) ∧ Below W.heap.size W w' :=
  packDoes_main W _ x0 x1 (objs_of_sl w0.1 w0.2.1) (fun o ho => ⟨by have := (w0.2.2.2 o ho).1; omega, by have := (w0.2.2.2 o ho).2; omega⟩)
end Go.Proofs.Ytkbpkodakfknoaa
