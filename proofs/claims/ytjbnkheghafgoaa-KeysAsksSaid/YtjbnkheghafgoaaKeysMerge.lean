/- Two lists that rise, merged: the walk. -/
import Derived.Test.YtjbnkheghafgoaaKeysHex
import Derived.Test.YtjbnkheghafgoaaStrsApp
import Derived.Deep.QuietTactic
import Derived.BigQuiet
namespace Go.Proofs.Ytjbnkheghafgoaa
open Go.RowKit
set_option linter.unusedVariables false
def mMerge (keep : Bool → Bool → Bool) : List ByteArray → List ByteArray → List ByteArray
  | [], [] => []
  | [], y :: ys => (if keep false true then [y] else []) ++ mMerge keep [] ys
  | x :: xs, [] => (if keep true false then [x] else []) ++ mMerge keep xs []
  | x :: xs, y :: ys =>
    if Op.bytesLess x.data.toList y.data.toList then (if keep true false then [x] else []) ++ mMerge keep xs (y :: ys)
    else if Op.bytesLess y.data.toList x.data.toList then (if keep false true then [y] else []) ++ mMerge keep (x :: xs) ys
    else (if keep true true then [x] else []) ++ mMerge keep xs ys
termination_by a b => a.length + b.length
theorem mMerge_nn (k : Bool → Bool → Bool) : mMerge k [] [] = [] := by rw [mMerge]
theorem mMerge_ny (k : Bool → Bool → Bool) (y : ByteArray) (ys : List ByteArray) : mMerge k [] (y :: ys) = (if k false true then [y] else []) ++ mMerge k [] ys := by rw [mMerge]
theorem mMerge_xn (k : Bool → Bool → Bool) (x : ByteArray) (xs : List ByteArray) : mMerge k (x :: xs) [] = (if k true false then [x] else []) ++ mMerge k xs [] := by rw [mMerge]
theorem mMerge_xy (k : Bool → Bool → Bool) (x y : ByteArray) (xs ys : List ByteArray) : mMerge k (x :: xs) (y :: ys) =
    if Op.bytesLess x.data.toList y.data.toList then (if k true false then [x] else []) ++ mMerge k xs (y :: ys)
    else if Op.bytesLess y.data.toList x.data.toList then (if k false true then [y] else []) ++ mMerge k (x :: xs) ys
    else (if k true true then [x] else []) ++ mMerge k xs ys := by rw [mMerge]
def lenOf : Value → Nat
  | .slice _ n _ => n
  | _ => 0
theorem less_asymm : ∀ {l m : List UInt8}, Op.bytesLess l m = true → Op.bytesLess m l = false
  | _, [], h => by rw [Op.bytesLess.eq_1] at h; exact absurd h (by decide)
  | [], d :: m, _ => by rw [Op.bytesLess.eq_1]
  | c :: l, d :: m, h => by
    have hc : c < d ↔ c.toNat < d.toNat := Iff.rfl
    have hd : d < c ↔ d.toNat < c.toNat := Iff.rfl
    have he : c = d ↔ c.toNat = d.toNat := UInt8.toNat_inj.symm
    have hf : d = c ↔ d.toNat = c.toNat := UInt8.toNat_inj.symm
    rw [Op.bytesLess.eq_3] at h ⊢
    have ih := @less_asymm l m
    simp [hc, hd, he, hf] at h ⊢
    refine ⟨by omega, fun e => ?_⟩
    rcases h with h | ⟨_, h⟩
    · omega
    · exact ih h
theorem less_total : ∀ {l m : List UInt8}, Op.bytesLess l m = false → Op.bytesLess m l = false → l = m
  | [], [], _, _ => rfl
  | c :: l, [], _, h => by rw [Op.bytesLess.eq_2] at h; exact absurd h (by decide)
  | [], d :: m, h, _ => by rw [Op.bytesLess.eq_2] at h; exact absurd h (by decide)
  | c :: l, d :: m, h, h' => by
    have hc : c < d ↔ c.toNat < d.toNat := Iff.rfl
    have hd : d < c ↔ d.toNat < c.toNat := Iff.rfl
    have he : c = d ↔ c.toNat = d.toNat := UInt8.toNat_inj.symm
    have hf : d = c ↔ d.toNat = c.toNat := UInt8.toNat_inj.symm
    rw [Op.bytesLess.eq_3] at h h'
    simp [hc, hd, he, hf] at h h'
    have e : c.toNat = d.toNat := by omega
    rw [UInt8.toNat_inj.1 e, less_total (h.2 e) (h'.2 e.symm)]
theorem less_irrefl (l : List UInt8) : Op.bytesLess l l = false := by
  cases h : Op.bytesLess l l
  · rfl
  · rw [less_asymm h] at h; exact absurd h (by decide)
theorem toList_ne {x y : ByteArray} (h : x ≠ y) : (x.toList == y.toList) = false := by
  rw [beq_eq_false_iff_ne, ByteArray.toList_eq, ByteArray.toList_eq]
  intro e
  exact h (ByteArray.ext (Array.toList_inj.1 e))
/-- what is left of a list behind its first text -/
theorem StrsB.tail0 {w : World} {b off : Nat} {xs : List ByteArray} (h : xs = []) : StrsB w (.slice (some ⟨b, off, none⟩) xs.length 0) xs := by
  subst h
  exact ⟨_, 0, rfl, by simp, by unfold maxLen; omega, fun h => by simp at h⟩
set_option maxRecDepth 20000 in
set_option maxHeartbeats 16000000 in
theorem merge_any (f : Nat) (keep : Bool → Bool → Bool) (hf : ∀ x y w, Calls Try.prog f #[.bool x, .bool y] w fun e w' => e = .returned (.bool (keep x y)) ∧ w = w') (hen : ∀ args w, (callFunc f args).run Try.prog w = .ok (.enter f args) w)
    (w : World) (va vb : Value) (la lb : List ByteArray) (ha : StrsB w va la) (hb : StrsB w vb lb) (hl : la.length + lb.length ≤ 1000000) :
    Calls Try.prog 36 #[va, vb, .func (.func f) #[] #[]] w fun e w' => ∃ v, e = .returned v ∧ w'.ownsRow w.heap.size 9 1 v (mMerge keep la lb).length ((mMerge keep la lb).map .string) ∧ Below w.heap.size w w' := by
  have HF := Lib.hid hf; clear hf
  have HEN := Lib.hid hen; clear hen
  have HA := Lib.hid ha; clear ha
  have HB := Lib.hid hb; clear hb
  have HL := Lib.hid hl; clear hl
  obtain ⟨i0, hi, hz0, hz1, hz2⟩ := info_parts strInfo
  go_enter Try.func36, Try.ntmps36
  go_wp2
  go_loopw [0, 1, 7] (fun a b v wr => ∃ (xs ys out : List ByteArray), Hid (StrsB w a xs) ∧ Hid (StrsB w b ys) ∧ wr.ownsRow w.heap.size 9 1 v out.length (out.map .string) ∧ Hid (mMerge keep la lb = out ++ mMerge keep xs ys) ∧ Hid (xs.length + ys.length + out.length ≤ 1000000) ∧ Hid (Below w.heap.size w wr)) (fun a b _ _ => lenOf a + lenOf b)
  case atStart => exact ⟨la, lb, [], HA.out, HB.out, World.ownsRow_nil _ _ _ _, rfl, by unfold Hid; have := HL.out; simpa using this, Below.refl _ _⟩
  case round =>
    obtain ⟨xs, ys, out, HX, HY, hown, HM, HN, HW⟩ := hrel
    rcases xs with _ | ⟨x, xs⟩
    · obtain ⟨A, c, rfl, hc⟩ := HX.out.nil
      have HC := Lib.hid hc; clear hc
      rcases ys with _ | ⟨y, ys⟩
      · obtain ⟨A', c', rfl, hc'⟩ := HY.out.nil
        have hv : mMerge keep la lb = out := by rw [HM.out, mMerge_nn, List.append_nil]
        have HV := Lib.hid hv; clear hv
        go_wp2
        go_ret
        exact ⟨_, rfl, by rw [HV.out]; exact hown, HW.out⟩
      · obtain ⟨bq, offq, cq, rfl, hcq1, hcq2, hbltq, hcellq, hrestq⟩ := HY.out.cons
        have hcellq := (HW.out.cell (p := ⟨bq, offq, none⟩) hbltq).trans hcellq
        have z1q : ((ys.length : Int) + 1 == 0) = false := by rw [beq_eq_false_iff_ne]; omega
        have z2q : decide ((0 : Int) < (ys.length : Int) + 1) = true := by rw [decide_eq_true_iff]; omega
        have HRq := Lib.hid hrestq; clear hrestq
        by_cases honeq : cq = 1
        · subst honeq
          have hysq : ys = [] := by rw [← List.length_eq_zero_iff]; omega
          subst hysq
          clear HRq
          have HRq : Hid (StrsB w (.slice (some ⟨bq, offq, none⟩) 0 0) []) := StrsB.tail0 rfl
          cases hke : keep false true
          · have HKE := Lib.hid hke
            have HK : Hid (∀ w, Calls Try.prog f #[.bool false, .bool true] w fun e w' => e = .returned (.bool false) ∧ w = w') := by unfold Hid; intro w; have := HF.out false true w; rw [hke] at this; exact this
            clear hke
            go_wp2_with fail
            go_quiet (fail)
            go_wp2_with fail
            go_quiet (fail)
            go_wp2_with fail
            go_quiet (fail)
            have hen := HEN.out #[.bool false, .bool true]
            go_wp2_with fail
            refine (HK.out _).mono ?_
            rintro e wz ⟨rfl, hwz⟩
            have hown : wz.ownsRow w.heap.size 9 1 u7 out.length (out.map .string) := by rw [← hwz]; exact hown
            have HW1 : Hid (Below w.heap.size w wz) := by rw [← hwz]; exact Below.drewN HW.out _
            have hsz : w.heap.size ≤ wz.heap.size := HW1.out.size
            clear hwz hen
            go_wp2
            go_roundw
            case rel => exact ⟨[], [], out, HX.out, HRq.out, hown, by unfold Hid; rw [HM.out]; simp only [mMerge_ny, HKE.out]; simp, by unfold Hid; have := HN.out; simp at this ⊢; omega, HW1⟩
            case measure => simp [lenOf]; try omega
          · have HKE := Lib.hid hke
            have HK : Hid (∀ w, Calls Try.prog f #[.bool false, .bool true] w fun e w' => e = .returned (.bool true) ∧ w = w') := by unfold Hid; intro w; have := HF.out false true w; rw [hke] at this; exact this
            clear hke
            go_wp2_with fail
            go_quiet (fail)
            go_wp2_with fail
            go_quiet (fail)
            go_wp2_with fail
            go_quiet (fail)
            have hen := HEN.out #[.bool false, .bool true]
            go_wp2_with fail
            refine (HK.out _).mono ?_
            rintro e wz ⟨rfl, hwz⟩
            have hown : wz.ownsRow w.heap.size 9 1 u7 out.length (out.map .string) := by rw [← hwz]; exact hown
            have HW1 : Hid (Below w.heap.size w wz) := by rw [← hwz]; exact Below.drewN HW.out _
            have hsz : w.heap.size ≤ wz.heap.size := HW1.out.size
            clear hwz hen
            have HN2 := HN.out
            simp at HN2
            have hol : out.length + 1 ≤ 1000000 := by omega
            clear HN2
            go_wp2_with (at_builtin; refine wpList_append_own _ rfl _ _ 33 rfl w.heap.size 9 i0 (.string ByteArray.empty) 1 16 Try.underlying33 hi hz0 hz1 hz2 rfl (by decide) _ _ _ rfl (hown.alloc _) ⟨wz.heap.size, 0, none⟩ 1 1 [.string y] rfl rfl ?c1 ?c2 ?c3 ?c4 ?c5 ?_)
            case c1 =>
              intro j u hj
              match j, hj with
              | 0, hj => simp at hj; subst hj; simp [Addr.add]
            case c2 => intro u hu; simp at hu; subst hu; rfl
            case c3 => unfold maxLen; omega
            case c4 => omega
            case c5 => simp; omega
            intro v' w1 hown1 hgrow1 _
            have HO : Hid (w1.ownsRow w.heap.size 9 1 v' (out ++ [y]).length ((out ++ [y]).map .string)) := by unfold Hid; simpa using hown1
            have HW2 : Hid (Below w.heap.size w w1) := (HW1.out.alloc hsz _).grown hgrow1 (by simp; omega) (fun k hk => (hown.lt k hk).1)
            clear hown1 hgrow1
            go_wp2
            go_roundw
            case rel => exact ⟨[], [], out ++ [y], HX.out, HRq.out, HO.out, by unfold Hid; rw [HM.out]; simp only [mMerge_ny, HKE.out]; simp, by unfold Hid; have := HN.out; simp at this ⊢; omega, HW2⟩
            case measure => simp [lenOf]; try omega
        · cases hke : keep false true
          · have HKE := Lib.hid hke
            have HK : Hid (∀ w, Calls Try.prog f #[.bool false, .bool true] w fun e w' => e = .returned (.bool false) ∧ w = w') := by unfold Hid; intro w; have := HF.out false true w; rw [hke] at this; exact this
            clear hke
            go_wp2_with fail
            go_quiet (fail)
            go_wp2_with fail
            go_quiet (fail)
            go_wp2_with fail
            go_quiet (fail)
            have hen := HEN.out #[.bool false, .bool true]
            go_wp2_with fail
            refine (HK.out _).mono ?_
            rintro e wz ⟨rfl, hwz⟩
            have hown : wz.ownsRow w.heap.size 9 1 u7 out.length (out.map .string) := by rw [← hwz]; exact hown
            have HW1 : Hid (Below w.heap.size w wz) := by rw [← hwz]; exact Below.drewN HW.out _
            have hsz : w.heap.size ≤ wz.heap.size := HW1.out.size
            clear hwz hen
            go_wp2
            go_roundw
            case rel => exact ⟨[], ys, out, HX.out, HRq.out, hown, by unfold Hid; rw [HM.out]; simp only [mMerge_ny, HKE.out]; simp, by unfold Hid; have := HN.out; simp at this ⊢; omega, HW1⟩
            case measure => simp [lenOf]; try omega
          · have HKE := Lib.hid hke
            have HK : Hid (∀ w, Calls Try.prog f #[.bool false, .bool true] w fun e w' => e = .returned (.bool true) ∧ w = w') := by unfold Hid; intro w; have := HF.out false true w; rw [hke] at this; exact this
            clear hke
            go_wp2_with fail
            go_quiet (fail)
            go_wp2_with fail
            go_quiet (fail)
            go_wp2_with fail
            go_quiet (fail)
            have hen := HEN.out #[.bool false, .bool true]
            go_wp2_with fail
            refine (HK.out _).mono ?_
            rintro e wz ⟨rfl, hwz⟩
            have hown : wz.ownsRow w.heap.size 9 1 u7 out.length (out.map .string) := by rw [← hwz]; exact hown
            have HW1 : Hid (Below w.heap.size w wz) := by rw [← hwz]; exact Below.drewN HW.out _
            have hsz : w.heap.size ≤ wz.heap.size := HW1.out.size
            clear hwz hen
            have HN2 := HN.out
            simp at HN2
            have hol : out.length + 1 ≤ 1000000 := by omega
            clear HN2
            go_wp2_with (at_builtin; refine wpList_append_own _ rfl _ _ 33 rfl w.heap.size 9 i0 (.string ByteArray.empty) 1 16 Try.underlying33 hi hz0 hz1 hz2 rfl (by decide) _ _ _ rfl (hown.alloc _) ⟨wz.heap.size, 0, none⟩ 1 1 [.string y] rfl rfl ?c1 ?c2 ?c3 ?c4 ?c5 ?_)
            case c1 =>
              intro j u hj
              match j, hj with
              | 0, hj => simp at hj; subst hj; simp [Addr.add]
            case c2 => intro u hu; simp at hu; subst hu; rfl
            case c3 => unfold maxLen; omega
            case c4 => omega
            case c5 => simp; omega
            intro v' w1 hown1 hgrow1 _
            have HO : Hid (w1.ownsRow w.heap.size 9 1 v' (out ++ [y]).length ((out ++ [y]).map .string)) := by unfold Hid; simpa using hown1
            have HW2 : Hid (Below w.heap.size w w1) := (HW1.out.alloc hsz _).grown hgrow1 (by simp; omega) (fun k hk => (hown.lt k hk).1)
            clear hown1 hgrow1
            go_wp2
            go_roundw
            case rel => exact ⟨[], ys, out ++ [y], HX.out, HRq.out, HO.out, by unfold Hid; rw [HM.out]; simp only [mMerge_ny, HKE.out]; simp, by unfold Hid; have := HN.out; simp at this ⊢; omega, HW2⟩
            case measure => simp [lenOf]; try omega
    · rcases ys with _ | ⟨y, ys⟩
      · obtain ⟨A, c, rfl, hc⟩ := HY.out.nil
        have HC := Lib.hid hc; clear hc
        obtain ⟨bp, offp, cp, rfl, hcp1, hcp2, hbltp, hcellp, hrestp⟩ := HX.out.cons
        have hcellp := (HW.out.cell (p := ⟨bp, offp, none⟩) hbltp).trans hcellp
        have z1p : ((xs.length : Int) + 1 == 0) = false := by rw [beq_eq_false_iff_ne]; omega
        have z2p : decide ((0 : Int) < (xs.length : Int) + 1) = true := by rw [decide_eq_true_iff]; omega
        have HRp := Lib.hid hrestp; clear hrestp
        by_cases honep : cp = 1
        · subst honep
          have hysp : xs = [] := by rw [← List.length_eq_zero_iff]; omega
          subst hysp
          clear HRp
          have HRp : Hid (StrsB w (.slice (some ⟨bp, offp, none⟩) 0 0) []) := StrsB.tail0 rfl
          cases hke : keep true false
          · have HKE := Lib.hid hke
            have HK : Hid (∀ w, Calls Try.prog f #[.bool true, .bool false] w fun e w' => e = .returned (.bool false) ∧ w = w') := by unfold Hid; intro w; have := HF.out true false w; rw [hke] at this; exact this
            clear hke
            go_wp2_with fail
            go_quiet (fail)
            go_wp2_with fail
            go_quiet (fail)
            go_wp2_with fail
            go_quiet (fail)
            have hen := HEN.out #[.bool true, .bool false]
            go_wp2_with fail
            refine (HK.out _).mono ?_
            rintro e wz ⟨rfl, hwz⟩
            have hown : wz.ownsRow w.heap.size 9 1 u7 out.length (out.map .string) := by rw [← hwz]; exact hown
            have HW1 : Hid (Below w.heap.size w wz) := by rw [← hwz]; exact Below.drewN HW.out _
            have hsz : w.heap.size ≤ wz.heap.size := HW1.out.size
            clear hwz hen
            go_wp2
            go_roundw
            case rel => exact ⟨[], [], out, HRp.out, HY.out, hown, by unfold Hid; rw [HM.out]; simp only [mMerge_xn, HKE.out]; simp, by unfold Hid; have := HN.out; simp at this ⊢; omega, HW1⟩
            case measure => simp [lenOf]; try omega
          · have HKE := Lib.hid hke
            have HK : Hid (∀ w, Calls Try.prog f #[.bool true, .bool false] w fun e w' => e = .returned (.bool true) ∧ w = w') := by unfold Hid; intro w; have := HF.out true false w; rw [hke] at this; exact this
            clear hke
            go_wp2_with fail
            go_quiet (fail)
            go_wp2_with fail
            go_quiet (fail)
            go_wp2_with fail
            go_quiet (fail)
            have hen := HEN.out #[.bool true, .bool false]
            go_wp2_with fail
            refine (HK.out _).mono ?_
            rintro e wz ⟨rfl, hwz⟩
            have hown : wz.ownsRow w.heap.size 9 1 u7 out.length (out.map .string) := by rw [← hwz]; exact hown
            have HW1 : Hid (Below w.heap.size w wz) := by rw [← hwz]; exact Below.drewN HW.out _
            have hsz : w.heap.size ≤ wz.heap.size := HW1.out.size
            clear hwz hen
            have HN2 := HN.out
            simp at HN2
            have hol : out.length + 1 ≤ 1000000 := by omega
            clear HN2
            go_wp2_with (at_builtin; refine wpList_append_own _ rfl _ _ 33 rfl w.heap.size 9 i0 (.string ByteArray.empty) 1 16 Try.underlying33 hi hz0 hz1 hz2 rfl (by decide) _ _ _ rfl (hown.alloc _) ⟨wz.heap.size, 0, none⟩ 1 1 [.string x] rfl rfl ?c1 ?c2 ?c3 ?c4 ?c5 ?_)
            case c1 =>
              intro j u hj
              match j, hj with
              | 0, hj => simp at hj; subst hj; simp [Addr.add]
            case c2 => intro u hu; simp at hu; subst hu; rfl
            case c3 => unfold maxLen; omega
            case c4 => omega
            case c5 => simp; omega
            intro v' w1 hown1 hgrow1 _
            have HO : Hid (w1.ownsRow w.heap.size 9 1 v' (out ++ [x]).length ((out ++ [x]).map .string)) := by unfold Hid; simpa using hown1
            have HW2 : Hid (Below w.heap.size w w1) := (HW1.out.alloc hsz _).grown hgrow1 (by simp; omega) (fun k hk => (hown.lt k hk).1)
            clear hown1 hgrow1
            go_wp2
            go_roundw
            case rel => exact ⟨[], [], out ++ [x], HRp.out, HY.out, HO.out, by unfold Hid; rw [HM.out]; simp only [mMerge_xn, HKE.out]; simp, by unfold Hid; have := HN.out; simp at this ⊢; omega, HW2⟩
            case measure => simp [lenOf]; try omega
        · cases hke : keep true false
          · have HKE := Lib.hid hke
            have HK : Hid (∀ w, Calls Try.prog f #[.bool true, .bool false] w fun e w' => e = .returned (.bool false) ∧ w = w') := by unfold Hid; intro w; have := HF.out true false w; rw [hke] at this; exact this
            clear hke
            go_wp2_with fail
            go_quiet (fail)
            go_wp2_with fail
            go_quiet (fail)
            go_wp2_with fail
            go_quiet (fail)
            have hen := HEN.out #[.bool true, .bool false]
            go_wp2_with fail
            refine (HK.out _).mono ?_
            rintro e wz ⟨rfl, hwz⟩
            have hown : wz.ownsRow w.heap.size 9 1 u7 out.length (out.map .string) := by rw [← hwz]; exact hown
            have HW1 : Hid (Below w.heap.size w wz) := by rw [← hwz]; exact Below.drewN HW.out _
            have hsz : w.heap.size ≤ wz.heap.size := HW1.out.size
            clear hwz hen
            go_wp2
            go_roundw
            case rel => exact ⟨xs, [], out, HRp.out, HY.out, hown, by unfold Hid; rw [HM.out]; simp only [mMerge_xn, HKE.out]; simp, by unfold Hid; have := HN.out; simp at this ⊢; omega, HW1⟩
            case measure => simp [lenOf]; try omega
          · have HKE := Lib.hid hke
            have HK : Hid (∀ w, Calls Try.prog f #[.bool true, .bool false] w fun e w' => e = .returned (.bool true) ∧ w = w') := by unfold Hid; intro w; have := HF.out true false w; rw [hke] at this; exact this
            clear hke
            go_wp2_with fail
            go_quiet (fail)
            go_wp2_with fail
            go_quiet (fail)
            go_wp2_with fail
            go_quiet (fail)
            have hen := HEN.out #[.bool true, .bool false]
            go_wp2_with fail
            refine (HK.out _).mono ?_
            rintro e wz ⟨rfl, hwz⟩
            have hown : wz.ownsRow w.heap.size 9 1 u7 out.length (out.map .string) := by rw [← hwz]; exact hown
            have HW1 : Hid (Below w.heap.size w wz) := by rw [← hwz]; exact Below.drewN HW.out _
            have hsz : w.heap.size ≤ wz.heap.size := HW1.out.size
            clear hwz hen
            have HN2 := HN.out
            simp at HN2
            have hol : out.length + 1 ≤ 1000000 := by omega
            clear HN2
            go_wp2_with (at_builtin; refine wpList_append_own _ rfl _ _ 33 rfl w.heap.size 9 i0 (.string ByteArray.empty) 1 16 Try.underlying33 hi hz0 hz1 hz2 rfl (by decide) _ _ _ rfl (hown.alloc _) ⟨wz.heap.size, 0, none⟩ 1 1 [.string x] rfl rfl ?c1 ?c2 ?c3 ?c4 ?c5 ?_)
            case c1 =>
              intro j u hj
              match j, hj with
              | 0, hj => simp at hj; subst hj; simp [Addr.add]
            case c2 => intro u hu; simp at hu; subst hu; rfl
            case c3 => unfold maxLen; omega
            case c4 => omega
            case c5 => simp; omega
            intro v' w1 hown1 hgrow1 _
            have HO : Hid (w1.ownsRow w.heap.size 9 1 v' (out ++ [x]).length ((out ++ [x]).map .string)) := by unfold Hid; simpa using hown1
            have HW2 : Hid (Below w.heap.size w w1) := (HW1.out.alloc hsz _).grown hgrow1 (by simp; omega) (fun k hk => (hown.lt k hk).1)
            clear hown1 hgrow1
            go_wp2
            go_roundw
            case rel => exact ⟨xs, [], out ++ [x], HRp.out, HY.out, HO.out, by unfold Hid; rw [HM.out]; simp only [mMerge_xn, HKE.out]; simp, by unfold Hid; have := HN.out; simp at this ⊢; omega, HW2⟩
            case measure => simp [lenOf]; try omega
      · obtain ⟨bp, offp, cp, rfl, hcp1, hcp2, hbltp, hcellp, hrestp⟩ := HX.out.cons
        have hcellp := (HW.out.cell (p := ⟨bp, offp, none⟩) hbltp).trans hcellp
        have z1p : ((xs.length : Int) + 1 == 0) = false := by rw [beq_eq_false_iff_ne]; omega
        have z2p : decide ((0 : Int) < (xs.length : Int) + 1) = true := by rw [decide_eq_true_iff]; omega
        have HRp := Lib.hid hrestp; clear hrestp
        obtain ⟨bq, offq, cq, rfl, hcq1, hcq2, hbltq, hcellq, hrestq⟩ := HY.out.cons
        have hcellq := (HW.out.cell (p := ⟨bq, offq, none⟩) hbltq).trans hcellq
        have z1q : ((ys.length : Int) + 1 == 0) = false := by rw [beq_eq_false_iff_ne]; omega
        have z2q : decide ((0 : Int) < (ys.length : Int) + 1) = true := by rw [decide_eq_true_iff]; omega
        have HRq := Lib.hid hrestq; clear hrestq
        by_cases hxy : Op.bytesLess x.data.toList y.data.toList = true
        · have hxy : Op.bytesLess x.data.toList y.data.toList = true := hxy
          have hyx := less_asymm hxy
          have HXY := Lib.hid hxy
          have p1 : Op.bytesLess x.toList y.toList = true := by rw [ByteArray.toList_eq, ByteArray.toList_eq]; exact hxy
          have p2 : Op.bytesLess y.toList x.toList = false := by rw [ByteArray.toList_eq, ByteArray.toList_eq]; exact hyx
          have p3 : (y.toList == x.toList) = false := toList_ne (by intro e; subst e; rw [hyx] at hxy; exact absurd hxy (by decide))
          clear hxy hyx
          by_cases honep : cp = 1
          · subst honep
            have hysp : xs = [] := by rw [← List.length_eq_zero_iff]; omega
            subst hysp
            clear HRp
            have HRp : Hid (StrsB w (.slice (some ⟨bp, offp, none⟩) 0 0) []) := StrsB.tail0 rfl
            cases hke : keep true false
            · have HKE := Lib.hid hke
              have HK : Hid (∀ w, Calls Try.prog f #[.bool true, .bool false] w fun e w' => e = .returned (.bool false) ∧ w = w') := by unfold Hid; intro w; have := HF.out true false w; rw [hke] at this; exact this
              clear hke
              go_wp2_with fail
              go_quiet (fail)
              go_wp2_with fail
              go_quiet (fail)
              go_wp2_with fail
              go_quiet (fail)
              have hen := HEN.out #[.bool true, .bool false]
              go_wp2_with fail
              refine (HK.out _).mono ?_
              rintro e wz ⟨rfl, hwz⟩
              have hown : wz.ownsRow w.heap.size 9 1 u7 out.length (out.map .string) := by rw [← hwz]; exact hown
              have HW1 : Hid (Below w.heap.size w wz) := by rw [← hwz]; exact Below.drewN HW.out _
              have hsz : w.heap.size ≤ wz.heap.size := HW1.out.size
              clear hwz hen
              go_wp2
              go_roundw
              case rel => exact ⟨[], (y :: ys), out, HRp.out, HY.out, hown, by unfold Hid; rw [HM.out]; simp only [mMerge_xy, HXY.out, HKE.out]; simp, by unfold Hid; have := HN.out; simp at this ⊢; omega, HW1⟩
              case measure => simp [lenOf]; try omega
            · have HKE := Lib.hid hke
              have HK : Hid (∀ w, Calls Try.prog f #[.bool true, .bool false] w fun e w' => e = .returned (.bool true) ∧ w = w') := by unfold Hid; intro w; have := HF.out true false w; rw [hke] at this; exact this
              clear hke
              go_wp2_with fail
              go_quiet (fail)
              go_wp2_with fail
              go_quiet (fail)
              go_wp2_with fail
              go_quiet (fail)
              have hen := HEN.out #[.bool true, .bool false]
              go_wp2_with fail
              refine (HK.out _).mono ?_
              rintro e wz ⟨rfl, hwz⟩
              have hown : wz.ownsRow w.heap.size 9 1 u7 out.length (out.map .string) := by rw [← hwz]; exact hown
              have HW1 : Hid (Below w.heap.size w wz) := by rw [← hwz]; exact Below.drewN HW.out _
              have hsz : w.heap.size ≤ wz.heap.size := HW1.out.size
              clear hwz hen
              have HN2 := HN.out
              simp at HN2
              have hol : out.length + 1 ≤ 1000000 := by omega
              clear HN2
              go_wp2_with (at_builtin; refine wpList_append_own _ rfl _ _ 33 rfl w.heap.size 9 i0 (.string ByteArray.empty) 1 16 Try.underlying33 hi hz0 hz1 hz2 rfl (by decide) _ _ _ rfl (hown.alloc _) ⟨wz.heap.size, 0, none⟩ 1 1 [.string x] rfl rfl ?c1 ?c2 ?c3 ?c4 ?c5 ?_)
              case c1 =>
                intro j u hj
                match j, hj with
                | 0, hj => simp at hj; subst hj; simp [Addr.add]
              case c2 => intro u hu; simp at hu; subst hu; rfl
              case c3 => unfold maxLen; omega
              case c4 => omega
              case c5 => simp; omega
              intro v' w1 hown1 hgrow1 _
              have HO : Hid (w1.ownsRow w.heap.size 9 1 v' (out ++ [x]).length ((out ++ [x]).map .string)) := by unfold Hid; simpa using hown1
              have HW2 : Hid (Below w.heap.size w w1) := (HW1.out.alloc hsz _).grown hgrow1 (by simp; omega) (fun k hk => (hown.lt k hk).1)
              clear hown1 hgrow1
              go_wp2
              go_roundw
              case rel => exact ⟨[], (y :: ys), out ++ [x], HRp.out, HY.out, HO.out, by unfold Hid; rw [HM.out]; simp only [mMerge_xy, HXY.out, HKE.out]; simp, by unfold Hid; have := HN.out; simp at this ⊢; omega, HW2⟩
              case measure => simp [lenOf]; try omega
          · cases hke : keep true false
            · have HKE := Lib.hid hke
              have HK : Hid (∀ w, Calls Try.prog f #[.bool true, .bool false] w fun e w' => e = .returned (.bool false) ∧ w = w') := by unfold Hid; intro w; have := HF.out true false w; rw [hke] at this; exact this
              clear hke
              go_wp2_with fail
              go_quiet (fail)
              go_wp2_with fail
              go_quiet (fail)
              go_wp2_with fail
              go_quiet (fail)
              have hen := HEN.out #[.bool true, .bool false]
              go_wp2_with fail
              refine (HK.out _).mono ?_
              rintro e wz ⟨rfl, hwz⟩
              have hown : wz.ownsRow w.heap.size 9 1 u7 out.length (out.map .string) := by rw [← hwz]; exact hown
              have HW1 : Hid (Below w.heap.size w wz) := by rw [← hwz]; exact Below.drewN HW.out _
              have hsz : w.heap.size ≤ wz.heap.size := HW1.out.size
              clear hwz hen
              go_wp2
              go_roundw
              case rel => exact ⟨xs, (y :: ys), out, HRp.out, HY.out, hown, by unfold Hid; rw [HM.out]; simp only [mMerge_xy, HXY.out, HKE.out]; simp, by unfold Hid; have := HN.out; simp at this ⊢; omega, HW1⟩
              case measure => simp [lenOf]; try omega
            · have HKE := Lib.hid hke
              have HK : Hid (∀ w, Calls Try.prog f #[.bool true, .bool false] w fun e w' => e = .returned (.bool true) ∧ w = w') := by unfold Hid; intro w; have := HF.out true false w; rw [hke] at this; exact this
              clear hke
              go_wp2_with fail
              go_quiet (fail)
              go_wp2_with fail
              go_quiet (fail)
              go_wp2_with fail
              go_quiet (fail)
              have hen := HEN.out #[.bool true, .bool false]
              go_wp2_with fail
              refine (HK.out _).mono ?_
              rintro e wz ⟨rfl, hwz⟩
              have hown : wz.ownsRow w.heap.size 9 1 u7 out.length (out.map .string) := by rw [← hwz]; exact hown
              have HW1 : Hid (Below w.heap.size w wz) := by rw [← hwz]; exact Below.drewN HW.out _
              have hsz : w.heap.size ≤ wz.heap.size := HW1.out.size
              clear hwz hen
              have HN2 := HN.out
              simp at HN2
              have hol : out.length + 1 ≤ 1000000 := by omega
              clear HN2
              go_wp2_with (at_builtin; refine wpList_append_own _ rfl _ _ 33 rfl w.heap.size 9 i0 (.string ByteArray.empty) 1 16 Try.underlying33 hi hz0 hz1 hz2 rfl (by decide) _ _ _ rfl (hown.alloc _) ⟨wz.heap.size, 0, none⟩ 1 1 [.string x] rfl rfl ?c1 ?c2 ?c3 ?c4 ?c5 ?_)
              case c1 =>
                intro j u hj
                match j, hj with
                | 0, hj => simp at hj; subst hj; simp [Addr.add]
              case c2 => intro u hu; simp at hu; subst hu; rfl
              case c3 => unfold maxLen; omega
              case c4 => omega
              case c5 => simp; omega
              intro v' w1 hown1 hgrow1 _
              have HO : Hid (w1.ownsRow w.heap.size 9 1 v' (out ++ [x]).length ((out ++ [x]).map .string)) := by unfold Hid; simpa using hown1
              have HW2 : Hid (Below w.heap.size w w1) := (HW1.out.alloc hsz _).grown hgrow1 (by simp; omega) (fun k hk => (hown.lt k hk).1)
              clear hown1 hgrow1
              go_wp2
              go_roundw
              case rel => exact ⟨xs, (y :: ys), out ++ [x], HRp.out, HY.out, HO.out, by unfold Hid; rw [HM.out]; simp only [mMerge_xy, HXY.out, HKE.out]; simp, by unfold Hid; have := HN.out; simp at this ⊢; omega, HW2⟩
              case measure => simp [lenOf]; try omega
        · by_cases hyx : Op.bytesLess y.data.toList x.data.toList = true
          · have hxy : Op.bytesLess x.data.toList y.data.toList = false := by simpa using hxy
            have hyx : Op.bytesLess y.data.toList x.data.toList = true := hyx
            have HXY := Lib.hid hxy
            have HYX := Lib.hid hyx
            have p1 : Op.bytesLess x.toList y.toList = false := by rw [ByteArray.toList_eq, ByteArray.toList_eq]; exact hxy
            have p2 : Op.bytesLess y.toList x.toList = true := by rw [ByteArray.toList_eq, ByteArray.toList_eq]; exact hyx
            have p3 : (x.toList == y.toList) = false := toList_ne (by intro e; subst e; rw [hyx] at hxy; exact absurd hxy (by decide))
            clear hxy hyx
            by_cases honeq : cq = 1
            · subst honeq
              have hysq : ys = [] := by rw [← List.length_eq_zero_iff]; omega
              subst hysq
              clear HRq
              have HRq : Hid (StrsB w (.slice (some ⟨bq, offq, none⟩) 0 0) []) := StrsB.tail0 rfl
              cases hke : keep false true
              · have HKE := Lib.hid hke
                have HK : Hid (∀ w, Calls Try.prog f #[.bool false, .bool true] w fun e w' => e = .returned (.bool false) ∧ w = w') := by unfold Hid; intro w; have := HF.out false true w; rw [hke] at this; exact this
                clear hke
                go_wp2_with fail
                go_quiet (fail)
                go_wp2_with fail
                go_quiet (fail)
                go_wp2_with fail
                go_quiet (fail)
                have hen := HEN.out #[.bool false, .bool true]
                go_wp2_with fail
                refine (HK.out _).mono ?_
                rintro e wz ⟨rfl, hwz⟩
                have hown : wz.ownsRow w.heap.size 9 1 u7 out.length (out.map .string) := by rw [← hwz]; exact hown
                have HW1 : Hid (Below w.heap.size w wz) := by rw [← hwz]; exact Below.drewN HW.out _
                have hsz : w.heap.size ≤ wz.heap.size := HW1.out.size
                clear hwz hen
                go_wp2
                go_roundw
                case rel => exact ⟨(x :: xs), [], out, HX.out, HRq.out, hown, by unfold Hid; rw [HM.out]; simp only [mMerge_xy, HXY.out, HYX.out, HKE.out]; simp, by unfold Hid; have := HN.out; simp at this ⊢; omega, HW1⟩
                case measure => simp [lenOf]; try omega
              · have HKE := Lib.hid hke
                have HK : Hid (∀ w, Calls Try.prog f #[.bool false, .bool true] w fun e w' => e = .returned (.bool true) ∧ w = w') := by unfold Hid; intro w; have := HF.out false true w; rw [hke] at this; exact this
                clear hke
                go_wp2_with fail
                go_quiet (fail)
                go_wp2_with fail
                go_quiet (fail)
                go_wp2_with fail
                go_quiet (fail)
                have hen := HEN.out #[.bool false, .bool true]
                go_wp2_with fail
                refine (HK.out _).mono ?_
                rintro e wz ⟨rfl, hwz⟩
                have hown : wz.ownsRow w.heap.size 9 1 u7 out.length (out.map .string) := by rw [← hwz]; exact hown
                have HW1 : Hid (Below w.heap.size w wz) := by rw [← hwz]; exact Below.drewN HW.out _
                have hsz : w.heap.size ≤ wz.heap.size := HW1.out.size
                clear hwz hen
                have HN2 := HN.out
                simp at HN2
                have hol : out.length + 1 ≤ 1000000 := by omega
                clear HN2
                go_wp2_with (at_builtin; refine wpList_append_own _ rfl _ _ 33 rfl w.heap.size 9 i0 (.string ByteArray.empty) 1 16 Try.underlying33 hi hz0 hz1 hz2 rfl (by decide) _ _ _ rfl (hown.alloc _) ⟨wz.heap.size, 0, none⟩ 1 1 [.string y] rfl rfl ?c1 ?c2 ?c3 ?c4 ?c5 ?_)
                case c1 =>
                  intro j u hj
                  match j, hj with
                  | 0, hj => simp at hj; subst hj; simp [Addr.add]
                case c2 => intro u hu; simp at hu; subst hu; rfl
                case c3 => unfold maxLen; omega
                case c4 => omega
                case c5 => simp; omega
                intro v' w1 hown1 hgrow1 _
                have HO : Hid (w1.ownsRow w.heap.size 9 1 v' (out ++ [y]).length ((out ++ [y]).map .string)) := by unfold Hid; simpa using hown1
                have HW2 : Hid (Below w.heap.size w w1) := (HW1.out.alloc hsz _).grown hgrow1 (by simp; omega) (fun k hk => (hown.lt k hk).1)
                clear hown1 hgrow1
                go_wp2
                go_roundw
                case rel => exact ⟨(x :: xs), [], out ++ [y], HX.out, HRq.out, HO.out, by unfold Hid; rw [HM.out]; simp only [mMerge_xy, HXY.out, HYX.out, HKE.out]; simp, by unfold Hid; have := HN.out; simp at this ⊢; omega, HW2⟩
                case measure => simp [lenOf]; try omega
            · cases hke : keep false true
              · have HKE := Lib.hid hke
                have HK : Hid (∀ w, Calls Try.prog f #[.bool false, .bool true] w fun e w' => e = .returned (.bool false) ∧ w = w') := by unfold Hid; intro w; have := HF.out false true w; rw [hke] at this; exact this
                clear hke
                go_wp2_with fail
                go_quiet (fail)
                go_wp2_with fail
                go_quiet (fail)
                go_wp2_with fail
                go_quiet (fail)
                have hen := HEN.out #[.bool false, .bool true]
                go_wp2_with fail
                refine (HK.out _).mono ?_
                rintro e wz ⟨rfl, hwz⟩
                have hown : wz.ownsRow w.heap.size 9 1 u7 out.length (out.map .string) := by rw [← hwz]; exact hown
                have HW1 : Hid (Below w.heap.size w wz) := by rw [← hwz]; exact Below.drewN HW.out _
                have hsz : w.heap.size ≤ wz.heap.size := HW1.out.size
                clear hwz hen
                go_wp2
                go_roundw
                case rel => exact ⟨(x :: xs), ys, out, HX.out, HRq.out, hown, by unfold Hid; rw [HM.out]; simp only [mMerge_xy, HXY.out, HYX.out, HKE.out]; simp, by unfold Hid; have := HN.out; simp at this ⊢; omega, HW1⟩
                case measure => simp [lenOf]; try omega
              · have HKE := Lib.hid hke
                have HK : Hid (∀ w, Calls Try.prog f #[.bool false, .bool true] w fun e w' => e = .returned (.bool true) ∧ w = w') := by unfold Hid; intro w; have := HF.out false true w; rw [hke] at this; exact this
                clear hke
                go_wp2_with fail
                go_quiet (fail)
                go_wp2_with fail
                go_quiet (fail)
                go_wp2_with fail
                go_quiet (fail)
                have hen := HEN.out #[.bool false, .bool true]
                go_wp2_with fail
                refine (HK.out _).mono ?_
                rintro e wz ⟨rfl, hwz⟩
                have hown : wz.ownsRow w.heap.size 9 1 u7 out.length (out.map .string) := by rw [← hwz]; exact hown
                have HW1 : Hid (Below w.heap.size w wz) := by rw [← hwz]; exact Below.drewN HW.out _
                have hsz : w.heap.size ≤ wz.heap.size := HW1.out.size
                clear hwz hen
                have HN2 := HN.out
                simp at HN2
                have hol : out.length + 1 ≤ 1000000 := by omega
                clear HN2
                go_wp2_with (at_builtin; refine wpList_append_own _ rfl _ _ 33 rfl w.heap.size 9 i0 (.string ByteArray.empty) 1 16 Try.underlying33 hi hz0 hz1 hz2 rfl (by decide) _ _ _ rfl (hown.alloc _) ⟨wz.heap.size, 0, none⟩ 1 1 [.string y] rfl rfl ?c1 ?c2 ?c3 ?c4 ?c5 ?_)
                case c1 =>
                  intro j u hj
                  match j, hj with
                  | 0, hj => simp at hj; subst hj; simp [Addr.add]
                case c2 => intro u hu; simp at hu; subst hu; rfl
                case c3 => unfold maxLen; omega
                case c4 => omega
                case c5 => simp; omega
                intro v' w1 hown1 hgrow1 _
                have HO : Hid (w1.ownsRow w.heap.size 9 1 v' (out ++ [y]).length ((out ++ [y]).map .string)) := by unfold Hid; simpa using hown1
                have HW2 : Hid (Below w.heap.size w w1) := (HW1.out.alloc hsz _).grown hgrow1 (by simp; omega) (fun k hk => (hown.lt k hk).1)
                clear hown1 hgrow1
                go_wp2
                go_roundw
                case rel => exact ⟨(x :: xs), ys, out ++ [y], HX.out, HRq.out, HO.out, by unfold Hid; rw [HM.out]; simp only [mMerge_xy, HXY.out, HYX.out, HKE.out]; simp, by unfold Hid; have := HN.out; simp at this ⊢; omega, HW2⟩
                case measure => simp [lenOf]; try omega
          · have hxy : Op.bytesLess x.data.toList y.data.toList = false := by simpa using hxy
            have hyx : Op.bytesLess y.data.toList x.data.toList = false := by simpa using hyx
            obtain rfl : x = y := ByteArray.ext (Array.toList_inj.1 (less_total hxy hyx))
            have HXY := Lib.hid hxy
            have p1 : Op.bytesLess x.toList x.toList = false := by rw [ByteArray.toList_eq]; exact hxy
            clear hxy hyx
            by_cases honep : cp = 1
            · subst honep
              have hysp : xs = [] := by rw [← List.length_eq_zero_iff]; omega
              subst hysp
              clear HRp
              have HRp : Hid (StrsB w (.slice (some ⟨bp, offp, none⟩) 0 0) []) := StrsB.tail0 rfl
              by_cases honeq : cq = 1
              · subst honeq
                have hysq : ys = [] := by rw [← List.length_eq_zero_iff]; omega
                subst hysq
                clear HRq
                have HRq : Hid (StrsB w (.slice (some ⟨bq, offq, none⟩) 0 0) []) := StrsB.tail0 rfl
                cases hke : keep true true
                · have HKE := Lib.hid hke
                  have HK : Hid (∀ w, Calls Try.prog f #[.bool true, .bool true] w fun e w' => e = .returned (.bool false) ∧ w = w') := by unfold Hid; intro w; have := HF.out true true w; rw [hke] at this; exact this
                  clear hke
                  go_wp2_with fail
                  go_quiet (fail)
                  go_wp2_with fail
                  go_quiet (fail)
                  go_wp2_with fail
                  go_quiet (fail)
                  go_wp2_with fail
                  go_quiet (fail)
                  have hen := HEN.out #[.bool true, .bool true]
                  go_wp2_with fail
                  refine (HK.out _).mono ?_
                  rintro e wz ⟨rfl, hwz⟩
                  have hown : wz.ownsRow w.heap.size 9 1 u7 out.length (out.map .string) := by rw [← hwz]; exact hown
                  have HW1 : Hid (Below w.heap.size w wz) := by rw [← hwz]; exact Below.drewN HW.out _
                  have hsz : w.heap.size ≤ wz.heap.size := HW1.out.size
                  clear hwz hen
                  go_wp2
                  go_roundw
                  case rel => exact ⟨[], [], out, HRp.out, HRq.out, hown, by unfold Hid; rw [HM.out]; simp only [mMerge_xy, HXY.out, HKE.out]; simp, by unfold Hid; have := HN.out; simp at this ⊢; omega, HW1⟩
                  case measure => simp [lenOf]; try omega
                · have HKE := Lib.hid hke
                  have HK : Hid (∀ w, Calls Try.prog f #[.bool true, .bool true] w fun e w' => e = .returned (.bool true) ∧ w = w') := by unfold Hid; intro w; have := HF.out true true w; rw [hke] at this; exact this
                  clear hke
                  go_wp2_with fail
                  go_quiet (fail)
                  go_wp2_with fail
                  go_quiet (fail)
                  go_wp2_with fail
                  go_quiet (fail)
                  go_wp2_with fail
                  go_quiet (fail)
                  have hen := HEN.out #[.bool true, .bool true]
                  go_wp2_with fail
                  refine (HK.out _).mono ?_
                  rintro e wz ⟨rfl, hwz⟩
                  have hown : wz.ownsRow w.heap.size 9 1 u7 out.length (out.map .string) := by rw [← hwz]; exact hown
                  have HW1 : Hid (Below w.heap.size w wz) := by rw [← hwz]; exact Below.drewN HW.out _
                  have hsz : w.heap.size ≤ wz.heap.size := HW1.out.size
                  clear hwz hen
                  have HN2 := HN.out
                  simp at HN2
                  have hol : out.length + 1 ≤ 1000000 := by omega
                  clear HN2
                  go_wp2_with (at_builtin; refine wpList_append_own _ rfl _ _ 33 rfl w.heap.size 9 i0 (.string ByteArray.empty) 1 16 Try.underlying33 hi hz0 hz1 hz2 rfl (by decide) _ _ _ rfl (hown.alloc _) ⟨wz.heap.size, 0, none⟩ 1 1 [.string x] rfl rfl ?c1 ?c2 ?c3 ?c4 ?c5 ?_)
                  case c1 =>
                    intro j u hj
                    match j, hj with
                    | 0, hj => simp at hj; subst hj; simp [Addr.add]
                  case c2 => intro u hu; simp at hu; subst hu; rfl
                  case c3 => unfold maxLen; omega
                  case c4 => omega
                  case c5 => simp; omega
                  intro v' w1 hown1 hgrow1 _
                  have HO : Hid (w1.ownsRow w.heap.size 9 1 v' (out ++ [x]).length ((out ++ [x]).map .string)) := by unfold Hid; simpa using hown1
                  have HW2 : Hid (Below w.heap.size w w1) := (HW1.out.alloc hsz _).grown hgrow1 (by simp; omega) (fun k hk => (hown.lt k hk).1)
                  clear hown1 hgrow1
                  go_wp2
                  go_roundw
                  case rel => exact ⟨[], [], out ++ [x], HRp.out, HRq.out, HO.out, by unfold Hid; rw [HM.out]; simp only [mMerge_xy, HXY.out, HKE.out]; simp, by unfold Hid; have := HN.out; simp at this ⊢; omega, HW2⟩
                  case measure => simp [lenOf]; try omega
              · cases hke : keep true true
                · have HKE := Lib.hid hke
                  have HK : Hid (∀ w, Calls Try.prog f #[.bool true, .bool true] w fun e w' => e = .returned (.bool false) ∧ w = w') := by unfold Hid; intro w; have := HF.out true true w; rw [hke] at this; exact this
                  clear hke
                  go_wp2_with fail
                  go_quiet (fail)
                  go_wp2_with fail
                  go_quiet (fail)
                  go_wp2_with fail
                  go_quiet (fail)
                  go_wp2_with fail
                  go_quiet (fail)
                  have hen := HEN.out #[.bool true, .bool true]
                  go_wp2_with fail
                  refine (HK.out _).mono ?_
                  rintro e wz ⟨rfl, hwz⟩
                  have hown : wz.ownsRow w.heap.size 9 1 u7 out.length (out.map .string) := by rw [← hwz]; exact hown
                  have HW1 : Hid (Below w.heap.size w wz) := by rw [← hwz]; exact Below.drewN HW.out _
                  have hsz : w.heap.size ≤ wz.heap.size := HW1.out.size
                  clear hwz hen
                  go_wp2
                  go_roundw
                  case rel => exact ⟨[], ys, out, HRp.out, HRq.out, hown, by unfold Hid; rw [HM.out]; simp only [mMerge_xy, HXY.out, HKE.out]; simp, by unfold Hid; have := HN.out; simp at this ⊢; omega, HW1⟩
                  case measure => simp [lenOf]; try omega
                · have HKE := Lib.hid hke
                  have HK : Hid (∀ w, Calls Try.prog f #[.bool true, .bool true] w fun e w' => e = .returned (.bool true) ∧ w = w') := by unfold Hid; intro w; have := HF.out true true w; rw [hke] at this; exact this
                  clear hke
                  go_wp2_with fail
                  go_quiet (fail)
                  go_wp2_with fail
                  go_quiet (fail)
                  go_wp2_with fail
                  go_quiet (fail)
                  go_wp2_with fail
                  go_quiet (fail)
                  have hen := HEN.out #[.bool true, .bool true]
                  go_wp2_with fail
                  refine (HK.out _).mono ?_
                  rintro e wz ⟨rfl, hwz⟩
                  have hown : wz.ownsRow w.heap.size 9 1 u7 out.length (out.map .string) := by rw [← hwz]; exact hown
                  have HW1 : Hid (Below w.heap.size w wz) := by rw [← hwz]; exact Below.drewN HW.out _
                  have hsz : w.heap.size ≤ wz.heap.size := HW1.out.size
                  clear hwz hen
                  have HN2 := HN.out
                  simp at HN2
                  have hol : out.length + 1 ≤ 1000000 := by omega
                  clear HN2
                  go_wp2_with (at_builtin; refine wpList_append_own _ rfl _ _ 33 rfl w.heap.size 9 i0 (.string ByteArray.empty) 1 16 Try.underlying33 hi hz0 hz1 hz2 rfl (by decide) _ _ _ rfl (hown.alloc _) ⟨wz.heap.size, 0, none⟩ 1 1 [.string x] rfl rfl ?c1 ?c2 ?c3 ?c4 ?c5 ?_)
                  case c1 =>
                    intro j u hj
                    match j, hj with
                    | 0, hj => simp at hj; subst hj; simp [Addr.add]
                  case c2 => intro u hu; simp at hu; subst hu; rfl
                  case c3 => unfold maxLen; omega
                  case c4 => omega
                  case c5 => simp; omega
                  intro v' w1 hown1 hgrow1 _
                  have HO : Hid (w1.ownsRow w.heap.size 9 1 v' (out ++ [x]).length ((out ++ [x]).map .string)) := by unfold Hid; simpa using hown1
                  have HW2 : Hid (Below w.heap.size w w1) := (HW1.out.alloc hsz _).grown hgrow1 (by simp; omega) (fun k hk => (hown.lt k hk).1)
                  clear hown1 hgrow1
                  go_wp2
                  go_roundw
                  case rel => exact ⟨[], ys, out ++ [x], HRp.out, HRq.out, HO.out, by unfold Hid; rw [HM.out]; simp only [mMerge_xy, HXY.out, HKE.out]; simp, by unfold Hid; have := HN.out; simp at this ⊢; omega, HW2⟩
                  case measure => simp [lenOf]; try omega
            · by_cases honeq : cq = 1
              · subst honeq
                have hysq : ys = [] := by rw [← List.length_eq_zero_iff]; omega
                subst hysq
                clear HRq
                have HRq : Hid (StrsB w (.slice (some ⟨bq, offq, none⟩) 0 0) []) := StrsB.tail0 rfl
                cases hke : keep true true
                · have HKE := Lib.hid hke
                  have HK : Hid (∀ w, Calls Try.prog f #[.bool true, .bool true] w fun e w' => e = .returned (.bool false) ∧ w = w') := by unfold Hid; intro w; have := HF.out true true w; rw [hke] at this; exact this
                  clear hke
                  go_wp2_with fail
                  go_quiet (fail)
                  go_wp2_with fail
                  go_quiet (fail)
                  go_wp2_with fail
                  go_quiet (fail)
                  go_wp2_with fail
                  go_quiet (fail)
                  have hen := HEN.out #[.bool true, .bool true]
                  go_wp2_with fail
                  refine (HK.out _).mono ?_
                  rintro e wz ⟨rfl, hwz⟩
                  have hown : wz.ownsRow w.heap.size 9 1 u7 out.length (out.map .string) := by rw [← hwz]; exact hown
                  have HW1 : Hid (Below w.heap.size w wz) := by rw [← hwz]; exact Below.drewN HW.out _
                  have hsz : w.heap.size ≤ wz.heap.size := HW1.out.size
                  clear hwz hen
                  go_wp2
                  go_roundw
                  case rel => exact ⟨xs, [], out, HRp.out, HRq.out, hown, by unfold Hid; rw [HM.out]; simp only [mMerge_xy, HXY.out, HKE.out]; simp, by unfold Hid; have := HN.out; simp at this ⊢; omega, HW1⟩
                  case measure => simp [lenOf]; try omega
                · have HKE := Lib.hid hke
                  have HK : Hid (∀ w, Calls Try.prog f #[.bool true, .bool true] w fun e w' => e = .returned (.bool true) ∧ w = w') := by unfold Hid; intro w; have := HF.out true true w; rw [hke] at this; exact this
                  clear hke
                  go_wp2_with fail
                  go_quiet (fail)
                  go_wp2_with fail
                  go_quiet (fail)
                  go_wp2_with fail
                  go_quiet (fail)
                  go_wp2_with fail
                  go_quiet (fail)
                  have hen := HEN.out #[.bool true, .bool true]
                  go_wp2_with fail
                  refine (HK.out _).mono ?_
                  rintro e wz ⟨rfl, hwz⟩
                  have hown : wz.ownsRow w.heap.size 9 1 u7 out.length (out.map .string) := by rw [← hwz]; exact hown
                  have HW1 : Hid (Below w.heap.size w wz) := by rw [← hwz]; exact Below.drewN HW.out _
                  have hsz : w.heap.size ≤ wz.heap.size := HW1.out.size
                  clear hwz hen
                  have HN2 := HN.out
                  simp at HN2
                  have hol : out.length + 1 ≤ 1000000 := by omega
                  clear HN2
                  go_wp2_with (at_builtin; refine wpList_append_own _ rfl _ _ 33 rfl w.heap.size 9 i0 (.string ByteArray.empty) 1 16 Try.underlying33 hi hz0 hz1 hz2 rfl (by decide) _ _ _ rfl (hown.alloc _) ⟨wz.heap.size, 0, none⟩ 1 1 [.string x] rfl rfl ?c1 ?c2 ?c3 ?c4 ?c5 ?_)
                  case c1 =>
                    intro j u hj
                    match j, hj with
                    | 0, hj => simp at hj; subst hj; simp [Addr.add]
                  case c2 => intro u hu; simp at hu; subst hu; rfl
                  case c3 => unfold maxLen; omega
                  case c4 => omega
                  case c5 => simp; omega
                  intro v' w1 hown1 hgrow1 _
                  have HO : Hid (w1.ownsRow w.heap.size 9 1 v' (out ++ [x]).length ((out ++ [x]).map .string)) := by unfold Hid; simpa using hown1
                  have HW2 : Hid (Below w.heap.size w w1) := (HW1.out.alloc hsz _).grown hgrow1 (by simp; omega) (fun k hk => (hown.lt k hk).1)
                  clear hown1 hgrow1
                  go_wp2
                  go_roundw
                  case rel => exact ⟨xs, [], out ++ [x], HRp.out, HRq.out, HO.out, by unfold Hid; rw [HM.out]; simp only [mMerge_xy, HXY.out, HKE.out]; simp, by unfold Hid; have := HN.out; simp at this ⊢; omega, HW2⟩
                  case measure => simp [lenOf]; try omega
              · cases hke : keep true true
                · have HKE := Lib.hid hke
                  have HK : Hid (∀ w, Calls Try.prog f #[.bool true, .bool true] w fun e w' => e = .returned (.bool false) ∧ w = w') := by unfold Hid; intro w; have := HF.out true true w; rw [hke] at this; exact this
                  clear hke
                  go_wp2_with fail
                  go_quiet (fail)
                  go_wp2_with fail
                  go_quiet (fail)
                  go_wp2_with fail
                  go_quiet (fail)
                  go_wp2_with fail
                  go_quiet (fail)
                  have hen := HEN.out #[.bool true, .bool true]
                  go_wp2_with fail
                  refine (HK.out _).mono ?_
                  rintro e wz ⟨rfl, hwz⟩
                  have hown : wz.ownsRow w.heap.size 9 1 u7 out.length (out.map .string) := by rw [← hwz]; exact hown
                  have HW1 : Hid (Below w.heap.size w wz) := by rw [← hwz]; exact Below.drewN HW.out _
                  have hsz : w.heap.size ≤ wz.heap.size := HW1.out.size
                  clear hwz hen
                  go_wp2
                  go_roundw
                  case rel => exact ⟨xs, ys, out, HRp.out, HRq.out, hown, by unfold Hid; rw [HM.out]; simp only [mMerge_xy, HXY.out, HKE.out]; simp, by unfold Hid; have := HN.out; simp at this ⊢; omega, HW1⟩
                  case measure => simp [lenOf]; try omega
                · have HKE := Lib.hid hke
                  have HK : Hid (∀ w, Calls Try.prog f #[.bool true, .bool true] w fun e w' => e = .returned (.bool true) ∧ w = w') := by unfold Hid; intro w; have := HF.out true true w; rw [hke] at this; exact this
                  clear hke
                  go_wp2_with fail
                  go_quiet (fail)
                  go_wp2_with fail
                  go_quiet (fail)
                  go_wp2_with fail
                  go_quiet (fail)
                  go_wp2_with fail
                  go_quiet (fail)
                  have hen := HEN.out #[.bool true, .bool true]
                  go_wp2_with fail
                  refine (HK.out _).mono ?_
                  rintro e wz ⟨rfl, hwz⟩
                  have hown : wz.ownsRow w.heap.size 9 1 u7 out.length (out.map .string) := by rw [← hwz]; exact hown
                  have HW1 : Hid (Below w.heap.size w wz) := by rw [← hwz]; exact Below.drewN HW.out _
                  have hsz : w.heap.size ≤ wz.heap.size := HW1.out.size
                  clear hwz hen
                  have HN2 := HN.out
                  simp at HN2
                  have hol : out.length + 1 ≤ 1000000 := by omega
                  clear HN2
                  go_wp2_with (at_builtin; refine wpList_append_own _ rfl _ _ 33 rfl w.heap.size 9 i0 (.string ByteArray.empty) 1 16 Try.underlying33 hi hz0 hz1 hz2 rfl (by decide) _ _ _ rfl (hown.alloc _) ⟨wz.heap.size, 0, none⟩ 1 1 [.string x] rfl rfl ?c1 ?c2 ?c3 ?c4 ?c5 ?_)
                  case c1 =>
                    intro j u hj
                    match j, hj with
                    | 0, hj => simp at hj; subst hj; simp [Addr.add]
                  case c2 => intro u hu; simp at hu; subst hu; rfl
                  case c3 => unfold maxLen; omega
                  case c4 => omega
                  case c5 => simp; omega
                  intro v' w1 hown1 hgrow1 _
                  have HO : Hid (w1.ownsRow w.heap.size 9 1 v' (out ++ [x]).length ((out ++ [x]).map .string)) := by unfold Hid; simpa using hown1
                  have HW2 : Hid (Below w.heap.size w w1) := (HW1.out.alloc hsz _).grown hgrow1 (by simp; omega) (fun k hk => (hown.lt k hk).1)
                  clear hown1 hgrow1
                  go_wp2
                  go_roundw
                  case rel => exact ⟨xs, ys, out ++ [x], HRp.out, HRq.out, HO.out, by unfold Hid; rw [HM.out]; simp only [mMerge_xy, HXY.out, HKE.out]; simp, by unfold Hid; have := HN.out; simp at this ⊢; omega, HW2⟩
                  case measure => simp [lenOf]; try omega
end Go.Proofs.Ytjbnkheghafgoaa
