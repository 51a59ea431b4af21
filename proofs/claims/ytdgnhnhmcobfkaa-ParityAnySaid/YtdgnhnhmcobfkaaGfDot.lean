/- Sums of products, the chapter's example: walks. -/
import Derived.Test.YtdgnhnhmcobfkaaGfDiv
import Derived.Deep.RegionHeld3
namespace Go.Proofs.Ytdgnhnhmcobfkaa
open Go.RowKit
set_option linter.unusedVariables false
theorem drewN_hid {w wr : World} (h : Hid (∃ m, wr = w.drewN m)) (n : Nat) : Hid (∃ m, wr.drewN n = w.drewN m) := by
  obtain ⟨m, rfl⟩ := h.out
  exact ⟨m + n, World.drewN_drewN ..⟩
set_option maxRecDepth 20000 in
set_option maxHeartbeats 1000000 in
theorem dot_any (a b : ByteArray) (ha : a.size ≤ 140737488351232) (hb : b.size ≤ 140737488351232) (w : World) :
    Calls Try.prog 17 #[.string a, .string b] w fun e w' => e = .returned (.int .u8 (gDot a.data.toList b.data.toList : Nat)) ∧ ∃ m, w' = w.drewN m := by
  have H0 : GDotAt a b 0 0 := by simp [GDotAt, gDot]
  go_enter Try.func17, Try.ntmps17
  go_wp2
  · go_loopw [5, 12] (fun s i wr => ∃ (s' k : Nat), s = .int .u8 (s' : Int) ∧ i = .int .i64 (k : Int) ∧ s' < 256 ∧ k ≤ b.size ∧ GDotAt a b k s' ∧ Hid (∃ m, wr = w.drewN m)) (fun _ i _ => b.size - (intOf i).toNat)
    case atStart => exact ⟨0, 0, rfl, rfl, by decide, by omega, H0, ⟨0, rfl⟩⟩
    case round =>
      obtain ⟨s, k, rfl, rfl, hs, hk, HG, HW⟩ := hrel
      by_cases hkn : k < b.size
      · have hka : k < a.size := by omega
        have hkb : k < b.size := by omega
        have HN := HG.step hka hkb
        have hm := gMul_lt b[k].toNat a[k].toNat_lt
        have HM := fun w => mul_any a[k].toNat b[k].toNat a[k].toNat_lt b[k].toNat_lt w
        generalize gMul a[k].toNat b[k].toNat = v at *
        have hx := x8n s v hs hm
        have hxl := xlt hs hm
        generalize s ^^^ v = q at *
        have HM := Lib.hid HM
        clear HG H0
        go_wp2_with fail
        go_quiet ((go_at_call 10; exact quiet_same (HM.out _)))
        go_wp2
        go_roundw
        case rel => exact ⟨q, k + 1, rfl, by go_num, hxl, by omega, HN, drewN_hid HW _⟩
        case measure => simp [intOf]; omega
      · have hkk : k = b.size := by omega
        subst hkk
        have hv := HG.done (.inr (Nat.le_refl _))
        clear HG H0
        go_wp2
        go_ret
        exact ⟨ret_int (by rw [hv]), HW.out⟩
  · go_loopw [5, 12] (fun s i wr => ∃ (s' k : Nat), s = .int .u8 (s' : Int) ∧ i = .int .i64 (k : Int) ∧ s' < 256 ∧ k ≤ a.size ∧ GDotAt a b k s' ∧ Hid (∃ m, wr = w.drewN m)) (fun _ i _ => a.size - (intOf i).toNat)
    case atStart => exact ⟨0, 0, rfl, rfl, by decide, by omega, H0, ⟨0, rfl⟩⟩
    case round =>
      obtain ⟨s, k, rfl, rfl, hs, hk, HG, HW⟩ := hrel
      by_cases hkn : k < a.size
      · have hka : k < a.size := by omega
        have hkb : k < b.size := by omega
        have HN := HG.step hka hkb
        have hm := gMul_lt b[k].toNat a[k].toNat_lt
        have HM := fun w => mul_any a[k].toNat b[k].toNat a[k].toNat_lt b[k].toNat_lt w
        generalize gMul a[k].toNat b[k].toNat = v at *
        have hx := x8n s v hs hm
        have hxl := xlt hs hm
        generalize s ^^^ v = q at *
        have HM := Lib.hid HM
        clear HG H0
        go_wp2_with fail
        go_quiet ((go_at_call 10; exact quiet_same (HM.out _)))
        go_wp2
        go_roundw
        case rel => exact ⟨q, k + 1, rfl, by go_num, hxl, by omega, HN, drewN_hid HW _⟩
        case measure => simp [intOf]; omega
      · have hkk : k = a.size := by omega
        subst hkk
        have hv := HG.done (.inl (Nat.le_refl _))
        clear HG H0
        go_wp2
        go_ret
        exact ⟨ret_int (by rw [hv]), HW.out⟩
set_option maxRecDepth 20000 in
set_option maxHeartbeats 1000000 in
theorem refDot_any (a b : ByteArray) (ha : a.size ≤ 140737488351232) (hb : b.size ≤ 140737488351232) (w : World) :
    Calls Try.prog 18 #[.string a, .string b] w fun e w' => e = .returned (.int .u8 (gDot a.data.toList b.data.toList : Nat)) ∧ ∃ m, w' = w.drewN m := by
  have H0 : GDotAt a b 0 0 := by simp [GDotAt, gDot]
  go_enter Try.func18, Try.ntmps18
  go_wp2
  go_loopw [5, 6] (fun s i wr => ∃ (s' k : Nat), s = .int .u8 (s' : Int) ∧ i = .int .i64 (k : Int) ∧ s' < 256 ∧ k ≤ a.size ∧ GDotAt a b k s' ∧ Hid (∃ m, wr = w.drewN m)) (fun _ i _ => a.size - (intOf i).toNat)
  case atStart => exact ⟨0, 0, rfl, rfl, by decide, by omega, H0, ⟨0, rfl⟩⟩
  case round =>
    obtain ⟨s, k, rfl, rfl, hs, hk, HG, HW⟩ := hrel
    by_cases hka : k < a.size
    · by_cases hkb : k < b.size
      · have HN := HG.step hka hkb
        have hm := gMul_lt b[k].toNat a[k].toNat_lt
        have HM := fun w => refMul_any a[k].toNat b[k].toNat a[k].toNat_lt b[k].toNat_lt w
        generalize gMul a[k].toNat b[k].toNat = v at *
        have hx := x8n s v hs hm
        have hxl := xlt hs hm
        generalize s ^^^ v = q at *
        have HM := Lib.hid HM
        clear HG H0
        go_wp2_with fail
        go_quiet ((go_at_call 15; exact quiet_same (HM.out _)))
        go_wp2
        go_roundw
        case rel => exact ⟨q, k + 1, rfl, by go_num, hxl, by omega, HN, drewN_hid HW _⟩
        case measure => simp [intOf]; omega
      · have hv := HG.done (.inr (by omega))
        clear HG H0
        go_wp2
        go_ret
        exact ⟨ret_int (by rw [hv]), HW.out⟩
    · have hv := HG.done (.inl (by omega))
      clear HG H0
      go_wp2
      go_ret
      exact ⟨ret_int (by rw [hv]), HW.out⟩
set_option maxRecDepth 20000 in
set_option maxHeartbeats 1000000 in
theorem gfAwake_any (w : World) : Calls Try.prog 13 #[] w fun e w' => e = .returned (.bool true) ∧ w = w' := by
  have h1 := fun w => div_any 1 2 (by decide) (by decide) w
  have h2 := fun w => mul_any 2 128 (by decide) (by decide) w
  have h3 := fun w => pow_any 2 255 (by decide) (by decide) w
  rw [show gDiv 1 2 = 142 by
    have : ∀ x < 256, gMul x 2 = 1 → x = 142 := by decide +kernel
    exact this _ (gDiv_lt 2 (by decide)) (gDiv_back (by decide) (by decide) (by decide))] at h1
  rw [show gMul 2 128 = 29 by decide +kernel] at h2
  rw [show gPowZ 2 255 = 1 from rfl] at h3
  have H1 := Lib.hid h1; clear h1
  have H2 := Lib.hid h2; clear h2
  have H3 := Lib.hid h3; clear h3
  go_enter Try.func13, Try.ntmps13
  go_wp2_with fail
  refine (H1.out _).mono ?_
  rintro e w' ⟨rfl, rfl⟩
  go_wp2_with fail
  refine (H2.out _).mono ?_
  rintro e w' ⟨rfl, rfl⟩
  go_wp2_with fail
  refine (H3.out _).mono ?_
  rintro e w' ⟨rfl, rfl⟩
  go_wp2
  go_ret
  exact ⟨rfl, rfl⟩
end Go.Proofs.Ytdgnhnhmcobfkaa
