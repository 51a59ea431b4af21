/- The statements of chapter 3 (frame): awake, FrameDoes. -/
import Derived.Test.YtbamekfebfcleaaFrameSame
namespace Go.Proofs.Ytbamekfebfcleaa
open Go.RowKit
set_option linter.unusedVariables false
theorem fPairs_nil : fPairs [] = [] := rfl
theorem fWrap_a : fWrap [97] = [1, 97, 196, 255, 110, 113] := by decide +kernel
set_option maxHeartbeats 400000 in
theorem frameAwake_any (w : World) : Calls Try.prog 38 #[] w fun e w' => e = .returned (.bool true) ∧ Below w.heap.size w w' := by
  have h1 := fun w => wrap_any ⟨#[97]⟩ (by decide) w
  have h2 := fun w => scan_any ⟨#[]⟩ (by decide) w
  rw [show fWrap (ByteArray.mk #[97]).data.toList = [1, 97, 196, 255, 110, 113] from fWrap_a] at h1
  rw [show fPairs (ByteArray.mk #[]).data.toList = [] from rfl] at h2
  have hx : (({ data := #[1, 97, 196, 255, 110, 113] } : ByteArray).extract 0 2).toList = [1, 97] := by decide +kernel
  simp only [show fEnd [] = 0 from rfl] at h2
  have H1 := Lib.hid h1; clear h1
  have H2 := Lib.hid h2; clear h2
  go_enter Try.func38, Try.ntmps38
  go_wp2_with fail
  refine (H1.out _).mono ?_
  rintro e w1 ⟨rfl, b1⟩
  go_wp2_with fail
  refine (H2.out _).mono ?_
  rintro e w2 ⟨v, rfl, hown, b2⟩
  obtain ⟨A, c, rfl⟩ : ∃ A c, v = .slice A 0 c := by
    rcases hown.2 with ⟨rfl, _⟩ | ⟨g, cap, _, rfl, _⟩
    · exact ⟨_, _, rfl⟩
    · exact ⟨_, _, rfl⟩
  have HB := Lib.hid (b1.trans (b2.mono b1.size))
  clear hown b1 b2
  go_wp2
  go_ret
  exact ⟨rfl, HB.out⟩
set_option maxHeartbeats 1000000 in
theorem frameDoes_ok (W : World) (x0 : ByteArray) (w0 : x0.size ≤ 140737488351232) (x1 : ByteArray) (w1 : x1.size ≤ 140737488351232) :
    Calls Try.prog 14 #[.string x0, .string x1] W fun e w' => e = .returned (.bool true) ∧ Below W.heap.size W w' := by
  by_cases c0 : 70000 < x0.size
  · go_enter Try.func14, Try.ntmps14
    go_wp2_with fail
    refine (frameAwake_any _).mono ?_
    rintro e w1 ⟨rfl, b1⟩
    go_wp2
    go_ret
    exact ⟨rfl, b1⟩
  by_cases c1 : 5000 < x1.size
  · go_enter Try.func14, Try.ntmps14
    go_wp2_with fail
    refine (frameAwake_any _).mono ?_
    rintro e w1 ⟨rfl, b1⟩
    go_wp2
    go_ret
    exact ⟨rfl, b1⟩
  have a1 := fun w => open_any x1 w1 w
  have a2 := fun w => refOpen_any x1 w1 w
  have a3 := fun w => scan_any x1 (by omega) w
  have a4 := fun w => refScan_any x1 (by omega) w
  have a5 := fun w => wrap_any x0 w0 w
  have a6 := fun w => refWrap_any x0 w0 w
  generalize fOpen x1.data.toList = r at *
  obtain ⟨t, n, e⟩ := r
  dsimp only at *
  have hlen : (fTexts (fPairs x1.data.toList)).length = (fPairs x1.data.toList).length := by simp [fTexts]
  generalize fEnd (fPairs x1.data.toList) = z at *
  rw [← hlen] at a3 a4
  generalize fTexts (fPairs x1.data.toList) = l at *
  generalize (⟨(fWrap x0.data.toList).toArray⟩ : ByteArray) = S at *
  clear hlen
  have A1 := Lib.hid a1; clear a1
  have A2 := Lib.hid a2; clear a2
  have A3 := Lib.hid a3; clear a3
  have A4 := Lib.hid a4; clear a4
  have A5 := Lib.hid a5; clear a5
  have A6 := Lib.hid a6; clear a6
  go_enter Try.func14, Try.ntmps14
  go_wp2_with fail
  refine (A1.out _).mono ?_
  rintro e w1 ⟨rfl, b1⟩
  go_wp2_with fail
  refine (A2.out _).mono ?_
  rintro e w2 ⟨rfl, b2⟩
  go_wp2_with fail
  refine (A3.out _).mono ?_
  rintro e w3 ⟨v3, rfl, hown3, b3⟩
  have HS3 := Lib.hid (StrsB.of_owns hown3); clear hown3
  go_wp2_with fail
  refine (A4.out _).mono ?_
  rintro e w4 ⟨v4, rfl, hown4, b4⟩
  have HS4 := Lib.hid (StrsB.of_owns hown4); clear hown4
  have HB4 := Lib.hid (below_then (below_then (below_then b1 b2) b3) b4)
  have HS3 := Lib.hid (HS3.out.below b4 (Nat.le_refl _))
  clear b1 b2 b3 b4
  go_wp2_with fail
  refine (A5.out _).mono ?_
  rintro e w5 ⟨rfl, b5⟩
  go_wp2_with fail
  refine (A6.out _).mono ?_
  rintro e w6 ⟨rfl, b6⟩
  have HB6 := Lib.hid (below_then (below_then HB4.out b5) b6)
  have HS3 := Lib.hid ((HS3.out.below b5 (Nat.le_refl _)).below b6 (Nat.le_refl _))
  have HS4 := Lib.hid ((HS4.out.below b5 (Nat.le_refl _)).below b6 (Nat.le_refl _))
  clear b5 b6
  go_wp2_with fail
  refine (same_any _ _ _ l l HS3.out HS4.out).mono ?_
  rintro e w7 ⟨rfl, nq, rfl⟩
  rw [sameB_self]
  go_wp2_with fail
  refine (frameAwake_any _).mono ?_
  rintro e w8 ⟨rfl, b8⟩
  go_wp2
  go_ret
  exact ⟨rfl, below_then (Below.drewN HB6.out _) b8⟩
end Go.Proofs.Ytbamekfebfcleaa
