/- The statements of chapter 1 (varint), as walks of the laws over the contracts of their callees. -/
import Derived.Test.YtbamekfebfcleaaVarintLaws
import Derived.Test.YtbamekfebfcleaaVarintZig
import Derived.Test.YtbamekfebfcleaaArgs
namespace Go.Proofs.Ytbamekfebfcleaa
open Go.RowKit
set_option linter.unusedVariables false
theorem beq_data (a : ByteArray) (l : List UInt8) : (⟨l.toArray⟩ : ByteArray).data.toList = l := rfl
set_option maxHeartbeats 400000 in
theorem varAwake_any (w : World) : Calls Try.prog 29 #[] w fun e w' => e = .returned (.bool true) ∧ Below w.heap.size w w' := by
  have h1 := fun w => take_any ⟨#[128, 0]⟩ (by decide) w
  have h2 := fun w => put_any 300 (by decide) w
  have h3 := fun w => zig_any (-1) (by decide) w
  have h4 := fun w => zig_any 1 (by decide) w
  have h5 := fun w => putText_any ⟨#[97, 98]⟩ (by decide) w
  rw [show vTake (ByteArray.mk #[128, 0]).data.toList = (0, 0, 2) by decide +kernel] at h1
  rw [show vPut 300 = [172, 2] by decide +kernel] at h2
  rw [show zig (-1) = 1 by decide +kernel] at h3
  rw [show zig 1 = 2 by decide +kernel] at h4
  rw [show vPutText (ByteArray.mk #[97, 98]).data.toList = [2, 97, 98] by decide +kernel] at h5
  have H1 := Lib.hid h1; clear h1
  have H2 := Lib.hid h2; clear h2
  have H3 := Lib.hid h3; clear h3
  have H4 := Lib.hid h4; clear h4
  have H5 := Lib.hid h5; clear h5
  go_enter Try.func29, Try.ntmps29
  go_wp2_with fail
  refine (H1.out _).mono ?_
  rintro e w1 ⟨rfl, b1⟩
  go_wp2_with fail
  refine (H2.out _).mono ?_
  rintro e w2 ⟨rfl, b2⟩
  go_wp2_with fail
  refine (H3.out _).mono ?_
  rintro e w' ⟨rfl, rfl⟩
  go_wp2_with fail
  refine (H4.out _).mono ?_
  rintro e w' ⟨rfl, rfl⟩
  go_wp2_with fail
  refine (H5.out _).mono ?_
  rintro e w3 ⟨rfl, b3⟩
  go_wp2_with fail
  go_ret
  exact ⟨rfl, b1.trans ((b2.mono b1.size).trans (b3.mono (Nat.le_trans b1.size b2.size)))⟩
set_option maxHeartbeats 400000 in
theorem varintSigns_ok (W : World) (x0 : Int) (w0 : -9223372036854775808 ≤ x0 ∧ x0 ≤ 9223372036854775807) (x1 : UInt64) :
    Calls Try.prog 10 #[.int .i64 x0, .int .u64 x1.toNat] W fun e w' => e = .returned (.bool true) ∧ Below W.heap.size W w' := by
  have hx1 := x1.toNat_lt
  generalize x1.toNat = m at *
  have a1 := zig_any x0 w0
  have a2 := zag_any m hx1
  have a3 := refZig_any x0 w0
  have a4 := refZag_any m hx1
  have a5 := zag_any (zig x0) (zig_lt x0 w0)
  have a6 := zig_any (zag m) (zag_bd m hx1)
  rw [zag_zig] at a5
  rw [zig_zag] at a6
  have a7 := put_any (zig x0) (zig_lt x0 w0)
  have hs : -64 ≤ x0 → x0 ≤ 63 → (vPut (zig x0)).length = 1 := fun h1 h2 => by
    rw [vPut_small _ (by unfold zig; split <;> omega)]; rfl
  have hp := vPut_pos (zig x0)
  have hp2 := vPut_len10 (zig x0) (zig_lt x0 w0)
  generalize zig x0 = z at *
  generalize zag m = y at *
  have sz : (ByteArray.mk (vPut z).toArray).size = (vPut z).length := rfl
  generalize vPut z = l at *
  have A1 := Lib.hid a1; clear a1
  have A2 := Lib.hid a2; clear a2
  have A3 := Lib.hid a3; clear a3
  have A4 := Lib.hid a4; clear a4
  have A5 := Lib.hid a5; clear a5
  have A6 := Lib.hid a6; clear a6
  have A7 := Lib.hid a7; clear a7
  by_cases c1 : x0 < -64
  · clear hs
    go_enter Try.func10, Try.ntmps10
    go_wp2_with fail
    refine (A1.out _).mono ?_
    rintro e w' ⟨rfl, rfl⟩
    go_wp2_with fail
    refine (A2.out _).mono ?_
    rintro e w' ⟨rfl, rfl⟩
    go_wp2_with fail
    refine (A3.out _).mono ?_
    rintro e w' ⟨rfl, rfl⟩
    go_wp2_with fail
    refine (A4.out _).mono ?_
    rintro e w' ⟨rfl, rfl⟩
    go_wp2_with fail
    refine (A5.out _).mono ?_
    rintro e w' ⟨rfl, rfl⟩
    go_wp2_with fail
    refine (A6.out _).mono ?_
    rintro e w' ⟨rfl, rfl⟩
    go_wp2_with fail
    refine (varAwake_any _).mono ?_
    rintro e w1 ⟨rfl, b1⟩
    go_wp2_with fail
    go_ret
    exact ⟨rfl, b1⟩
  by_cases c2 : 63 < x0
  · clear hs
    go_enter Try.func10, Try.ntmps10
    go_wp2_with fail
    refine (A1.out _).mono ?_
    rintro e w' ⟨rfl, rfl⟩
    go_wp2_with fail
    refine (A2.out _).mono ?_
    rintro e w' ⟨rfl, rfl⟩
    go_wp2_with fail
    refine (A3.out _).mono ?_
    rintro e w' ⟨rfl, rfl⟩
    go_wp2_with fail
    refine (A4.out _).mono ?_
    rintro e w' ⟨rfl, rfl⟩
    go_wp2_with fail
    refine (A5.out _).mono ?_
    rintro e w' ⟨rfl, rfl⟩
    go_wp2_with fail
    refine (A6.out _).mono ?_
    rintro e w' ⟨rfl, rfl⟩
    go_wp2_with fail
    refine (varAwake_any _).mono ?_
    rintro e w1 ⟨rfl, b1⟩
    go_wp2_with fail
    go_ret
    exact ⟨rfl, b1⟩
  have hs := hs (by omega) (by omega)
  rw [hs] at sz
  clear hp hp2
  go_enter Try.func10, Try.ntmps10
  go_wp2_with fail
  refine (A1.out _).mono ?_
  rintro e w' ⟨rfl, rfl⟩
  go_wp2_with fail
  refine (A2.out _).mono ?_
  rintro e w' ⟨rfl, rfl⟩
  go_wp2_with fail
  refine (A3.out _).mono ?_
  rintro e w' ⟨rfl, rfl⟩
  go_wp2_with fail
  refine (A4.out _).mono ?_
  rintro e w' ⟨rfl, rfl⟩
  go_wp2_with fail
  refine (A5.out _).mono ?_
  rintro e w' ⟨rfl, rfl⟩
  go_wp2_with fail
  refine (A6.out _).mono ?_
  rintro e w' ⟨rfl, rfl⟩
  go_wp2_with fail
  refine (A7.out _).mono ?_
  rintro e w2 ⟨rfl, b2⟩
  go_wp2_with fail
  refine (varAwake_any _).mono ?_
  rintro e w1 ⟨rfl, b1⟩
  go_wp2_with fail
  go_ret
  exact ⟨rfl, b2.trans (b1.mono b2.size)⟩
set_option maxHeartbeats 400000 in
theorem varintTells_ok (W : World) (x0 : UInt64) (x1 : ByteArray) (w1 : x1.size ≤ 140737488351232) :
    Calls Try.prog 8 #[.int .u64 x0.toNat, .string x1] W fun e w' => e = .returned (.bool true) ∧ Below W.heap.size W w' := by
  have hx0 := x0.toNat_lt
  generalize x0.toNat = n at *
  have m1 : x1.size ≤ maxLen := by unfold maxLen; omega
  have a1 := take_any x1 m1
  have a2 := refTake_any x1 m1
  have a3 := put_any n hx0
  have a4 := refPut_any n hx0
  generalize vTake x1.data.toList = t at *
  generalize vPut n = l at *
  obtain ⟨p, q, r⟩ := t
  dsimp only at a1 a2
  have A1 := Lib.hid a1; clear a1
  have A2 := Lib.hid a2; clear a2
  have A3 := Lib.hid a3; clear a3
  have A4 := Lib.hid a4; clear a4
  go_enter Try.func8, Try.ntmps8
  go_wp2_with fail
  refine (A1.out _).mono ?_
  rintro e w1 ⟨rfl, b1⟩
  go_wp2_with fail
  refine (A2.out _).mono ?_
  rintro e w' ⟨rfl, rfl⟩
  go_wp2_with fail
  refine (A3.out _).mono ?_
  rintro e w2 ⟨rfl, b2⟩
  go_wp2_with fail
  refine (A4.out _).mono ?_
  rintro e w3 ⟨rfl, b3⟩
  go_wp2_with fail
  refine (varAwake_any _).mono ?_
  rintro e w4 ⟨rfl, b4⟩
  go_wp2_with fail
  go_ret
  exact ⟨rfl, b1.trans ((b2.mono b1.size).trans ((b3.mono (Nat.le_trans b1.size b2.size)).trans (b4.mono (Nat.le_trans b1.size (Nat.le_trans b2.size b3.size)))))⟩
set_option maxHeartbeats 400000 in
theorem varintTexts_ok (W : World) (x0 : ByteArray) (w0 : x0.size ≤ 140737488351232) (x1 : ByteArray) (w1 : x1.size ≤ 140737488351232) :
    Calls Try.prog 11 #[.string x0, .string x1] W fun e w' => e = .returned (.bool true) ∧ Below W.heap.size W w' := by
  by_cases c0 : 70000 < x0.size
  · go_enter Try.func11, Try.ntmps11
    go_wp2_with fail
    refine (varAwake_any _).mono ?_
    rintro e w1 ⟨rfl, b1⟩
    go_wp2_with fail
    go_ret
    exact ⟨rfl, b1⟩
  by_cases c1 : 70000 < x1.size
  · go_enter Try.func11, Try.ntmps11
    go_wp2_with fail
    refine (varAwake_any _).mono ?_
    rintro e w1 ⟨rfl, b1⟩
    go_wp2_with fail
    go_ret
    exact ⟨rfl, b1⟩
  have a1 := takeText_any x1 w1
  have a2 := refTakeText_any x1 w1
  have a3 := putText_any x0 w0
  have a4 := refPutText_any x0 w0
  generalize vTakeText x1.data.toList = t at *
  generalize vPutText x0.data.toList = l at *
  obtain ⟨p, q, r⟩ := t
  dsimp only at a1 a2
  have A1 := Lib.hid a1; clear a1
  have A2 := Lib.hid a2; clear a2
  have A3 := Lib.hid a3; clear a3
  have A4 := Lib.hid a4; clear a4
  go_enter Try.func11, Try.ntmps11
  go_wp2_with fail
  refine (A1.out _).mono ?_
  rintro e w1 ⟨rfl, b1⟩
  go_wp2_with fail
  refine (A2.out _).mono ?_
  rintro e w' ⟨rfl, rfl⟩
  go_wp2_with fail
  refine (A3.out _).mono ?_
  rintro e w2 ⟨rfl, b2⟩
  go_wp2_with fail
  refine (A4.out _).mono ?_
  rintro e w3 ⟨rfl, b3⟩
  go_wp2_with fail
  refine (varAwake_any _).mono ?_
  rintro e w4 ⟨rfl, b4⟩
  go_wp2_with fail
  go_ret
  exact ⟨rfl, b1.trans ((b2.mono b1.size).trans ((b3.mono (Nat.le_trans b1.size b2.size)).trans (b4.mono (Nat.le_trans b1.size (Nat.le_trans b2.size b3.size)))))⟩
end Go.Proofs.Ytbamekfebfcleaa
