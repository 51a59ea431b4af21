/- The statements of chapter 1 (varint), third part. -/
import Derived.Test.YtbamekfebfcleaaVarint2
namespace Go.Proofs.Ytbamekfebfcleaa
open Go.RowKit
set_option linter.unusedVariables false
def vCnt (m : Nat) : Nat := if m = 0 then 0 else (vPut m).length
theorem vCnt_step (m : Nat) (h : 0 < m) : vCnt m = 1 + vCnt (m / 128) := by
  unfold vCnt
  rw [if_neg (by omega)]
  by_cases h1 : m < 128
  · rw [vPut_small m h1, if_pos (by omega)]; rfl
  · rw [vPut_step m (by omega), if_neg (by omega), List.length_cons]; omega
theorem vCnt_put (n : Nat) : (vPut n).length = 1 + vCnt (n / 128) := by
  by_cases h : n = 0
  · subst h; rfl
  · have := vCnt_step n (by omega)
    unfold vCnt at this ⊢
    rw [if_neg h] at this
    exact this
theorem two_list (a b : ByteArray) (ha : a.size ≤ 65536) : vTakeText ((⟨(vPutText a.data.toList).toArray⟩ ++ ⟨(vPutText b.data.toList).toArray⟩ : ByteArray)).data.toList = (a.data.toList, (⟨(vPutText a.data.toList).toArray⟩ : ByteArray).size, 0) := whole_head a _ ha
theorem two_rest (p q : ByteArray) : (p ++ q).extract p.size (p.size + q.size) = q := by
  apply ByteArray.ext
  apply Array.toList_inj.1
  rw [Lib.extract_data]
  have h : p.data.toList.length = p.size := by simp
  have h2 : q.data.toList.length = q.size := by simp
  rw [ByteArray.data_append, Array.toList_append, List.drop_left' h, ← h2]
  first | (rw [show p.size + q.data.toList.length - p.size = q.data.toList.length by omega]; exact List.take_length) | simp
theorem one_list (a : ByteArray) (ha : a.size ≤ 65536) : vTakeText ((⟨(vPutText a.data.toList).toArray⟩ : ByteArray)).data.toList = (a.data.toList, (⟨(vPutText a.data.toList).toArray⟩ : ByteArray).size, 0) := by
  have := vTakeText_put a.data.toList [] (by simpa using ha)
  rw [List.append_nil] at this
  exact this
set_option maxHeartbeats 1000000 in
theorem varintSizes_ok (W : World) (x0 : UInt64) (x1 : ByteArray) (w1 : x1.size ≤ 140737488351232) (x2 : ByteArray) (w2 : x2.size ≤ 140737488351232) :
    Calls Try.prog 13 #[.int .u64 x0.toNat, .string x1, .string x2] W fun e w' => e = .returned (.bool true) ∧ Below W.heap.size W w' := by
  have hx0 := x0.toNat_lt
  generalize x0.toNat = n at *
  have a1 := put_any n hx0
  have h1 : 1 ≤ (⟨(vPut n).toArray⟩ : ByteArray).size := vPut_pos n
  have h2 : (⟨(vPut n).toArray⟩ : ByteArray).size ≤ 10 := vPut_len10 n hx0
  have h3 : (⟨(vPut n).toArray⟩ : ByteArray).size = 1 + vCnt (n / 128) := vCnt_put n
  generalize (⟨(vPut n).toArray⟩ : ByteArray) = T at *
  have A1 := Lib.hid a1; clear a1
  have H3 := Lib.hid h3; clear h3
  have H1 := Lib.hid h1; clear h1
  have H2 := Lib.hid h2; clear h2
  go_enter Try.func13, Try.ntmps13
  go_wp2
  go_loop [7, 8] (fun k m => ∃ kk mm : Nat, k = .int .i64 (kk : Int) ∧ m = .int .u64 (mm : Int) ∧ mm < 18446744073709551616 ∧ Hid (T.size = kk + vCnt mm) ∧ kk ≤ 10) (fun _ m => (intOf m).toNat)
  case atStart => exact ⟨1, n / 128, rfl, rfl, by omega, H3.out, by omega⟩
  case round =>
    obtain ⟨k, m, rfl, rfl, hm, HK, hk⟩ := hrel
    by_cases hm0 : 0 < m
    · have hk9 : k < 10 := by
        have h := HK.out; have h2 := H2.out; rw [vCnt_step m hm0] at h; omega
      go_wp2
      go_round
      case rel => exact ⟨k + 1, m / 128, by go_num, rfl, by omega, by unfold Hid; rw [HK.out, vCnt_step m hm0]; omega, by omega⟩
      case measure => simp [intOf]; omega
    · obtain rfl : m = 0 := by omega
      obtain rfl : T.size = k := HK.out
      clear HK hm0 hm hk
      have B1 := H1.out
      have B2 := H2.out
      by_cases c1 : 3000 < x1.size
      · go_wp2_with fail
        refine (A1.out _).mono ?_
        rintro e w1 ⟨rfl, b1⟩
        go_wp2_with fail
        refine (A1.out _).mono ?_
        rintro e w2 ⟨rfl, b2⟩
        go_wp2_with fail
        refine (varAwake_any _).mono ?_
        rintro e w3 ⟨rfl, b3⟩
        go_wp2_with fail
        go_ret
        exact ⟨rfl, below_trans3 b1 b2 b3⟩
      by_cases c2 : 3000 < x2.size
      · go_wp2_with fail
        refine (A1.out _).mono ?_
        rintro e w1 ⟨rfl, b1⟩
        go_wp2_with fail
        refine (A1.out _).mono ?_
        rintro e w2 ⟨rfl, b2⟩
        go_wp2_with fail
        refine (varAwake_any _).mono ?_
        rintro e w3 ⟨rfl, b3⟩
        go_wp2_with fail
        go_ret
        exact ⟨rfl, below_trans3 b1 b2 b3⟩
      have p1 := putText_any x1 w1
      have p2 := putText_any x2 w2
      have s1 := putText_size x1 (by omega)
      have s2 := putText_size x2 (by omega)
      have q1 := takeText_any (⟨(vPutText x1.data.toList).toArray⟩ ++ ⟨(vPutText x2.data.toList).toArray⟩) (by rw [ByteArray.size_append]; omega)
      have q2 := takeText_any ⟨(vPutText x2.data.toList).toArray⟩ (by omega)
      rw [two_list x1 x2 (by omega)] at q1
      rw [one_list x2 (by omega)] at q2
      dsimp only at q1 q2
      rw [whole_list] at q1 q2
      have e1 := two_rest ⟨(vPutText x1.data.toList).toArray⟩ ⟨(vPutText x2.data.toList).toArray⟩
      have e2 : ((⟨(vPutText x1.data.toList).toArray⟩ ++ ⟨(vPutText x2.data.toList).toArray⟩ : ByteArray)).size = (⟨(vPutText x1.data.toList).toArray⟩ : ByteArray).size + (⟨(vPutText x2.data.toList).toArray⟩ : ByteArray).size := ByteArray.size_append
      generalize (⟨(vPutText x1.data.toList).toArray⟩ : ByteArray) = P at *
      generalize (⟨(vPutText x2.data.toList).toArray⟩ : ByteArray) = Q at *
      have m1 : (P ++ Q).size ≤ maxLen := by rw [e2]; unfold maxLen; omega
      have g1 : ((P ++ Q).size : Int) = (P.size : Int) + (Q.size : Int) := by omega
      have P1 := Lib.hid p1; clear p1
      have P2 := Lib.hid p2; clear p2
      have Q1 := Lib.hid q1; clear q1
      have Q2 := Lib.hid q2; clear q2
      go_wp2_with fail
      refine (A1.out _).mono ?_
      rintro e w1 ⟨rfl, b1⟩
      go_wp2_with fail
      refine (P1.out _).mono ?_
      rintro e w2 ⟨rfl, b2⟩
      go_wp2_with fail
      refine (P2.out _).mono ?_
      rintro e w3 ⟨rfl, b3⟩
      go_wp2_with fail
      refine (Q1.out _).mono ?_
      rintro e w4 ⟨rfl, b4⟩
      go_wp2_with fail
      refine (Q2.out _).mono ?_
      rintro e w5 ⟨rfl, b5⟩
      go_wp2_with fail
      refine (varAwake_any _).mono ?_
      rintro e w6 ⟨rfl, b6⟩
      go_wp2_with fail
      go_ret
      exact ⟨rfl, below_trans3 b1 b2 (below_trans3 b3 b4 (below_trans2 b5 b6))⟩
end Go.Proofs.Ytbamekfebfcleaa
