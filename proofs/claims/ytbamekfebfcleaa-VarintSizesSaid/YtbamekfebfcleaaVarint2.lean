/- The statements of chapter 1 (varint), second part. -/
import Derived.Test.YtbamekfebfcleaaVarint
import Derived.Deep.RegionHeld3
namespace Go.Proofs.Ytbamekfebfcleaa
open Go.RowKit
set_option linter.unusedVariables false
/-- what puts together all that came below -/
theorem below_trans3 {a b c d : World} (h1 : Below a.heap.size a b) (h2 : Below b.heap.size b c) (h3 : Below c.heap.size c d) : Below a.heap.size a d :=
  h1.trans ((h2.mono h1.size).trans (h3.mono (Nat.le_trans h1.size h2.size)))
theorem below_drew {a b : World} (h : Below a.drew.heap.size a.drew b) : Below a.heap.size a b := (Below.refl a.heap.size a).drew.trans h
theorem below_drewN {a b : World} {k : Nat} (h : Below (a.drewN k).heap.size (a.drewN k) b) : Below a.heap.size a b := (Below.drewN (Below.refl a.heap.size a) k).trans h
theorem below_trans2 {a b c : World} (h1 : Below a.heap.size a b) (h2 : Below b.heap.size b c) : Below a.heap.size a c := h1.trans (h2.mono h1.size)
theorem take_list (s : ByteArray) (n : Nat) : s.extract 0 n = ⟨(s.data.toList.take n).toArray⟩ := by
  have := extract_list s 0 n
  simpa using this
theorem back_head (n : Nat) (hn : n < 18446744073709551616) (b : ByteArray) : vTake ((⟨(vPut n).toArray⟩ ++ b : ByteArray)).data.toList = (n, (⟨(vPut n).toArray⟩ : ByteArray).size, 0) := by
  have h : ((⟨(vPut n).toArray⟩ ++ b : ByteArray)).data.toList = vPut n ++ b.data.toList := by simp
  rw [h, vTake_put n hn]; rfl
set_option maxHeartbeats 400000 in
theorem varintBack_ok (W : World) (x0 : UInt64) (x1 : UInt64) (x2 : ByteArray) (w2 : x2.size ≤ 140737488351232) (x3 : ByteArray) (w3 : x3.size ≤ 140737488351232) :
    Calls Try.prog 9 #[.int .u64 x0.toNat, .int .u64 x1.toNat, .string x2, .string x3] W fun e w' => e = .returned (.bool true) ∧ Below W.heap.size W w' := by
  have hx0 := x0.toNat_lt
  have hx1 := x1.toNat_lt
  generalize x0.toNat = n at *
  generalize x1.toNat = m at *
  have a1 := put_any n hx0
  have h1 : 1 ≤ (⟨(vPut n).toArray⟩ : ByteArray).size := vPut_pos n
  have h2 : (⟨(vPut n).toArray⟩ : ByteArray).size ≤ 10 := vPut_len10 n hx0
  have h3 : ((⟨(vPut n).toArray⟩ : ByteArray) ++ x2).size ≤ maxLen := by rw [ByteArray.size_append]; unfold maxLen; omega
  have a2 := take_any _ h3
  rw [back_head n hx0] at a2
  have a3 := take_any x3 (by unfold maxLen; omega)
  have hb := vTake_back x3.data.toList
  have hl := vTake_le x3.data.toList
  have ht := (vTake_lt x3.data.toList).1
  have a5 := put_any m hx1
  have hm : n ≤ m → (⟨(vPut n).toArray⟩ : ByteArray).size ≤ (⟨(vPut m).toArray⟩ : ByteArray).size := fun h => vPut_mono m n m h (Nat.le_refl _)
  have hsz : x3.data.toList.length = x3.size := by simp
  generalize vTake x3.data.toList = t at *
  obtain ⟨p, q, r⟩ := t
  dsimp only at a3 hb hl ht
  have a4 := put_any p ht
  generalize (⟨(vPut n).toArray⟩ : ByteArray) = T at *
  generalize (⟨(vPut m).toArray⟩ : ByteArray) = U at *
  have A1 := Lib.hid a1; clear a1
  have A2 := Lib.hid a2; clear a2
  have A3 := Lib.hid a3; clear a3
  have A5 := Lib.hid a5; clear a5
  by_cases hr : r = 0
  · subst hr
    rw [hb rfl, ← take_list] at a4
    obtain ⟨l1, l2⟩ := hl rfl
    rw [hsz] at l1
    have A4 := Lib.hid a4; clear a4
    have g1 : decide ((x3.size : Int) < (q : Int)) = false := by simp; omega
    have g3 : decide (x3.size < q) = false := by simp; omega
    have g2 : (q : Int) ≤ (x3.size : Int) := by omega
    clear hb hl hsz ht l1
    by_cases hmn : m < n
    · clear hm
      go_enter Try.func9, Try.ntmps9
      go_wp2_with fail
      refine (A1.out _).mono ?_
      rintro e w1 ⟨rfl, b1⟩
      go_wp2_with fail
      refine (A2.out _).mono ?_
      rintro e w2 ⟨rfl, b2⟩
      go_wp2_with fail
      refine (A3.out _).mono ?_
      rintro e w3 ⟨rfl, b3⟩
      go_wp2_with fail
      go_region_held3 (fun w' => True) (trivial) (first | (go_at_call 27; refine (A4.out _).mono ?_; rintro e w4 ⟨rfl, b4⟩))
      replace b4 := below_drew b4
      go_wp2_with fail
      refine (varAwake_any _).mono ?_
      rintro e w6 ⟨rfl, b6⟩
      go_wp2_with fail
      go_ret
      exact ⟨rfl, below_trans3 b1 b2 (below_trans3 b3 b4 b6)⟩
    · have hm := hm (by omega)
      go_enter Try.func9, Try.ntmps9
      go_wp2_with fail
      refine (A1.out _).mono ?_
      rintro e w1 ⟨rfl, b1⟩
      go_wp2_with fail
      refine (A2.out _).mono ?_
      rintro e w2 ⟨rfl, b2⟩
      go_wp2_with fail
      refine (A3.out _).mono ?_
      rintro e w3 ⟨rfl, b3⟩
      go_wp2_with fail
      go_region_held3 (fun w' => True) (trivial) (first | (go_at_call 27; refine (A4.out _).mono ?_; rintro e w4 ⟨rfl, b4⟩))
      replace b4 := below_drew b4
      go_wp2_with fail
      refine (A5.out _).mono ?_
      rintro e w5 ⟨rfl, b5⟩
      go_wp2_with fail
      refine (varAwake_any _).mono ?_
      rintro e w6 ⟨rfl, b6⟩
      go_wp2_with fail
      go_ret
      exact ⟨rfl, below_trans3 b1 b2 (below_trans3 b3 b4 (below_trans2 b5 b6))⟩
  · have g1 : ((r : Int) == 0) = false := by simp; omega
    have g3 : (r == 0) = false := by simp; omega
    have g4 : decide (r = 0) = false := by simp; omega
    have g5 : decide ((r : Int) = 0) = false := by simp; omega
    clear hb hl hsz ht a4
    by_cases hmn : m < n
    · clear hm
      go_enter Try.func9, Try.ntmps9
      go_wp2_with fail
      refine (A1.out _).mono ?_
      rintro e w1 ⟨rfl, b1⟩
      go_wp2_with fail
      refine (A2.out _).mono ?_
      rintro e w2 ⟨rfl, b2⟩
      go_wp2_with fail
      refine (A3.out _).mono ?_
      rintro e w3 ⟨rfl, b3⟩
      go_wp2_with fail
      go_quiet (fail)
      go_wp2_with fail
      refine (varAwake_any _).mono ?_
      rintro e w6 ⟨rfl, b6⟩
      go_wp2_with fail
      go_ret
      exact ⟨rfl, below_trans3 b1 b2 (below_trans2 b3 (below_drewN b6))⟩
    · have hm := hm (by omega)
      go_enter Try.func9, Try.ntmps9
      go_wp2_with fail
      refine (A1.out _).mono ?_
      rintro e w1 ⟨rfl, b1⟩
      go_wp2_with fail
      refine (A2.out _).mono ?_
      rintro e w2 ⟨rfl, b2⟩
      go_wp2_with fail
      refine (A3.out _).mono ?_
      rintro e w3 ⟨rfl, b3⟩
      go_wp2_with fail
      go_quiet (fail)
      go_wp2_with fail
      refine (A5.out _).mono ?_
      rintro e w5 ⟨rfl, b5⟩
      go_wp2_with fail
      refine (varAwake_any _).mono ?_
      rintro e w6 ⟨rfl, b6⟩
      go_wp2_with fail
      go_ret
      exact ⟨rfl, below_trans3 b1 b2 (below_trans3 b3 (below_drewN b5) b6)⟩
theorem whole_head (s b : ByteArray) (h : s.size ≤ 65536) : vTakeText ((⟨(vPutText s.data.toList).toArray⟩ ++ b : ByteArray)).data.toList = (s.data.toList, (⟨(vPutText s.data.toList).toArray⟩ : ByteArray).size, 0) := by
  have e : ((⟨(vPutText s.data.toList).toArray⟩ ++ b : ByteArray)).data.toList = vPutText s.data.toList ++ b.data.toList := by simp
  rw [e, vTakeText_put _ _ (by simpa using h)]; rfl
theorem putText_size (s : ByteArray) (h : s.size ≤ 65536) : (⟨(vPutText s.data.toList).toArray⟩ : ByteArray).size ≤ s.size + 10 := by
  show (vPutText s.data.toList).length ≤ _
  have hl : s.data.toList.length = s.size := by simp
  unfold vPutText
  rw [if_neg (by omega), List.length_append, hl]
  have := vPut_len10 s.size (by omega)
  omega
theorem whole_list (s : ByteArray) : (⟨s.data.toList.toArray⟩ : ByteArray) = s := rfl
set_option maxHeartbeats 400000 in
theorem varintWhole_ok (W : World) (x0 : ByteArray) (w0 : x0.size ≤ 140737488351232) (x1 : ByteArray) (w1 : x1.size ≤ 140737488351232) (x2 : ByteArray) (w2 : x2.size ≤ 140737488351232) :
    Calls Try.prog 12 #[.string x0, .string x1, .string x2] W fun e w' => e = .returned (.bool true) ∧ Below W.heap.size W w' := by
  by_cases c0 : 65536 < x0.size
  · go_enter Try.func12, Try.ntmps12
    go_wp2_with fail
    refine (varAwake_any _).mono ?_
    rintro e w1 ⟨rfl, b1⟩
    go_wp2_with fail
    go_ret
    exact ⟨rfl, b1⟩
  by_cases c1 : 1000 < x1.size
  · go_enter Try.func12, Try.ntmps12
    go_wp2_with fail
    refine (varAwake_any _).mono ?_
    rintro e w1 ⟨rfl, b1⟩
    go_wp2_with fail
    go_ret
    exact ⟨rfl, b1⟩
  by_cases c2 : 70000 < x2.size
  · go_enter Try.func12, Try.ntmps12
    go_wp2_with fail
    refine (varAwake_any _).mono ?_
    rintro e w1 ⟨rfl, b1⟩
    go_wp2_with fail
    go_ret
    exact ⟨rfl, b1⟩
  have a1 := putText_any x0 w0
  have hs := putText_size x0 (by omega)
  have h3 : ((⟨(vPutText x0.data.toList).toArray⟩ : ByteArray) ++ x1).size ≤ 140737488351232 := by rw [ByteArray.size_append]; omega
  have h4 : ((⟨(vPutText x0.data.toList).toArray⟩ : ByteArray) ++ x1).size ≤ maxLen := by unfold maxLen; omega
  have a2 := takeText_any _ h3
  rw [whole_head x0 x1 (by omega)] at a2
  dsimp only at a2
  rw [whole_list] at a2
  clear h3
  have a3 := takeText_any x2 w2
  have hb := vTakeText_back x2.data.toList
  have he := vTakeText_err x2.data.toList
  have hsz : x2.data.toList.length = x2.size := by simp
  have hlen : (vTakeText x2.data.toList).2.2 = 0 → (vTakeText x2.data.toList).1.length ≤ 70000 := fun h => by
    obtain ⟨i1, i2⟩ := hb h
    have i3 := congrArg List.length i2
    by_cases i4 : 65536 < (vTakeText x2.data.toList).1.length
    · unfold vTakeText at i4
      exfalso
      revert i4
      split
      · simp
      · split
        · simp
        · split
          · simp
          · simp; omega
    · omega
  generalize vTakeText x2.data.toList = t at *
  obtain ⟨p, q, r⟩ := t
  dsimp only at a3 hb he hlen
  generalize (⟨(vPutText x0.data.toList).toArray⟩ : ByteArray) = T at *
  have A1 := Lib.hid a1; clear a1
  have A2 := Lib.hid a2; clear a2
  have A3 := Lib.hid a3; clear a3
  by_cases hr : r = 0
  · subst hr
    obtain ⟨l1, l2⟩ := hb rfl
    have hlen := hlen rfl
    have a4 := putText_any ⟨p.toArray⟩ (by show p.length ≤ _; omega)
    have l3 : (⟨(vPutText (ByteArray.mk p.toArray).data.toList).toArray⟩ : ByteArray) = x2.extract 0 q := by rw [take_list, ← l2]
    rw [l3] at a4
    rw [hsz] at l1
    have A4 := Lib.hid a4; clear a4
    have g1 : decide ((q : Int) ≤ (x2.size : Int)) = true := by simp; omega
    have g3 : decide (q ≤ x2.size) = true := by simp; omega
    have g2 : (q : Int) ≤ (x2.size : Int) := by omega
    clear hb he hsz l2 hlen l3 l1
    generalize (⟨p.toArray⟩ : ByteArray) = P at *
    go_enter Try.func12, Try.ntmps12
    go_wp2_with fail
    refine (A1.out _).mono ?_
    rintro e w1 ⟨rfl, b1⟩
    go_wp2_with fail
    refine (A2.out _).mono ?_
    rintro e w2 ⟨rfl, b2⟩
    go_wp2_with fail
    refine (A3.out _).mono ?_
    rintro e w3 ⟨rfl, b3⟩
    go_wp2_with fail
    go_region_held3 (fun w' => True) (trivial) (first | (go_at_call 36; refine (A4.out _).mono ?_; rintro e w4 ⟨rfl, b4⟩) | (go_at_call 29; refine (varAwake_any _).mono ?_; rintro e w6 ⟨rfl, b6⟩))
    replace b4 := below_drew b4
    go_wp2_with fail
    go_ret
    exact ⟨rfl, below_trans3 b1 b2 (below_trans3 b3 b4 b6)⟩
  · obtain ⟨e1, e2⟩ := he hr
    subst e1 e2
    clear hb he hsz hlen
    go_enter Try.func12, Try.ntmps12
    go_wp2_with fail
    refine (A1.out _).mono ?_
    rintro e w1 ⟨rfl, b1⟩
    go_wp2_with fail
    refine (A2.out _).mono ?_
    rintro e w2 ⟨rfl, b2⟩
    go_wp2_with fail
    refine (A3.out _).mono ?_
    rintro e w3 ⟨rfl, b3⟩
    go_wp2_with fail
    refine (varAwake_any _).mono ?_
    rintro e w6 ⟨rfl, b6⟩
    go_wp2_with fail
    go_ret
    exact ⟨rfl, below_trans3 b1 b2 (below_trans2 b3 b6)⟩
end Go.Proofs.Ytbamekfebfcleaa
