/- Join of both packages: walks. -/
import Derived.Test.YtdgnhnhmcobfkaaParMake
import Derived.Test.YtdgnhnhmcobfkaaShelfPar
namespace Go.Proofs.Ytdgnhnhmcobfkaa
open Go.RowKit
set_option linter.unusedVariables false
set_option linter.unusedSimpArgs false
def catL (l : List ByteArray) : List UInt8 := (l.map (·.data.toList)).flatten
def catB (l : List ByteArray) : ByteArray := ⟨(catL l).toArray⟩
theorem catB_size (l : List ByteArray) : (catB l).size = (catL l).length := by simp [catB, ByteArray.size]
theorem catB_snoc (l : List ByteArray) (x : ByteArray) : catB (l ++ [x]) = catB l ++ x := by
  apply ByteArray.ext
  apply Array.toList_inj.1
  rw [toList_append]
  simp [catB, catL]
theorem join_nil : ∀ xs : List (List UInt8), Lib.join xs [] = xs.flatten
  | [] => rfl
  | [x] => by simp [Lib.join]
  | x :: y :: r => by
    have h := join_nil (y :: r)
    simp [Lib.join] at h ⊢
    exact h
def joinOk (l : List ByteArray) (n : Int) : Bool := decide (0 ≤ n ∧ n ≤ (catB l).size)
def joinB (l : List ByteArray) (n : Int) : ByteArray := if joinOk l n = true then (catB l).extract 0 n.toNat else .empty
def joinE (l : List ByteArray) (n : Int) : Int := if joinOk l n = true then 0 else 4
set_option maxRecDepth 20000 in
set_option maxHeartbeats 2000000 in
theorem join_any (w : World) (va : Value) (l : List ByteArray) (n : Int) (ha : StrsB w va l) (hsz : (catL l).length ≤ 1000000000) (hn : l.length ≤ 1000000) :
    Calls Try.prog 32 #[va, .int .i64 n] w fun e w' => e = .returned (.tuple #[.string (joinB l n), .int .i64 (joinE l n)]) ∧ Below w.heap.size w w' := by
  have HJ : Hid (Calls Try.prog 58 #[va, .string ⟨#[]⟩] w fun e w' => e = .returned (.string (catB l)) ∧ Below w.heap.size w w') := by
    unfold Hid
    by_cases h0 : l.length = 0
    · obtain rfl := List.length_eq_zero_iff.1 h0
      obtain ⟨A, c, rfl, h1⟩ := ha.nil
      exact (Try.strings_Join_none A c ⟨#[]⟩ w).mono fun e w' ⟨a, b⟩ => ⟨a, b ▸ Below.refl _ _⟩
    · obtain ⟨A, c, rfl, h1, h2⟩ := ha.len
      obtain ⟨b, o, rfl, hb, hc⟩ := ha.cells (by omega)
      have hj : Lib.join (l.map (·.data.toList)) (⟨#[]⟩ : ByteArray).data.toList = catL l := join_nil _
      have := Try.strings_Join b o c l ⟨#[]⟩ w (fun j x hx => by
        have hjl : j < l.length := (List.getElem?_eq_some_iff.1 hx).1
        rw [hc j hjl]; rw [List.getElem?_eq_getElem hjl] at hx; injection hx with hx; rw [hx]) hb (by omega) h1 (by rw [hj]; omega)
      rw [hj] at this
      exact this
  have HO : Hid (joinOk l n = decide (0 ≤ n ∧ n ≤ (catB l).size)) := rfl
  have HB : Hid (joinOk l n = true → joinB l n = (catB l).extract 0 n.toNat ∧ joinE l n = 0) := fun h => by unfold joinB joinE; rw [if_pos h, if_pos h]; exact ⟨rfl, rfl⟩
  have HN : Hid (joinOk l n = false → joinB l n = .empty ∧ joinE l n = 4) := fun h => by unfold joinB joinE; rw [if_neg (by rw [h]; simp), if_neg (by rw [h]; simp)]; exact ⟨rfl, rfl⟩
  have hz : (catB l).size ≤ 1000000000 := by rw [catB_size]; exact hsz
  obtain ⟨A, c, rfl, h1, h2⟩ := ha.len
  clear ha hsz hn h1 h2
  generalize joinB l n = jb at *
  generalize joinE l n = je at *
  generalize joinOk l n = jo at *
  generalize catB l = s at *
  by_cases h0 : 0 ≤ n
  · have d0 : decide (n < 0) = false := by simp; omega
    by_cases h1 : n ≤ s.size
    · have d1 : decide ((s.size : Int) < n) = false := by simp; omega
      have HX := Lib.hid (HB.out (by rw [HO.out]; simp; omega))
      obtain ⟨m, rfl⟩ := Int.eq_ofNat_of_zero_le h0
      clear HB HN HO
      go_enter Try.func32, Try.ntmps32
      go_wp2_with fail
      refine HJ.out.mono ?_
      rintro e w1 ⟨rfl, b1⟩
      go_wp2_with fail
      go_ret2
      exact ⟨by rw [HX.out.1, HX.out.2]; rfl, b1⟩
    · have d1 : decide ((s.size : Int) < n) = true := by simp; omega
      have HX := Lib.hid (HN.out (by rw [HO.out, decide_eq_false_iff_not]; omega))
      clear HB HN HO
      go_enter Try.func32, Try.ntmps32
      go_wp2_with fail
      refine HJ.out.mono ?_
      rintro e w1 ⟨rfl, b1⟩
      go_wp2_with fail
      go_ret2
      exact ⟨by rw [HX.out.1, HX.out.2]; rfl, b1⟩
  · have d0 : decide (n < 0) = true := by simp; omega
    have HX := Lib.hid (HN.out (by rw [HO.out, decide_eq_false_iff_not]; omega))
    clear HB HN HO
    go_enter Try.func32, Try.ntmps32
    go_wp2_with fail
    refine HJ.out.mono ?_
    rintro e w1 ⟨rfl, b1⟩
    go_wp2_with fail
    go_ret2
    exact ⟨by rw [HX.out.1, HX.out.2]; rfl, b1⟩
theorem catL_take (l : List ByteArray) (j : Nat) : (catL (l.take j)).length ≤ (catL l).length := by
  unfold catL
  conv => rhs; rw [← List.take_append_drop j l, List.map_append, List.flatten_append, List.length_append]
  omega
set_option maxRecDepth 20000 in
set_option maxHeartbeats 2000000 in
theorem rjoin_any (w : World) (va : Value) (l : List ByteArray) (n : Int) (ha : StrsB w va l) (hsz : (catL l).length ≤ 1000000000) :
    Calls Try.prog 33 #[va, .int .i64 n] w fun e w' => e = .returned (.tuple #[.string (joinB l n), .int .i64 (joinE l n)]) ∧ w = w' := by
  have HO : Hid (joinOk l n = decide (0 ≤ n ∧ n ≤ (catB l).size)) := rfl
  have HB : Hid (joinOk l n = true → joinB l n = (catB l).extract 0 n.toNat ∧ joinE l n = 0) := fun h => by unfold joinB joinE; rw [if_pos h, if_pos h]; exact ⟨rfl, rfl⟩
  have HN : Hid (joinOk l n = false → joinB l n = .empty ∧ joinE l n = 4) := fun h => by unfold joinB joinE; rw [if_neg (by rw [h]; simp), if_neg (by rw [h]; simp)]; exact ⟨rfl, rfl⟩
  have hz : (catB l).size ≤ 1000000000 := by rw [catB_size]; exact hsz
  have HZT : Hid (∀ j, (catB (l.take j)).size ≤ 1000000000) := fun j => by rw [catB_size]; exact Nat.le_trans (catL_take l j) hsz
  obtain ⟨A, c, rfl, h1, h2⟩ := ha.len
  have HC := Lib.hid ha.cells
  have hm : l.length ≤ 9223372036854775807 := by unfold maxLen at h2; omega
  clear ha hsz h1 h2
  generalize joinB l n = jb at *
  generalize joinE l n = je at *
  generalize joinOk l n = jo at *
  go_enter Try.func33, Try.ntmps33
  go_wp2_with fail
  go_loop [6, 7] (fun s i => ∃ (j : Nat) (y : ByteArray), j ≤ l.length ∧ i = .int .i64 j ∧ s = .string y ∧ Hid (y = catB (l.take j))) (fun _ i => l.length - (intOf i).toNat)
  case atStart => exact ⟨0, ⟨#[]⟩, Nat.zero_le _, rfl, rfl, rfl⟩
  case round =>
    obtain ⟨j, y, hj, rfl, rfl, HY⟩ := hrel
    by_cases hlt : j < l.length
    · obtain ⟨b, off, rfl, hblt, hcell⟩ := HC.out (by omega)
      have e1 := hcell j hlt
      have hlt' : (j : Int) < (l.length : Int) := by omega
      have HS : Hid (catB (l.take (j + 1)) = y ++ l[j]) := by unfold Hid; rw [take_succ_list l j hlt, catB_snoc, HY.out]
      have hz1 := HZT.out (j + 1)
      rw [HS.out] at hz1
      generalize l[j] = x at *
      clear hcell HY
      have hz2 : y.size + x.size ≤ 1000000000 := by rw [ByteArray.size_append] at hz1; exact hz1
      clear hz1
      go_wp2_with fail
      go_round
      case rel => exact ⟨j + 1, y ++ x, by omega, by go_num, rfl, HS.out.symm⟩
      case measure => simp [intOf]; omega
    · obtain rfl : j = l.length := by omega
      have HY2 : Hid (y = catB l) := by have := HY.out; rw [List.take_length] at this; exact this
      rw [← HY2.out] at HB HO hz
      clear HY HY2
      obtain ⟨s, hs⟩ : ∃ s, s = y := ⟨_, rfl⟩
      subst hs
      by_cases h0 : 0 ≤ n
      · have d0 : decide (n < 0) = false := by simp; omega
        by_cases h1 : n ≤ s.size
        · have d1 : decide ((s.size : Int) < n) = false := by simp; omega
          have HX := Lib.hid (HB.out (by rw [HO.out]; simp; omega))
          obtain ⟨m, rfl⟩ := Int.eq_ofNat_of_zero_le h0
          clear HB HN HO HZT
          go_wp2_with fail
          go_ret2
          exact ⟨by rw [HX.out.1, HX.out.2]; rfl, rfl⟩
        · have d1 : decide ((s.size : Int) < n) = true := by simp; omega
          have HX := Lib.hid (HN.out (by rw [HO.out, decide_eq_false_iff_not]; omega))
          clear HB HN HO HZT
          go_wp2_with fail
          go_ret2
          exact ⟨by rw [HX.out.1, HX.out.2]; rfl, rfl⟩
      · have d0 : decide (n < 0) = true := by simp; omega
        have HX := Lib.hid (HN.out (by rw [HO.out, decide_eq_false_iff_not]; omega))
        clear HB HN HO HZT
        go_wp2_with fail
        go_ret2
        exact ⟨by rw [HX.out.1, HX.out.2]; rfl, rfl⟩
end Go.Proofs.Ytdgnhnhmcobfkaa
