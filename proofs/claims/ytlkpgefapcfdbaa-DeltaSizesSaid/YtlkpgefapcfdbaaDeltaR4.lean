/- Walks: chapter 33's document: num, bytes, best. (under way: does not build) -/
import Derived.Test.YtlkpgefapcfdbaaDeltaR3
import Derived.BigRegion
namespace Go.Proofs.Ytlkpgefapcfdbaa
open Go.RowKit
set_option linter.unusedVariables false
set_option linter.unusedSimpArgs false
set_option maxHeartbeats 1000000 in
theorem refNum_any (n : Nat) (hn : n < 9223372036854775808) (w : World) :
    Calls Try.prog 22 #[.int .i64 n] w fun e w' => e = .returned (.string ⟨(vPut n).toArray⟩) ∧ Below w.heap.size w w' := by
  have HP := Lib.hid (fun w => refPut_any n (by omega) w)
  generalize (⟨(vPut n).toArray⟩ : ByteArray) = p at *
  go_enter Try.func22, Try.ntmps22
  go_wp2_with fail
  refine (HP.out _).mono ?_
  rintro e w1 ⟨rfl, b1⟩
  go_wp2
  go_ret
  exact ⟨rfl, b1⟩
/-- what is put in, as its bytes -/
def flushB (s : List UInt8) : List UInt8 := (flushP s).flatMap encP
set_option maxHeartbeats 1000000 in
theorem refBytes_any (s : ByteArray) (hs : s.size ≤ 1000000) (w : World) :
    Calls Try.prog 26 #[.string s] w fun e w' => e = .returned (.string ⟨(flushB s.data.toList).toArray⟩) ∧ Below w.heap.size w w' := by
  have hl : s.data.toList.length = s.size := by simp
  by_cases h0 : s.data.toList = []
  · have ht : s.toList.isEmpty = true := by rw [ByteArray.toList_eq, h0]; rfl
    have hv : flushB s.data.toList = [] := by rw [h0]; rfl
    rw [hv]
    clear hv
    go_enter Try.func26, Try.ntmps26
    go_wp2
    go_ret
    exact ⟨rfl, Below.refl _ _⟩
  · have ht : s.toList.isEmpty = false := by rw [ByteArray.toList_eq, List.isEmpty_eq_false_iff]; exact h0
    have hv : (⟨(flushB s.data.toList).toArray⟩ : ByteArray) = ⟨(vPut (2 * s.size)).toArray⟩ ++ s := by
      unfold flushB flushP
      rw [if_neg h0]
      simp only [List.flatMap_cons, List.flatMap_nil, List.append_nil, encP, hl]
      apply ByteArray.ext
      simp
    rw [hv]
    have hp : (⟨(vPut (2 * s.size)).toArray⟩ : ByteArray).size ≤ 10 := vPut_len10 _ (by omega)
    have HP := Lib.hid (fun w => refNum_any (2 * s.size) (by omega) w)
    generalize (⟨(vPut (2 * s.size)).toArray⟩ : ByteArray) = p at *
    have he : ((2 * s.size : Nat) : Int) = 2 * (s.size : Int) := by omega
    rw [he] at HP
    clear hv h0 hl he
    go_enter Try.func26, Try.ntmps26
    go_wp2_with fail
    refine (HP.out _).mono ?_
    rintro e w1 ⟨rfl, b1⟩
    go_wp2
    go_ret
    exact ⟨rfl, b1⟩
theorem comm_on (b s : ByteArray) (i j : Nat) (hi : i < b.size) (hj : j < s.size) (h : b[i] = s[j]) : comm (b.data.toList.drop i) (s.data.toList.drop j) = comm (b.data.toList.drop (i + 1)) (s.data.toList.drop (j + 1)) + 1 := by
  rw [drop_consB b i hi, drop_consB s j hj, comm, if_pos h]
theorem comm_off (b s : ByteArray) (i j : Nat) (hi : i < b.size) (hj : j < s.size) (h : b[i] ≠ s[j]) : comm (b.data.toList.drop i) (s.data.toList.drop j) = 0 := by
  rw [drop_consB b i hi, drop_consB s j hj, comm, if_neg h]
theorem comm_endL (b s : ByteArray) (i j : Nat) (hi : b.size ≤ i) : comm (b.data.toList.drop i) (s.data.toList.drop j) = 0 := by
  rw [List.drop_eq_nil_of_le (by simpa using hi)]; simp [comm]
theorem comm_endR (b s : ByteArray) (i j : Nat) (hj : s.size ≤ j) : comm (b.data.toList.drop i) (s.data.toList.drop j) = 0 := by
  have h : s.data.toList.drop j = [] := List.drop_eq_nil_of_le (by simpa using hj)
  rw [h]
  cases b.data.toList.drop i <;> simp [comm]
theorem bestK_yes {b s : List UInt8} {k n : Nat} (h : comm (b.drop k) s = n) (h8 : 8 ≤ n) (hm : (bestK b s k).1 < n) : bestK b s (k + 1) = (n, k) := by
  subst h; rw [bestK, if_pos ⟨h8, hm⟩]
theorem bestK_no {b s : List UInt8} {k n : Nat} (h : comm (b.drop k) s = n) (hn : ¬ (8 ≤ n ∧ (bestK b s k).1 < n)) : bestK b s (k + 1) = bestK b s k := by
  subst h; rw [bestK, if_neg hn]
set_option maxHeartbeats 4000000 in
theorem refBest_any (b s : ByteArray) (at' : Nat) (hb : b.size ≤ 1000000) (hs : s.size ≤ 1000000) (ha : at' ≤ s.size) (w : World) :
    Calls Try.prog 25 #[.string b, .string s, .int .i64 at'] w fun e w' => e = .returned (.tuple #[.int .i64 ((bestD b.data.toList (s.data.toList.drop at')).1 : Nat), .int .i64 ((bestD b.data.toList (s.data.toList.drop at')).2 : Nat)]) ∧ Below w.heap.size w w' := by
  go_enter Try.func25, Try.ntmps25
  go_wp2_with fail
  go_loopw [8, 9, 10] (fun m p i wr => ∃ k : Nat, k ≤ b.size ∧ m = .int .i64 ((bestK b.data.toList (s.data.toList.drop at') k).1 : Nat) ∧ p = .int .i64 ((bestK b.data.toList (s.data.toList.drop at') k).2 : Nat) ∧ i = .int .i64 (k : Nat) ∧ Hid (Below w.heap.size w wr)) (fun _ _ i _ => b.size - (intOf i).toNat)
  case atStart => exact ⟨0, Nat.zero_le _, rfl, rfl, rfl, Lib.hid (Below.refl _ _)⟩
  case round =>
    obtain ⟨k, hk, rfl, rfl, rfl, HB⟩ := hrel
    by_cases hkb : k < b.size
    · go_wp2_with fail
      go_loopw [11] (fun v11 wr2 => ∃ n : Nat, v11 = .int .i64 (n : Nat) ∧ k + n ≤ b.size ∧ at' + n ≤ s.size ∧ Hid (comm (b.data.toList.drop k) (s.data.toList.drop at') = n + comm (b.data.toList.drop (k + n)) (s.data.toList.drop (at' + n))) ∧ Hid (Below w.heap.size w wr2)) (fun v11 _ => b.size - (intOf v11).toNat)
      case atStart => exact ⟨0, rfl, by omega, by omega, by unfold Hid; simp, HB⟩
      case round =>
        clear HB
        obtain ⟨n, rfl, h1, h2, HC, HB⟩ := hrel
        obtain ⟨p, hp⟩ : ∃ p : Nat, p = k + n := ⟨_, rfl⟩
        obtain ⟨q, hq⟩ : ∃ q : Nat, q = at' + n := ⟨_, rfl⟩
        have hp' : (k : Int) + (n : Int) = (p : Int) := by omega
        have hq' : (at' : Int) + (n : Int) = (q : Int) := by omega
        rw [← hp, ← hq] at HC
        have HPQ := Lib.hid (And.intro hp hq)
        rw [← hp] at h1
        rw [← hq] at h2
        clear hp hq
        by_cases hpb : p < b.size
        · have hpb' : (p : Int) < (b.size : Int) := by omega
          by_cases hqs : q < s.size
          · have hqs' : (q : Int) < (s.size : Int) := by omega
            by_cases hx : b[p] = s[q]
            · have HC2 : Hid (comm (b.data.toList.drop k) (s.data.toList.drop at') = (n + 1) + comm (b.data.toList.drop (k + (n + 1))) (s.data.toList.drop (at' + (n + 1)))) := by
                unfold Hid
                rw [HC.out, comm_on b s p q hpb hqs hx, HPQ.out.1, HPQ.out.2]
                simp only [Nat.add_assoc, Nat.add_comm, Nat.add_left_comm]
              have hx' : (b[p] == s[q]) = true := by simp [hx]
              go_wp2_with fail
              go_quiet (fail)
              go_wp2_with fail
              exact ⟨⟨n + 1, by go_num, by omega, by omega, HC2, Lib.hid (HB.out.trans ((below_drewN wr _).mono HB.out.size))⟩, by simp [intOf]; omega⟩
            · have hx' : (((b[p]).toNat : Int) == ((s[q]).toNat : Int)) = false := by simp; intro e; exact hx (UInt8.toNat_inj.1 (by omega))
              have HZ := Lib.hid (comm_off b s p q hpb hqs hx)
              have HE : Hid (comm (b.data.toList.drop k) (s.data.toList.drop at') = n) := by unfold Hid; rw [HC.out, HZ.out]; rfl
              clear HC HPQ
              have HBQ := Lib.hid (fun m => HB.out.trans ((below_drewN wr m).mono HB.out.size))
              by_cases h8 : 8 ≤ n
              · have h8' : (8 : Int) ≤ (n : Int) := by omega
                by_cases hm : (bestK b.data.toList (s.data.toList.drop at') k).1 < n
                · have HK := Lib.hid (bestK_yes HE.out h8 hm)
                  generalize (bestK b.data.toList (s.data.toList.drop at') k) = r at *
                  have hm' : (r.1 : Int) < (n : Int) := by omega
                  go_wp2_with fail
                  go_quiet (fail)
                  go_wp2_with fail
                  exact ⟨⟨k + 1, by omega, by rw [HK.out], by rw [HK.out], by go_num, Lib.hid (HBQ.out _)⟩, by simp [intOf]; omega⟩
                · have HK := Lib.hid (bestK_no HE.out (fun h => hm h.2))
                  generalize (bestK b.data.toList (s.data.toList.drop at') k) = r at *
                  have hm' : (n : Int) ≤ (r.1 : Int) := by omega
                  go_wp2_with fail
                  go_quiet (fail)
                  go_wp2_with fail
                  exact ⟨⟨k + 1, by omega, by rw [HK.out], by rw [HK.out], by go_num, Lib.hid (HBQ.out _)⟩, by simp [intOf]; omega⟩
              · have h8' : (n : Int) < 8 := by omega
                have HK := Lib.hid (bestK_no HE.out (fun h => h8 h.1))
                generalize (bestK b.data.toList (s.data.toList.drop at') k) = r at *
                go_wp2_with fail
                go_quiet (fail)
                go_wp2_with fail
                exact ⟨⟨k + 1, by omega, by rw [HK.out], by rw [HK.out], by go_num, Lib.hid (HBQ.out _)⟩, by simp [intOf]; omega⟩
          · have hqs' : (s.size : Int) ≤ (q : Int) := by omega
            have HZ := Lib.hid (comm_endR b s p q (by omega))
            have HE : Hid (comm (b.data.toList.drop k) (s.data.toList.drop at') = n) := by unfold Hid; rw [HC.out, HZ.out]; rfl
            clear HC HPQ
            have HBQ := Lib.hid (fun m => HB.out.trans ((below_drewN wr m).mono HB.out.size))
            by_cases h8 : 8 ≤ n
            · have h8' : (8 : Int) ≤ (n : Int) := by omega
              by_cases hm : (bestK b.data.toList (s.data.toList.drop at') k).1 < n
              · have HK := Lib.hid (bestK_yes HE.out h8 hm)
                generalize (bestK b.data.toList (s.data.toList.drop at') k) = r at *
                have hm' : (r.1 : Int) < (n : Int) := by omega
                go_wp2_with fail
                go_quiet (fail)
                go_wp2_with fail
                exact ⟨⟨k + 1, by omega, by rw [HK.out], by rw [HK.out], by go_num, Lib.hid (HBQ.out _)⟩, by simp [intOf]; omega⟩
              · have HK := Lib.hid (bestK_no HE.out (fun h => hm h.2))
                generalize (bestK b.data.toList (s.data.toList.drop at') k) = r at *
                have hm' : (n : Int) ≤ (r.1 : Int) := by omega
                go_wp2_with fail
                go_quiet (fail)
                go_wp2_with fail
                exact ⟨⟨k + 1, by omega, by rw [HK.out], by rw [HK.out], by go_num, Lib.hid (HBQ.out _)⟩, by simp [intOf]; omega⟩
            · have h8' : (n : Int) < 8 := by omega
              have HK := Lib.hid (bestK_no HE.out (fun h => h8 h.1))
              generalize (bestK b.data.toList (s.data.toList.drop at') k) = r at *
              go_wp2_with fail
              go_quiet (fail)
              go_wp2_with fail
              exact ⟨⟨k + 1, by omega, by rw [HK.out], by rw [HK.out], by go_num, Lib.hid (HBQ.out _)⟩, by simp [intOf]; omega⟩
        · have hpb' : (b.size : Int) ≤ (p : Int) := by omega
          have HZ := Lib.hid (comm_endL b s p q (by omega))
          have HE : Hid (comm (b.data.toList.drop k) (s.data.toList.drop at') = n) := by unfold Hid; rw [HC.out, HZ.out]; rfl
          clear HC HPQ
          have HBQ := Lib.hid (fun m => HB.out.trans ((below_drewN wr m).mono HB.out.size))
          by_cases h8 : 8 ≤ n
          · have h8' : (8 : Int) ≤ (n : Int) := by omega
            by_cases hm : (bestK b.data.toList (s.data.toList.drop at') k).1 < n
            · have HK := Lib.hid (bestK_yes HE.out h8 hm)
              generalize (bestK b.data.toList (s.data.toList.drop at') k) = r at *
              have hm' : (r.1 : Int) < (n : Int) := by omega
              go_wp2_with fail
              go_quiet (fail)
              go_wp2_with fail
              exact ⟨⟨k + 1, by omega, by rw [HK.out], by rw [HK.out], by go_num, Lib.hid (HBQ.out _)⟩, by simp [intOf]; omega⟩
            · have HK := Lib.hid (bestK_no HE.out (fun h => hm h.2))
              generalize (bestK b.data.toList (s.data.toList.drop at') k) = r at *
              have hm' : (n : Int) ≤ (r.1 : Int) := by omega
              go_wp2_with fail
              go_quiet (fail)
              go_wp2_with fail
              exact ⟨⟨k + 1, by omega, by rw [HK.out], by rw [HK.out], by go_num, Lib.hid (HBQ.out _)⟩, by simp [intOf]; omega⟩
          · have h8' : (n : Int) < 8 := by omega
            have HK := Lib.hid (bestK_no HE.out (fun h => h8 h.1))
            generalize (bestK b.data.toList (s.data.toList.drop at') k) = r at *
            go_wp2_with fail
            go_quiet (fail)
            go_wp2_with fail
            exact ⟨⟨k + 1, by omega, by rw [HK.out], by rw [HK.out], by go_num, Lib.hid (HBQ.out _)⟩, by simp [intOf]; omega⟩
    · go_wp2_with fail
      obtain rfl : k = b.size := by omega
      go_ret2
      exact ⟨by unfold bestD; rw [Array.length_toList]; rfl, HB.out⟩
end Go.Proofs.Ytlkpgefapcfdbaa
