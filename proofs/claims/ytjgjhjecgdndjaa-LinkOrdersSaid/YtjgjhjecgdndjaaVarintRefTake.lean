/- The reference's Take: its walk. -/
import Derived.Test.YtjgjhjecgdndjaaVarintSpec
import Derived.Test.YtjgjhjecgdndjaaWords
import Derived.Test.YtjgjhjecgdndjaaProg
import Derived.WalkKit
import Derived.WalkSpells
import Derived.WalkLawsBesides
import Derived.Lib.Hide
import Derived.IntWalk
namespace Go.Proofs.Ytjgjhjecgdndjaa
open Go.RowKit
set_option linter.unusedVariables false
theorem drop_consB (s : ByteArray) (k : Nat) (h : k < s.size) : s.data.toList.drop k = s[k] :: s.data.toList.drop (k + 1) := by
  rw [List.drop_eq_getElem_cons (by simpa using h)]; rfl
theorem ret3 {a a' : Int} {b b' c c' : Int} (h1 : a = a') (h2 : b = b') (h3 : c = c') : Ending.returned (.tuple #[.int .u64 a, .int .i64 b, .int .i64 c]) = Ending.returned (.tuple #[.int .u64 a', .int .i64 b', .int .i64 c']) := by rw [h1, h2, h3]
theorem vAddShl (pre : List UInt8) (x : UInt8) (hl : pre.length ≤ 9) (h : pre.length = 9 → x.toNat % 128 ≤ 1) :
    (vNum pre : Int) + (x.toNat : Int) % 128 * 2 ^ (7 * pre.length) = (vNum (pre ++ [x]) : Int) ∧ vNum (pre ++ [x]) < 18446744073709551616 ∧ (x.toNat : Int) % 128 * 2 ^ (7 * pre.length) < 18446744073709551616 := by
  have hm : x.toNat % 128 < 128 := Nat.mod_lt _ (by decide)
  have hn := vNum_lt pre
  have e1 : (x.toNat : Int) % 128 * 2 ^ (7 * pre.length) = ((x.toNat % 128 * 2 ^ (7 * pre.length) : Nat) : Int) := by simp
  rw [e1, vNum_snoc]
  have hlt : vNum pre + x.toNat % 128 * 2 ^ (7 * pre.length) < 18446744073709551616 := by
    rcases Nat.lt_or_ge pre.length 9 with hh9 | hh9
    · have h2 : 2 ^ (7 * pre.length) ≤ 2 ^ 56 := Nat.pow_le_pow_right (by decide) (by omega)
      have h3 : x.toNat % 128 * 2 ^ (7 * pre.length) ≤ 127 * 2 ^ 56 := Nat.mul_le_mul (by omega) h2
      omega
    · have e : pre.length = 9 := by omega
      have := h e
      rw [e] at hn ⊢
      have h3 : x.toNat % 128 * 2 ^ (7 * 9) ≤ 1 * 2 ^ 63 := Nat.mul_le_mul this (Nat.le_refl _)
      omega
  exact ⟨by omega, hlt, by omega⟩
theorem vWrap (s : ByteArray) (k : Nat) (hlt : k < s.size) (hk : k ≤ 9) (h : k = 9 → s[k].toNat % 128 ≤ 1) :
    IntKind.u64.wrap ((vNum (s.data.toList.take k) : Int) + IntKind.u64.wrap ((s[k].toNat : Int) % 128 * 2 ^ (7 * k))) = (vNum (s.data.toList.take k ++ [s[k]]) : Int) := by
  have hlen : (s.data.toList.take k).length = k := by rw [List.length_take]; simp; omega
  obtain ⟨h1, h2, h3⟩ := vAddShl (s.data.toList.take k) s[k] (by omega) (by rw [hlen]; exact h)
  rw [hlen] at h1 h3
  have e1 : (s[k].toNat : Int) % 128 * 2 ^ (7 * k) = ((s[k].toNat % 128 * 2 ^ (7 * k) : Nat) : Int) := by simp
  rw [e1] at h1 h3 ⊢
  generalize s[k].toNat % 128 * 2 ^ (7 * k) = q at *
  generalize vNum (s.data.toList.take k ++ [s[k]]) = r at *
  generalize vNum (s.data.toList.take k) = v at *
  rw [IntKind.wrap_u64, IntKind.wrap_u64]
  omega
/-- what the walk leaves at the end, and what it leaves for the next round: packed, so that the walk doesn't turn them -/
def VPacked (s : ByteArray) (k : Nat) (x : Int) : Prop := Ending.returned (.tuple #[.int .u64 x, .int .i64 ((k : Int) + 1), .int .i64 0]) = Ending.returned (.tuple #[.int .u64 ((vTake s.data.toList).1 : Nat), .int .i64 ((vTake s.data.toList).2.1 : Nat), .int .i64 ((vTake s.data.toList).2.2 : Nat)])
theorem vPacked (s : ByteArray) (k : Nat) {c : UInt8} {x : Int} (h1 : x = (vNum (s.data.toList.take k ++ [c]) : Int)) (h2 : vTake s.data.toList = (vNum (s.data.toList.take k ++ [c]), k + 1, 0)) : VPacked s k x := by
  unfold VPacked; rw [h1, h2]; rfl
/-- the relation at the next round's head -/
def VNext (s : ByteArray) (k : Nat) (x : Int) : Prop := vHigh (s.data.toList.take (k + 1)) ∧ vTake s.data.toList = vGo (s.data.toList.take (k + 1)) (s.data.toList.drop (k + 1)) ∧ x = (vNum (s.data.toList.take (k + 1)) : Int)
theorem vNext (s : ByteArray) (k : Nat) (hlt : k < s.size) {x : Int} (hx : x = (vNum (s.data.toList.take k ++ [s[k]]) : Int)) (hh : vHigh (s.data.toList.take k)) (hv : vTake s.data.toList = vGo (s.data.toList.take k) (s.data.toList.drop k)) (h128 : 128 ≤ s[k].toNat) (hk : k < 9) : VNext s k x := by
  have hlen : (s.data.toList.take k).length = k := by rw [List.length_take]; simp; omega
  have hT := take_snoc s k hlt
  refine ⟨by rw [hT]; exact vHigh_snoc hh h128, ?_, by rw [hx, hT]⟩
  rw [hv, drop_consB s k hlt, vGo, if_neg (by unfold vEnds; omega), hT]
set_option maxRecDepth 100000 in
set_option maxHeartbeats 1000000 in
theorem refTake_any (s : ByteArray) (hs : s.size ≤ maxLen) (w : World) :
    Calls Try.prog 22 #[.string s] w fun e w' => e = .returned (.tuple #[.int .u64 ((vTake s.data.toList).1 : Nat), .int .i64 ((vTake s.data.toList).2.1 : Nat), .int .i64 ((vTake s.data.toList).2.2 : Nat)]) ∧ w = w' := by
  unfold maxLen at hs
  go_enter Try.func22, Try.ntmps22
  go_wp2
  go_loop [5, 6, 7] (fun n i _ => ∃ k : Nat, k ≤ 9 ∧ k ≤ s.size ∧ i = .int .i64 k ∧ n = .int .u64 (vNum (s.data.toList.take k) : Nat) ∧ Hid (vHigh (s.data.toList.take k)) ∧ Hid (vTake s.data.toList = vGo (s.data.toList.take k) (s.data.toList.drop k))) (fun _ i _ => 10 - (intOf i).toNat)
  case atStart => exact ⟨0, by omega, Nat.zero_le _, rfl, rfl, by intro x hx; simp at hx, by simp [Hid, vTake]⟩
  case round =>
    obtain ⟨k, hk9, hks, rfl, rfl, HH, HV⟩ := hrel
    have hk : k ≤ 10 := by omega
    · by_cases hlt : k < s.size
      · have hlen : (s.data.toList.take k).length = k := by rw [List.length_take]; simp; omega
        have HD := Lib.hid (drop_consB s k hlt)
        have HT := Lib.hid (take_snoc s k hlt)
        have hx := s[k].toNat_lt
        by_cases h9 : k = 9 ∧ 1 < s[k].toNat
        · have e9 : ((k : Int) == 9) = true := by rw [h9.1]; rfl
          have h1' : (1 : Int) < (s[k].toNat : Int) := by omega
          have HR : Hid (vTake s.data.toList = (0, 0, 4)) := by
            unfold Hid
            rw [HV.out, HD.out, vGo, if_pos (.inl ⟨by omega, h9.2⟩), vOut, if_pos ⟨by omega, h9.2⟩]
          clear h9 hlen HD HT HH HV
          go_wp2
          go_ret3
          exact ⟨by rw [HR.out]; rfl, rfl⟩
        · have HX : Hid (k = 9 → s[k].toNat % 128 ≤ 1) := fun h => by omega
          have HW := Lib.hid (vWrap s k hlt hk9 HX.out)
          have HW2 : Hid (vHigh (s.data.toList.take k) → 128 ≤ s[k].toNat → vHigh (s.data.toList.take (k + 1))) := by
            intro h1 h2; rw [HT.out]; exact vHigh_snoc h1 h2
          by_cases h128 : s[k].toNat < 128
          · by_cases h0 : s[k].toNat = 0
            · have hz : ((s[k].toNat : Int) == 0) = true := by rw [h0]; rfl
              have h128' : (s[k].toNat : Int) < 128 := by omega
              have hn1 : ¬ (1 : Int) < (s[k].toNat : Int) := by omega
              by_cases hp : k = 0
              · have HR : Hid (vTake s.data.toList = (vNum (s.data.toList.take k ++ [s[k]]), k + 1, 0)) := by
                  unfold Hid
                  rw [HV.out, HD.out, vGo, if_pos (.inr h128), vOut, if_neg (by omega), if_neg (by omega), hlen]
                have hk0 : ¬ (0 : Int) < (k : Int) := by omega
                have HP := vPacked s k HW.out HR.out
                clear hlen HD HT HH HV h9 h128 HX HW HW2 h0 hp HR
                go_wp2
                all_goals
                  go_ret3
                  exact ⟨HP, rfl⟩
              · have HR : Hid (vTake s.data.toList = (0, 0, 2)) := by
                  unfold Hid
                  rw [HV.out, HD.out, vGo, if_pos (.inr h128), vOut, if_neg (by omega), if_pos ⟨h0, by omega⟩]
                have hk0 : (0 : Int) < (k : Int) := by omega
                clear hlen HD HT HH HV h9 h128 HX HW HW2 h0 hp
                go_wp2
                all_goals
                  go_ret3
                  exact ⟨by rw [HR.out]; rfl, rfl⟩
            · have hz : ((s[k].toNat : Int) == 0) = false := by simp; omega
              have h128' : (s[k].toNat : Int) < 128 := by omega
              have HR : Hid (vTake s.data.toList = (vNum (s.data.toList.take k ++ [s[k]]), k + 1, 0)) := by
                unfold Hid
                rw [HV.out, HD.out, vGo, if_pos (.inr h128), vOut, if_neg (by omega), if_neg (by omega), hlen]
              have HP := vPacked s k HW.out HR.out
              by_cases hk9' : k = 9
              · have e9 : ((k : Int) == 9) = true := by rw [hk9']; rfl
                have hn1 : ¬ (1 : Int) < (s[k].toNat : Int) := by omega
                clear hlen HD HT HH HV h9 h128 HX HW HW2 h0 HR hk9'
                go_wp2
                all_goals
                  go_ret3
                  exact ⟨HP, rfl⟩
              · have e9 : ((k : Int) == 9) = false := by simp; omega
                clear hlen HD HT HH HV h9 h128 HX HW HW2 h0 HR hk9'
                go_wp2
                all_goals
                  go_ret3
                  exact ⟨HP, rfl⟩
          · have e9 : ((k : Int) == 9) = false := by simp; omega
            have h128' : (128 : Int) ≤ (s[k].toNat : Int) := by omega
            have hk8 : k < 9 := by omega
            have HG := vNext s k hlt HW.out HH.out HV.out (by omega) (by omega)
            clear hlen HD HT HH HV h9 h128 HX HW HW2
            go_wp2
            go_round
            case rel => exact ⟨k + 1, by omega, by omega, by go_num, by rw [HG.2.2], HG.1, HG.2.1⟩
            case measure => simp [intOf]; omega
      · have HR : Hid (vTake s.data.toList = (0, 0, 1)) := by
          unfold Hid
          rw [HV.out, List.drop_of_length_le (by simp; omega)]; rfl
        clear HV HH
        go_wp2
        go_ret3
        exact ⟨by rw [HR.out]; rfl, rfl⟩

end Go.Proofs.Ytjgjhjecgdndjaa
