/- siloref05.Same: its walk. -/
import Derived.Test.YtjbnkheghafgoaaStrs
import Derived.Deep.QuietTactic
import Derived.BigQuiet
namespace Go.Proofs.Ytjbnkheghafgoaa
open Go.RowKit
set_option linter.unusedVariables false
def sameB (a b : List ByteArray) : Bool := decide (a = b)
theorem sameB_self (a : List ByteArray) : sameB a a = true := by simp [sameB]
theorem str_beq_ne {a b : ByteArray} (h : a ≠ b) : (a.toList == b.toList) = false := by
  rw [beq_eq_false_iff_ne, ByteArray.toList_eq, ByteArray.toList_eq]
  intro e
  exact h (ByteArray.ext (Array.toList_inj.1 e))
theorem str_beq_self (a : ByteArray) : (a.toList == a.toList) = true := by simp
set_option maxRecDepth 20000 in
set_option maxHeartbeats 1000000 in
theorem same_any (w : World) (va vb : Value) (la lb : List ByteArray) (ha : StrsB w va la) (hb : StrsB w vb lb) :
    Calls Try.prog 15 #[va, vb] w fun e w' => e = .returned (.bool (sameB la lb)) ∧ ∃ n, w' = w.drewN n := by
  by_cases hl : la.length = lb.length
  · by_cases h0 : la.length = 0
    · have h0' : lb.length = 0 := by omega
      have ea := List.length_eq_zero_iff.1 h0
      have eb := List.length_eq_zero_iff.1 h0'
      subst ea; subst eb
      have HS : Hid (sameB [] [] = true) := sameB_self _
      obtain ⟨A, c, rfl, hc⟩ := ha.nil
      obtain ⟨A', c', rfl, hc'⟩ := hb.nil
      clear hl h0 h0' ha hb
      go_enter Try.func15, Try.ntmps15
      go_wp2
      refine wp_loop_rounds 1 ?_
      rw [rounds_succ]
      go_wp2
      go_ret
      exact ⟨by rw [HS.out]; rfl, 0, rfl⟩
    · obtain ⟨b, off, c, rfl, hc1, hc2, hlt, hca⟩ := ha.at (by omega)
      obtain ⟨b', off', c', rfl, hc1', hc2', hlt', hcb⟩ := hb.at (by omega)
      have HA := Lib.hid hca; clear hca
      have HB := Lib.hid hcb; clear hcb
      have hz : ((la.length : Int) != (lb.length : Int)) = false := by rw [bne_eq_false_iff_eq]; omega
      have HL := Lib.hid hl
      have hl1 : la.length ≤ lb.length := by omega
      have hl2 : lb.length ≤ la.length := by omega
      clear ha hb h0 hl
      have hm : la.length ≤ 9223372036854775807 := by unfold maxLen at hc2; omega
      clear hc1 hc2 hc1' hc2'
      go_enter Try.func15, Try.ntmps15
      go_wp2
      go_loopw [5] (fun i wr => ∃ k : Nat, k ≤ la.length ∧ i = .int .i64 k ∧ Hid (la.take k = lb.take k) ∧ Hid (∃ m, wr = w.drewN m)) (fun i _ => la.length - (intOf i).toNat)
      case atStart => exact ⟨0, Nat.zero_le _, rfl, rfl, 0, rfl⟩
      case round =>
        obtain ⟨k, hk, rfl, HT, HW⟩ := hrel
        by_cases hlt2 : k < la.length
        · have hlt3 : k < lb.length := by omega
          have e1 : wr.cell? ⟨b, off + k, none⟩ = some (.string la[k]) := by obtain ⟨m, rfl⟩ := HW.out; exact HA.out k hlt2
          have e2 : wr.cell? ⟨b', off' + k, none⟩ = some (.string lb[k]) := by obtain ⟨m, rfl⟩ := HW.out; exact HB.out k hlt3
          by_cases hq : la[k] = lb[k]
          · have HT2 : Hid (la.take (k + 1) = lb.take (k + 1)) := by
              unfold Hid; rw [take_succ_list _ _ hlt2, take_succ_list _ _ hlt3, HT.out, hq]
            rw [← hq] at e2
            have hs := str_beq_self la[k]
            generalize la[k] = x at *
            clear hq
            go_wp2_with fail
            go_quiet (fail)
            go_wp2_with fail
            go_roundw
            case rel => exact ⟨k + 1, by omega, by go_num, HT2, by obtain ⟨m, rfl⟩ := HW.out; exact ⟨_, World.drewN_drewN _ _ _⟩⟩
            case measure => simp [intOf]; omega
          · have HS : Hid (sameB la lb = false) := by
              unfold Hid sameB; rw [decide_eq_false_iff_not]; intro e; exact hq (by subst e; rfl)
            have hs := str_beq_ne hq
            generalize la[k] = x at *
            generalize lb[k] = y at *
            clear hq
            go_wp2_with fail
            go_quiet (fail)
            go_wp2_with fail
            go_ret
            exact ⟨by rw [HS.out]; rfl, by obtain ⟨m, rfl⟩ := HW.out; exact ⟨_, World.drewN_drewN _ _ _⟩⟩
        · have HS : Hid (sameB la lb = true) := by
            unfold Hid sameB
            rw [decide_eq_true_iff]
            have h := HT.out
            rw [List.take_of_length_le (by omega), List.take_of_length_le (by omega)] at h
            exact h
          go_wp2_with fail
          go_ret
          exact ⟨by rw [HS.out]; rfl, HW.out⟩
  · have HS : Hid (sameB la lb = false) := by
      unfold Hid sameB; rw [decide_eq_false_iff_not]; intro e; exact hl (by rw [e])
    obtain ⟨A, c, rfl, hc1, hc2⟩ := ha.len
    obtain ⟨A', c', rfl, hc1', hc2'⟩ := hb.len
    have hz : ((la.length : Int) != (lb.length : Int)) = true := by rw [bne_iff_ne]; omega
    clear ha hb hl
    go_enter Try.func15, Try.ntmps15
    go_wp2
    go_ret
    exact ⟨by rw [HS.out]; rfl, 0, rfl⟩
end Go.Proofs.Ytjbnkheghafgoaa
