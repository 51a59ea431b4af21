/- The law's small functions: in, Texts, brief. -/
import Derived.Test.YtlikmdmdmljiaaaDoorRetRow
import Derived.Deep.QuietTactic
import Derived.BigQuiet
namespace Go.Proofs.YtlikmdmdmljiaaaDoor
open Go.RowKit
set_option linter.unusedVariables false
set_option linter.unusedSimpArgs false
def sameB (a b : List ByteArray) : Bool := decide (a = b)
theorem sameB_self (a : List ByteArray) : sameB a a = true := by simp [sameB]
theorem str_beq_ne {a b : ByteArray} (h : a ≠ b) : (a.toList == b.toList) = false := by
  rw [beq_eq_false_iff_ne, ByteArray.toList_eq, ByteArray.toList_eq]
  intro e
  exact h (ByteArray.ext (Array.toList_inj.1 e))
theorem str_beq_self (a : ByteArray) : (a.toList == a.toList) = true := by simp
set_option maxRecDepth 20000 in
set_option maxHeartbeats 1000000 in
theorem same_any (w : World) (va vb : Value) (la lb : List ByteArray) (ha : StrsB w va la) (hb : StrsB w vb lb) :
    Calls Tryd.prog 22 #[va, vb] w fun e w' => e = .returned (.bool (sameB la lb)) ∧ ∃ n, w' = w.drewN n := by
  by_cases hl : la.length = lb.length
  · by_cases h0 : la.length = 0
    · have h0' : lb.length = 0 := by omega
      have ea := List.length_eq_zero_iff.1 h0
      have eb := List.length_eq_zero_iff.1 h0'
      subst ea; subst eb
      have HS : Hid (sameB [] [] = true) := sameB_self _
      obtain ⟨A, c, rfl, hc⟩ := ha.nil
      obtain ⟨A', c', rfl, hc'⟩ := hb.nil
      clear hl h0 h0' ha hb
      go_enter Tryd.func22, Tryd.ntmps22
      go_wp2
      refine wp_loop_rounds 1 ?_
      rw [rounds_succ]
      go_wp2
      go_ret
      exact ⟨by rw [HS.out]; rfl, 0, rfl⟩
    · obtain ⟨b, off, c, rfl, hc1, hc2, hlt, hca⟩ := ha.at (by omega)
      obtain ⟨b', off', c', rfl, hc1', hc2', hlt', hcb⟩ := hb.at (by omega)
      have HA := Lib.hid hca; clear hca
      have HB := Lib.hid hcb; clear hcb
      have hz : ((la.length : Int) != (lb.length : Int)) = false := by rw [bne_eq_false_iff_eq]; omega
      have HL := Lib.hid hl
      have hl1 : la.length ≤ lb.length := by omega
      have hl2 : lb.length ≤ la.length := by omega
      clear ha hb h0 hl
      have hm : la.length ≤ 9223372036854775807 := by unfold maxLen at hc2; omega
      clear hc1 hc2 hc1' hc2'
      go_enter Tryd.func22, Tryd.ntmps22
      go_wp2
      go_loopw [5] (fun i wr => ∃ k : Nat, k ≤ la.length ∧ i = .int .i64 k ∧ Hid (la.take k = lb.take k) ∧ Hid (∃ m, wr = w.drewN m)) (fun i _ => la.length - (intOf i).toNat)
      case atStart => exact ⟨0, Nat.zero_le _, rfl, rfl, 0, rfl⟩
      case round =>
        obtain ⟨k, hk, rfl, HT, HW⟩ := hrel
        by_cases hlt2 : k < la.length
        · have hlt3 : k < lb.length := by omega
          have e1 : wr.cell? ⟨b, off + k, none⟩ = some (.string la[k]) := by obtain ⟨m, rfl⟩ := HW.out; exact HA.out k hlt2
          have e2 : wr.cell? ⟨b', off' + k, none⟩ = some (.string lb[k]) := by obtain ⟨m, rfl⟩ := HW.out; exact HB.out k hlt3
          by_cases hq : la[k] = lb[k]
          · have HT2 : Hid (la.take (k + 1) = lb.take (k + 1)) := by
              unfold Hid; rw [take_succ_list _ _ hlt2, take_succ_list _ _ hlt3, HT.out, hq]
            rw [← hq] at e2
            have hs := str_beq_self la[k]
            generalize la[k] = x at *
            clear hq
            go_wp2_with fail
            go_quiet (fail)
            go_wp2_with fail
            go_roundw
            case rel => exact ⟨k + 1, by omega, by go_num, HT2, by obtain ⟨m, rfl⟩ := HW.out; exact ⟨_, World.drewN_drewN _ _ _⟩⟩
            case measure => simp [intOf]; omega
          · have HS : Hid (sameB la lb = false) := by
              unfold Hid sameB; rw [decide_eq_false_iff_not]; intro e; exact hq (by subst e; rfl)
            have hs := str_beq_ne hq
            generalize la[k] = x at *
            generalize lb[k] = y at *
            clear hq
            go_wp2_with fail
            go_quiet (fail)
            go_wp2_with fail
            go_ret
            exact ⟨by rw [HS.out]; rfl, by obtain ⟨m, rfl⟩ := HW.out; exact ⟨_, World.drewN_drewN _ _ _⟩⟩
        · have HS : Hid (sameB la lb = true) := by
            unfold Hid sameB
            rw [decide_eq_true_iff]
            have h := HT.out
            rw [List.take_of_length_le (by omega), List.take_of_length_le (by omega)] at h
            exact h
          go_wp2_with fail
          go_ret
          exact ⟨by rw [HS.out]; rfl, HW.out⟩
  · have HS : Hid (sameB la lb = false) := by
      unfold Hid sameB; rw [decide_eq_false_iff_not]; intro e; exact hl (by rw [e])
    obtain ⟨A, c, rfl, hc1, hc2⟩ := ha.len
    obtain ⟨A', c', rfl, hc1', hc2'⟩ := hb.len
    have hz : ((la.length : Int) != (lb.length : Int)) = true := by rw [bne_iff_ne]; omega
    clear ha hb hl
    go_enter Tryd.func22, Tryd.ntmps22
    go_wp2
    go_ret
    exact ⟨by rw [HS.out]; rfl, 0, rfl⟩
theorem texts_any (w : World) (va vb : Value) (la lb : List ByteArray) (ha : StrsB w va la) (hb : StrsB w vb lb) :
    Calls Tryd.prog 11 #[va, vb] w fun e w' => e = .returned (.bool (sameB la lb)) ∧ Below w.heap.size w w' := by
  have HS := Lib.hid (same_any w va vb la lb ha hb)
  obtain ⟨A, c, rfl, _, _⟩ := ha.len
  obtain ⟨A', c', rfl, _, _⟩ := hb.len
  clear ha hb
  go_enter Tryd.func11, Tryd.ntmps11
  go_wp2_with fail
  refine HS.out.mono ?_
  rintro e w' ⟨rfl, n, rfl⟩
  go_wp2
  go_ret
  exact ⟨rfl, Below.drewN (Below.refl _ _) _⟩
def inB (l : List ByteArray) (s : ByteArray) : Bool := l.any fun x => decide (x = s)
theorem inB_iff (l : List ByteArray) (s : ByteArray) : inB l s = true ↔ s ∈ l := by
  unfold inB
  rw [List.any_eq_true]
  constructor
  · rintro ⟨x, hx, h⟩; rw [← of_decide_eq_true h]; exact hx
  · intro h; exact ⟨s, h, by simp⟩
theorem inB_not (l : List ByteArray) (s : ByteArray) : inB l s = false ↔ ¬ s ∈ l := by
  rw [← inB_iff]; cases inB l s <;> simp
theorem inB_of_take {l : List ByteArray} {s : ByteArray} {j : Nat} (hj : j < l.length) (h : l[j] = s) : inB l s = true := by
  rw [inB_iff, ← h]; exact List.getElem_mem hj
set_option maxRecDepth 20000 in
set_option maxHeartbeats 1000000 in
theorem in_any (w : World) (v : Value) (l : List ByteArray) (s : ByteArray) (hv : StrsB w v l) :
    Calls Tryd.prog 10 #[v, .string s] w fun e w' => e = .returned (.bool (inB l s)) ∧ w = w' := by
  obtain ⟨A, c, rfl, h2, h3, h4⟩ := hv
  have hc9 : c ≤ 9223372036854775807 := by unfold maxLen at h3; omega
  have HC := Lib.hid h4
  obtain ⟨n, hn⟩ : ∃ n, n = l.length := ⟨_, rfl⟩
  have HN := Lib.hid hn
  rw [← hn] at h2 ⊢
  clear h3 h4 hn
  go_enter Tryd.func10, Tryd.ntmps10
  go_wp2_with fail
  go_loopw [6, 9] (fun u i wr => ∃ j : Nat, j ≤ n ∧ i = .int .i64 j ∧ Hid (∀ (k : Nat) (x : ByteArray), k < j → l[k]? = some x → x ≠ s) ∧ Hid (w = wr)) (fun _ i _ => n - (intOf i).toNat)
  case atStart => exact ⟨0, Nat.zero_le _, rfl, fun k x hk => absurd hk (Nat.not_lt_zero _), rfl⟩
  case round =>
    obtain ⟨j, hj, rfl, HX, HW⟩ := hrel
    obtain rfl := HW.out
    by_cases hlt : j < n
    · have hlt' : (j : Int) < (n : Int) := by omega
      have hjl : j < l.length := by rw [← HN.out]; exact hlt
      obtain ⟨b0, off, rfl, hb0, hc⟩ := HC.out (by omega)
      have e1 := hc j hjl
      rw [List.getElem?_eq_getElem hjl, Option.map_some] at e1
      clear hc
      by_cases hq : l[j] = s
      · have HI : Hid (inB l s = true) := inB_of_take hjl hq
        rw [hq] at e1
        have hs := str_beq_self s
        clear hq
        go_wp2_with fail
        go_ret
        exact ⟨by rw [HI.out]; rfl, rfl⟩
      · have HX2 : Hid (∀ (k : Nat) (x : ByteArray), k < j + 1 → l[k]? = some x → x ≠ s) := by
          intro k x hk hx
          rcases (show k < j ∨ k = j by omega) with h | rfl
          · exact HX.out k x h hx
          · rw [List.getElem?_eq_getElem hjl] at hx; cases hx; exact hq
        have hs := str_beq_ne hq
        clear hq
        generalize l[j] = y at *
        go_wp2_with fail
        go_roundw
        case rel => exact ⟨j + 1, by omega, by go_num, HX2, Lib.hid trivial⟩
        case measure => simp [intOf]; omega
    · obtain rfl : j = n := by omega
      have HI : Hid (inB l s = false) := by
        unfold Hid
        rw [inB_not]
        intro h
        obtain ⟨k, hk, e⟩ := List.getElem_of_mem h
        exact HX.out k _ (by rw [HN.out]; exact hk) (List.getElem?_eq_getElem hk) e
      go_wp2_with fail
      go_ret
      exact ⟨by rw [HI.out]; rfl, rfl⟩
def briefB (l : List Mk) : Bool := decide (l.length ≤ 40) && l.all fun x => decide (x.1.size ≤ 100)
set_option maxRecDepth 20000 in
set_option maxHeartbeats 1000000 in
theorem brief_any (w : World) (v : Value) (l : List Mk) (hv : MkN w v l) :
    Calls Tryd.prog 6 #[v] w fun e w' => e = .returned (.bool (briefB l)) ∧ Below w.heap.size w w' := by
  obtain ⟨⟨A, c, rfl, h2, h3, h4⟩, _⟩ := hv
  have hc9 : c ≤ 9223372036854775807 := by unfold maxLen at h3; omega
  have HC := Lib.hid h4
  obtain ⟨n, hn⟩ : ∃ n, n = l.length := ⟨_, rfl⟩
  have HN := Lib.hid hn
  rw [← hn] at h2 ⊢
  clear h3 h4
  by_cases h40 : n ≤ 40
  · have d0 : decide ((40 : Int) < (n : Int)) = false := by rw [decide_eq_false_iff_not]; omega
    have d0' : decide (40 < n) = false := by rw [decide_eq_false_iff_not]; omega
    have HB : Hid (briefB l = l.all fun x => decide (x.1.size ≤ 100)) := by unfold Hid briefB; rw [← hn]; simp [h40]
    clear hn
    go_enter Tryd.func6, Tryd.ntmps6
    go_wp2_with fail
    go_loopw [4, 10] (fun u i wr => ∃ j : Nat, j ≤ n ∧ i = .int .i64 j ∧ Hid (∀ (k : Nat) (x : Mk), k < j → l[k]? = some x → x.1.size ≤ 100) ∧ Hid (Below w.heap.size w wr)) (fun _ i _ => n - (intOf i).toNat)
    case atStart => exact ⟨0, Nat.zero_le _, rfl, fun k x hk => absurd hk (Nat.not_lt_zero _), Below.refl _ _⟩
    case round =>
      obtain ⟨j, hj, rfl, HX, HW⟩ := hrel
      by_cases hlt : j < n
      · have hlt' : (j : Int) < (n : Int) := by omega
        have hjl : j < l.length := by rw [← HN.out]; exact hlt
        obtain ⟨b0, off, rfl, hb0, hc⟩ := HC.out (by omega)
        obtain ⟨e1, e2⟩ := hc j hjl
        have y1 := (HW.out.cell (p := ⟨b0, off + j * 2, none⟩) hb0).trans e1
        have y2 := (HW.out.cell (p := ⟨b0, off + j * 2 + 1, none⟩) hb0).trans e2
        have HW2 : Hid (Below w.heap.size w (wr.alloc (.cells #[.string l[j].1, .int .i64 l[j].2] 29))) := HW.out.alloc HW.out.size _
        clear hc e1 e2
        by_cases hz : l[j].1.size ≤ 100
        · have HX2 : Hid (∀ (k : Nat) (x : Mk), k < j + 1 → l[k]? = some x → x.1.size ≤ 100) := by
            intro k x hk hx
            rcases (show k < j ∨ k = j by omega) with h | rfl
            · exact HX.out k x h hx
            · rw [List.getElem?_eq_getElem hjl] at hx; cases hx; exact hz
          have d1 : decide ((100 : Int) < (l[j].1.size : Int)) = false := by rw [decide_eq_false_iff_not]; omega
          have d2 : decide (100 < l[j].1.size) = false := by rw [decide_eq_false_iff_not]; omega
          generalize l[j].1 = k at *
          generalize l[j].2 = y at *
          go_wp2_with fail
          go_roundw
          case rel => exact ⟨j + 1, by omega, by go_num, HX2, HW2⟩
          case measure => simp [intOf]; omega
        · have HI : Hid (briefB l = false) := by
            unfold Hid
            rw [HB.out, List.all_eq_false]
            exact ⟨l[j], List.getElem_mem hjl, by simpa using hz⟩
          have d1 : decide ((100 : Int) < (l[j].1.size : Int)) = true := by rw [decide_eq_true_iff]; omega
          have d2 : decide (100 < l[j].1.size) = true := by rw [decide_eq_true_iff]; omega
          generalize l[j].1 = k at *
          generalize l[j].2 = y at *
          go_wp2_with fail
          go_ret
          exact ⟨by rw [HI.out]; rfl, HW2.out⟩
      · obtain rfl : j = n := by omega
        have HI : Hid (briefB l = true) := by
          unfold Hid
          rw [HB.out, List.all_eq_true]
          intro x hx
          obtain ⟨k, hk, e⟩ := List.getElem_of_mem hx
          exact decide_eq_true (HX.out k x (by rw [HN.out]; exact hk) (by rw [List.getElem?_eq_getElem hk, e]))
        go_wp2_with fail
        go_ret
        exact ⟨by rw [HI.out]; rfl, HW.out⟩
  · have d0 : decide ((40 : Int) < (n : Int)) = true := by rw [decide_eq_true_iff]; omega
    have d0' : decide (40 < n) = true := by rw [decide_eq_true_iff]; omega
    have HB : Hid (briefB l = false) := by unfold Hid briefB; rw [← hn]; simp [h40]
    clear hn
    go_enter Tryd.func6, Tryd.ntmps6
    go_wp2_with fail
    go_ret
    exact ⟨by rw [HB.out]; rfl, Below.refl _ _⟩
end Go.Proofs.YtlikmdmdmljiaaaDoor
