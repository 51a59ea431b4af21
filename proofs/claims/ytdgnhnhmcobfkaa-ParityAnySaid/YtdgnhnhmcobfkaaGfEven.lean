/- few, even, width of rows, of both packages: walks. -/
import Derived.Test.YtdgnhnhmcobfkaaGfRow
import Derived.Test.YtdgnhnhmcobfkaaGfDot
import Derived.Test.YtdgnhnhmcobfkaaStrsPush
import Derived.Deep.QuietTactic
import Derived.BigQuiet
namespace Go.Proofs.Ytdgnhnhmcobfkaa
open Go.RowKit
set_option linter.unusedVariables false
def firstN (l : List ByteArray) : Nat := (l.headD .empty).size
def allN (p : Nat → Bool) (l : List ByteArray) : Bool := l.all fun r => p r.size
theorem allN_step (p : Nat → Bool) (l : List ByteArray) (k : Nat) (h : k < l.length) : allN p (l.take (k + 1)) = (allN p (l.take k) && p l[k].size) := by
  unfold allN; rw [take_succ_list l k h, List.all_append]; simp
theorem allN_pre {p : Nat → Bool} {l : List ByteArray} (k : Nat) (h : allN p (l.take k) = false) : allN p l = false := by
  cases h2 : allN p l with
  | false => rfl
  | true =>
    unfold allN at h h2
    rw [List.all_eq_true] at h2
    rw [← h]
    symm
    rw [List.all_eq_true]
    exact fun x hx => h2 x (List.mem_of_mem_take hx)
def fewL (l : List ByteArray) : Bool := decide (l.length ≤ 20) && allN (fun n => decide (n ≤ 40)) l
def evenL (l : List ByteArray) : Bool := allN (fun n => decide (n = firstN l)) l
def evenB (l : List ByteArray) : Bool := evenL l && decide (l.length ≤ 16)
def evenR (l : List ByteArray) : Bool := evenL l && decide (0 < l.length)
def widthN (l : List ByteArray) : Nat := if l.length = 0 ∨ evenB l = false then 0 else firstN l
theorem firstN_get {l : List ByteArray} (h : 0 < l.length) : l[0].size = firstN l := by
  cases l with
  | nil => simp at h
  | cons a l => rfl
set_option maxRecDepth 20000 in
set_option maxHeartbeats 2000000 in
theorem few_any (w : World) (va : Value) (l : List ByteArray) (ha : StrsB w va l) :
    Calls Try.prog 19 #[va] w fun e w' => e = .returned (.bool (fewL l)) ∧ w = w' := by
  obtain ⟨A, c, rfl, h1, h2⟩ := ha.len
  have HC := Lib.hid ha.cells; clear ha
  have hm : l.length ≤ 9223372036854775807 := by unfold maxLen at h2; omega
  clear h1 h2
  by_cases h20 : l.length ≤ 20
  · have hd : decide ((20 : Int) < (l.length : Int)) = false := by rw [decide_eq_false_iff_not]; omega
    have HE : Hid (fewL l = allN (fun n => decide (n ≤ 40)) l) := by unfold Hid fewL; rw [decide_eq_true h20, Bool.true_and]
    clear h20
    go_enter Try.func19, Try.ntmps19
    go_wp2
    clear hd
    go_loop [10] (fun i => ∃ j : Nat, j ≤ l.length ∧ i = .int .i64 j ∧ Hid (allN (fun n => decide (n ≤ 40)) (l.take j) = true)) (fun i => l.length - (intOf i).toNat)
    case atStart => exact ⟨0, Nat.zero_le _, rfl, rfl⟩
    case round =>
      obtain ⟨j, hj, rfl, HT⟩ := hrel
      by_cases hlt : j < l.length
      · obtain ⟨b, off, rfl, hblt, hcell⟩ := HC.out (by omega)
        have e1 := hcell j hlt
        have hst := allN_step (fun n => decide (n ≤ 40)) l j hlt
        rw [HT.out, Bool.true_and] at hst
        clear hcell
        by_cases hs : l[j].size ≤ 40
        · have hs' : decide ((40 : Int) < (l[j].size : Int)) = false := by rw [decide_eq_false_iff_not]; omega
          rw [decide_eq_true hs] at hst
          have HS := Lib.hid hst; clear hst hs
          generalize l[j] = x at *
          go_wp2
          go_round
          case rel => exact ⟨j + 1, by omega, by go_num, HS.out⟩
          case measure => simp [intOf]; omega
        · have hs' : decide ((40 : Int) < (l[j].size : Int)) = true := by rw [decide_eq_true_iff]; omega
          rw [decide_eq_false hs] at hst
          have HF := Lib.hid (allN_pre (j + 1) hst)
          clear hst hs
          generalize l[j] = x at *
          go_wp2
          go_ret
          exact ⟨by rw [HE.out, HF.out]; rfl, rfl⟩
      · obtain rfl : j = l.length := by omega
        rw [List.take_length] at HT
        go_wp2
        go_ret
        exact ⟨by rw [HE.out, HT.out]; rfl, rfl⟩
  · have hd : decide ((20 : Int) < (l.length : Int)) = true := by rw [decide_eq_true_iff]; omega
    have HE : Hid (fewL l = false) := by unfold Hid fewL; rw [decide_eq_false h20, Bool.false_and]
    clear h20
    go_enter Try.func19, Try.ntmps19
    go_wp2
    go_ret
    exact ⟨by rw [HE.out]; rfl, rfl⟩
set_option maxRecDepth 20000 in
set_option maxHeartbeats 2000000 in
theorem even_any (w : World) (va : Value) (l : List ByteArray) (ha : StrsB w va l) :
    Calls Try.prog 42 #[va] w fun e w' => e = .returned (.bool (evenB l)) ∧ w = w' := by
  obtain ⟨A, c, rfl, h1, h2⟩ := ha.len
  have HC := Lib.hid ha.cells; clear ha
  have hm : l.length ≤ 9223372036854775807 := by unfold maxLen at h2; omega
  clear h1 h2
  go_enter Try.func42, Try.ntmps42
  go_wp2
  go_loop [7] (fun i => ∃ j : Nat, j ≤ l.length ∧ i = .int .i64 j ∧ Hid (allN (fun n => decide (n = firstN l)) (l.take j) = true)) (fun i => l.length - (intOf i).toNat)
  case atStart => exact ⟨0, Nat.zero_le _, rfl, rfl⟩
  case round =>
    obtain ⟨j, hj, rfl, HT⟩ := hrel
    by_cases hlt : j < l.length
    · obtain ⟨b, off, rfl, hblt, hcell⟩ := HC.out (by omega)
      have e1 := hcell j hlt
      have h0 : 0 < l.length := by omega
      have e0 : w.cell? ⟨b, off, none⟩ = some (.string l[0]) := hcell 0 h0
      have hst := allN_step (fun n => decide (n = firstN l)) l j hlt
      rw [HT.out, Bool.true_and, ← firstN_get h0] at hst
      clear hcell
      by_cases hs : l[j].size = l[0].size
      · have hs' : ((l[j].size : Int) != (l[0].size : Int)) = false := by rw [bne_eq_false_iff_eq]; omega
        rw [decide_eq_true hs] at hst
        have HS := Lib.hid hst; clear hst hs
        have HN := Lib.hid (firstN_get h0)
        generalize l[j] = x at *
        generalize l[0] = y at *
        go_wp2
        go_round
        case rel => exact ⟨j + 1, by omega, by go_num, by have := HS.out; rw [HN.out] at this; exact this⟩
        case measure => simp [intOf]; omega
      · have hs' : ((l[j].size : Int) != (l[0].size : Int)) = true := by rw [bne_iff_ne]; omega
        rw [decide_eq_false hs] at hst
        have HF := Lib.hid (allN_pre (j + 1) hst)
        rw [firstN_get h0] at HF
        clear hst hs
        generalize l[j] = x at *
        generalize l[0] = y at *
        go_wp2
        go_ret
        exact ⟨by unfold evenB evenL; rw [HF.out]; rfl, rfl⟩
    · obtain rfl : j = l.length := by omega
      rw [List.take_length] at HT
      go_wp2
      go_ret
      exact ⟨by unfold evenB evenL; rw [HT.out, Bool.true_and, show decide ((l.length : Int) ≤ 16) = decide (l.length ≤ 16) from by rw [decide_eq_decide]; omega]; rfl, rfl⟩
set_option maxRecDepth 20000 in
set_option maxHeartbeats 2000000 in
theorem width_any (w : World) (va : Value) (l : List ByteArray) (ha : StrsB w va l) :
    Calls Try.prog 41 #[va] w fun e w' => e = .returned (.int .i64 (widthN l : Nat)) ∧ w = w' := by
  have HV := Lib.hid (even_any w va l ha)
  obtain ⟨A, c, rfl, h1, h2⟩ := ha.len
  have HC := Lib.hid ha.cells; clear ha
  have hm : l.length ≤ 9223372036854775807 := by unfold maxLen at h2; omega
  clear h1 h2
  by_cases h0 : l.length = 0
  · have hd : ((l.length : Int) == 0) = true := by rw [beq_iff_eq]; omega
    have HE : Hid (widthN l = 0) := by unfold Hid widthN; rw [if_pos (Or.inl h0)]
    clear h0
    go_enter Try.func41, Try.ntmps41
    go_wp2
    go_ret
    exact ⟨by rw [HE.out]; rfl, rfl⟩
  · have hd : ((l.length : Int) == 0) = false := by rw [beq_eq_false_iff_ne]; omega
    obtain ⟨b, off, rfl, hblt, hcell⟩ := HC.out (by omega)
    have h0' : 0 < l.length := by omega
    have e0 : w.cell? ⟨b, off, none⟩ = some (.string l[0]) := hcell 0 h0'
    have HN := Lib.hid (firstN_get (l := l) (by omega))
    clear hcell
    cases hb : evenB l
    · have HE : Hid (widthN l = 0) := by unfold Hid widthN; rw [if_pos (Or.inr hb)]
      rw [hb] at HV
      generalize l[0] = y at *
      clear h0 hb
      go_enter Try.func41, Try.ntmps41
      go_wp2_with fail
      refine HV.out.mono ?_
      rintro e w1 ⟨rfl, rfl⟩
      go_wp2
      go_ret
      exact ⟨by rw [HE.out]; rfl, rfl⟩
    · have HE : Hid (widthN l = firstN l) := by unfold Hid widthN; rw [if_neg (by rw [hb]; simp [h0])]
      rw [hb] at HV
      clear hb
      generalize l[0] = y at *
      go_enter Try.func41, Try.ntmps41
      go_wp2_with fail
      refine HV.out.mono ?_
      rintro e w1 ⟨rfl, rfl⟩
      go_wp2
      go_ret
      exact ⟨by rw [HE.out, ← HN.out]; rfl, rfl⟩
set_option maxRecDepth 20000 in
set_option maxHeartbeats 2000000 in
theorem reven_any (w : World) (va : Value) (l : List ByteArray) (ha : StrsB w va l) :
    Calls Try.prog 44 #[va] w fun e w' => e = .returned (.bool (evenR l)) ∧ ∃ m, w' = w.drewN m := by
  obtain ⟨A, c, rfl, h1, h2⟩ := ha.len
  have HC := Lib.hid ha.cells; clear ha
  have hm : l.length ≤ 9223372036854775807 := by unfold maxLen at h2; omega
  clear h1 h2
  go_enter Try.func44, Try.ntmps44
  go_wp2
  go_loopw [3] (fun i wr => ∃ j : Nat, j ≤ l.length ∧ i = .int .i64 j ∧ Hid (allN (fun n => decide (n = firstN l)) (l.take j) = true) ∧ Hid (∃ m, wr = w.drewN m)) (fun i _ => l.length - (intOf i).toNat)
  case atStart => exact ⟨0, Nat.zero_le _, rfl, rfl, 0, rfl⟩
  case round =>
    obtain ⟨j, hj, rfl, HT, HW⟩ := hrel
    by_cases hlt : j < l.length
    · obtain ⟨b, off, rfl, hblt, hcell⟩ := HC.out (by omega)
      have h0 : 0 < l.length := by omega
      have e1 : wr.cell? ⟨b, off + j, none⟩ = some (.string l[j]) := by obtain ⟨m, rfl⟩ := HW.out; exact hcell j hlt
      have e0 : wr.cell? ⟨b, off, none⟩ = some (.string l[0]) := by obtain ⟨m, rfl⟩ := HW.out; exact hcell 0 h0
      have hst := allN_step (fun n => decide (n = firstN l)) l j hlt
      rw [HT.out, Bool.true_and, ← firstN_get h0] at hst
      clear hcell
      by_cases hs : l[j].size = l[0].size
      · have hs' : ((l[j].size : Int) != (l[0].size : Int)) = false := by rw [bne_eq_false_iff_eq]; omega
        rw [decide_eq_true hs] at hst
        have HS := Lib.hid hst; clear hst hs
        have HN := Lib.hid (firstN_get h0)
        generalize l[j] = x at *
        generalize l[0] = y at *
        go_wp2_with fail
        go_quiet (fail)
        go_wp2_with fail
        go_roundw
        case rel => exact ⟨j + 1, by omega, by go_num, by have := HS.out; rw [HN.out] at this; exact this, by obtain ⟨m, rfl⟩ := HW.out; exact ⟨_, World.drewN_drewN _ _ _⟩⟩
        case measure => simp [intOf]; omega
      · have hs' : ((l[j].size : Int) != (l[0].size : Int)) = true := by rw [bne_iff_ne]; omega
        rw [decide_eq_false hs] at hst
        have HF := Lib.hid (allN_pre (j + 1) hst)
        rw [firstN_get h0] at HF
        clear hst hs
        generalize l[j] = x at *
        generalize l[0] = y at *
        go_wp2_with fail
        go_quiet (fail)
        go_wp2_with fail
        go_ret
        exact ⟨by unfold evenR evenL; rw [HF.out]; rfl, by obtain ⟨m, rfl⟩ := HW.out; exact ⟨_, World.drewN_drewN _ _ _⟩⟩
    · obtain rfl : j = l.length := by omega
      rw [List.take_length] at HT
      go_wp2_with fail
      go_ret
      exact ⟨by unfold evenR evenL; rw [HT.out, Bool.true_and]; rfl, HW.out⟩
end Go.Proofs.Ytdgnhnhmcobfkaa
