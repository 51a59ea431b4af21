/- Comparing: of texts, of numbers; the order of marks. -/
import Derived.Test.YtlikmdmdmljiaaaDoorRetPart
import Derived.Test.YtlikmdmdmljiaaaDoorRetOrd
import Derived.WalkKit
import Derived.WalkSpells
import Derived.WalkLawsBesides
import Derived.Deep.QuietTactic
import Derived.BigQuiet
import Derived.Shelf.Lay
import Derived.Shelf.GgSortFunc.RowK
namespace Go.Proofs.YtlikmdmdmljiaaaDoor
open Go.RowKit Go.Shelf Go.Lib Go.Sort
set_option linter.unusedVariables false
set_option linter.unusedSimpArgs false
theorem toList_data (s : ByteArray) : s.toList = s.data.toList := ByteArray.toList_eq s
theorem toList_neqs (x : ByteArray) : (x.toList != x.toList) = false := by simp
set_option maxRecDepth 20000 in
set_option maxHeartbeats 1000000 in
theorem nanS_any (a : ByteArray) (w : World) : Calls Tryd.prog 40 #[.string a] w fun e w' => e = .returned (.bool false) ∧ w = w' := by
  have h := toList_neqs a
  go_enter Tryd.func40, Tryd.ntmps40
  go_wp2
  go_ret
  exact ⟨rfl, rfl⟩
set_option maxRecDepth 20000 in
set_option maxHeartbeats 1000000 in
theorem cmpS_any (a b : ByteArray) (w : World) : Calls Tryd.prog 25 #[.string a, .string b] w fun e w' => e = .returned (.int .i64 (cmpS a b)) ∧ w = w' := by
  have HN := Lib.hid nanS_any
  unfold cmpS
  cases h1 : bl a b with
  | true =>
    have d1 : Op.bytesLess a.toList b.toList = true := by rw [toList_data, toList_data]; exact h1
    rw [if_pos rfl]
    clear h1
    go_enter Tryd.func25, Tryd.ntmps25
    go_wp2_with fail
    refine (HN.out _ _).mono ?_
    rintro e w' ⟨rfl, rfl⟩
    go_wp2_with fail
    refine (HN.out _ _).mono ?_
    rintro e w' ⟨rfl, rfl⟩
    go_wp2_with fail
    go_ret
    exact ⟨rfl, rfl⟩
  | false =>
    have d1 : Op.bytesLess a.toList b.toList = false := by rw [toList_data, toList_data]; exact h1
    rw [if_neg (by decide)]
    cases h2 : bl b a with
    | true =>
      have d2 : (a.toList == b.toList) = false := by
        rw [beq_eq_false_iff_ne, toList_data, toList_data]
        intro e
        have e' : a = b := ByteArray.ext (Array.toList_inj.1 e)
        rw [e', bl_irrefl] at h2; cases h2
      rw [if_pos rfl]
      clear h1 h2
      go_enter Tryd.func25, Tryd.ntmps25
      go_wp2_with fail
      refine (HN.out _ _).mono ?_
      rintro e w' ⟨rfl, rfl⟩
      go_wp2_with fail
      refine (HN.out _ _).mono ?_
      rintro e w' ⟨rfl, rfl⟩
      go_wp2_with fail
      go_ret
      exact ⟨rfl, rfl⟩
    | false =>
      have d2 : (a.toList == b.toList) = true := by rw [bl_total h1 h2]; simp
      rw [if_neg (by decide)]
      clear h1 h2
      go_enter Tryd.func25, Tryd.ntmps25
      go_wp2_with fail
      refine (HN.out _ _).mono ?_
      rintro e w' ⟨rfl, rfl⟩
      go_wp2_with fail
      refine (HN.out _ _).mono ?_
      rintro e w' ⟨rfl, rfl⟩
      go_wp2_with fail
      go_ret
      exact ⟨rfl, rfl⟩
def cmpI (a b : Int) : Int := if a < b then -1 else if b < a then 1 else 0
theorem int_neqs (x : Int) : (x != x) = false := by simp
set_option maxRecDepth 20000 in
set_option maxHeartbeats 1000000 in
theorem nanI_any (a : Int) (w : World) : Calls Tryd.prog 80 #[.int .i64 a] w fun e w' => e = .returned (.bool false) ∧ w = w' := by
  have h := int_neqs a
  go_enter Tryd.func80, Tryd.ntmps80
  go_wp2
  go_ret
  exact ⟨rfl, rfl⟩
set_option maxRecDepth 20000 in
set_option maxHeartbeats 1000000 in
theorem cmpI_any (a b : Int) (w : World) : Calls Tryd.prog 45 #[.int .i64 a, .int .i64 b] w fun e w' => e = .returned (.int .i64 (cmpI a b)) ∧ w = w' := by
  have HN := Lib.hid nanI_any
  unfold cmpI
  by_cases h1 : a < b
  · have d1 : decide (a < b) = true := by simpa using h1
    rw [if_pos h1]
    go_enter Tryd.func45, Tryd.ntmps45
    go_wp2_with fail
    refine (HN.out _ _).mono ?_
    rintro e w' ⟨rfl, rfl⟩
    go_wp2_with fail
    refine (HN.out _ _).mono ?_
    rintro e w' ⟨rfl, rfl⟩
    go_wp2_with fail
    go_ret
    exact ⟨rfl, rfl⟩
  · have d1 : decide (a < b) = false := by simpa using h1
    rw [if_neg h1]
    by_cases h2 : b < a
    · have d2 : decide (b < a) = true := by simpa using h2
      rw [if_pos h2]
      go_enter Tryd.func45, Tryd.ntmps45
      go_wp2_with fail
      refine (HN.out _ _).mono ?_
      rintro e w' ⟨rfl, rfl⟩
      go_wp2_with fail
      refine (HN.out _ _).mono ?_
      rintro e w' ⟨rfl, rfl⟩
      go_wp2_with fail
      go_ret
      exact ⟨rfl, rfl⟩
    · have d2 : decide (b < a) = false := by simpa using h2
      rw [if_neg h2]
      go_enter Tryd.func45, Tryd.ntmps45
      go_wp2_with fail
      refine (HN.out _ _).mono ?_
      rintro e w' ⟨rfl, rfl⟩
      go_wp2_with fail
      refine (HN.out _ _).mono ?_
      rintro e w' ⟨rfl, rfl⟩
      go_wp2_with fail
      go_ret
      exact ⟨rfl, rfl⟩
end Go.Proofs.YtlikmdmdmljiaaaDoor
