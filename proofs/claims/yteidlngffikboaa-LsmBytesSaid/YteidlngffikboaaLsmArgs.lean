/- Counts that came in, as they are opened. -/
import Derived.Test.YteidlngffikboaaLsmFlush
import Derived.Test.YteidlngffikboaaArgsX
namespace Go.Proofs.Yteidlngffikboaa
open Go.RowKit
set_option linter.unusedVariables false
set_option linter.unusedSimpArgs false
abbrev CntA := SlArg (ByteArray × Int)
abbrev QCnt (W : World) (x : CntA) : Prop := (Sl W x.1 x.2.1 x.2.2.1 2 (x.2.2.2.flatMap (ES2 EStr (EInt .i64))) ∧ x.2.2.2.length = x.2.1 ∧ (x.1 = none → x.2.2.1 = 0) ∧ ∀ y ∈ x.2.2.2, y.1.size ≤ 140737488351232 ∧ (-9223372036854775808 ≤ y.2 ∧ y.2 ≤ 9223372036854775807)) ∧ x.2.1 ≤ 140737488351232
abbrev QRuns (W : World) (x : SlArg CntA) : Prop := (Sl W x.1 x.2.1 x.2.2.1 1 (x.2.2.2.flatMap ESl) ∧ x.2.2.2.length = x.2.1 ∧ (x.1 = none → x.2.2.1 = 0) ∧ ∀ y ∈ x.2.2.2, QCnt W y) ∧ x.2.1 ≤ 140737488351232
abbrev QLsm (W : World) (x : CntA × SlArg CntA) : Prop := QCnt W x.1 ∧ QRuns W x.2
def cntS (x : CntA × SlArg CntA) : CntS := (x.1.2.2.2, x.2.2.2.2.map fun y => y.2.2.2)
theorem cntN_of {W : World} {x : CntA} (h : QCnt W x) : CntN W (.slice x.1 x.2.1 x.2.2.1) x.2.2.2 := by
  obtain ⟨⟨h1, h2, h3, _⟩, _⟩ := h
  exact ⟨cnt_of_sl h1 h2, fun n c e => by injection e with e1 e2 e3; rw [← e3]; exact h3 e1⟩
theorem esl_get {α : Type} : ∀ (l : List (SlArg α)) (i : Nat) (h : i < l.length), (l.flatMap ESl)[i]? = some (.slice l[i].1 l[i].2.1 l[i].2.2.1)
  | x :: l, 0, _ => rfl
  | x :: l, i + 1, h => by
    have ih := esl_get l i (by simpa using h)
    show ([Value.slice x.1 x.2.1 x.2.2.1] ++ l.flatMap ESl)[i + 1]? = _
    rw [List.getElem?_append_right (by simp)]
    simpa using ih
theorem runsN_of {W : World} {x : SlArg CntA} (h : QRuns W x) : RunsN W (.slice x.1 x.2.1 x.2.2.1) (x.2.2.2.map fun y => y.2.2.2) := by
  obtain ⟨⟨h1, h2, h3, h4⟩, _⟩ := h
  refine ⟨⟨x.1, x.2.2.1, by simp [h2], by simp [h2]; exact h1.le, h1.cap, fun hl => ?_⟩, fun n c e => by injection e with e1 e2 e3; rw [← e3]; exact h3 e1⟩
  obtain ⟨b, off, e1, e2, e3⟩ := h1.cells (by simpa [h2] using hl)
  refine ⟨b, off, e1, e2, fun i hi => ?_⟩
  have hi' : i < x.2.2.2.length := by simpa using hi
  refine ⟨_, (e3 i (by omega)).trans (esl_get _ i hi'), ?_⟩
  simp only [List.getElem_map]
  exact cntN_of (h4 _ (List.getElem_mem hi'))
theorem lsm_of {W : World} {x : CntA × SlArg CntA} (h : QLsm W x) : LsmN W (.agg (ES2 ESl ESl x).toArray) (cntS x) ∧ ∀ r ∈ (cntS x).2, r.length ≤ 140737488351232 := by
  refine ⟨⟨_, _, rfl, cntN_of h.1, runsN_of h.2⟩, fun r hr => ?_⟩
  obtain ⟨y, hy, rfl⟩ := List.mem_map.1 hr
  have := h.2.1.2.2.2 y hy
  exact this.1.2.1 ▸ this.2
end Go.Proofs.Yteidlngffikboaa
