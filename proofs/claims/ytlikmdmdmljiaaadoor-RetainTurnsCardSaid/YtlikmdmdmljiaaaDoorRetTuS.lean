/- RetainTurns: walk (written by gen-ret-turns.py). -/
import Derived.Test.YtlikmdmdmljiaaaDoorRetAwake
namespace Go.Proofs.YtlikmdmdmljiaaaDoor
open Go.RowKit
set_option linter.unusedVariables false
set_option linter.unusedSimpArgs false
theorem civ_small (n : Int) (h0 : 0 ≤ n) (h1 : n ≤ 6000000) : civC n = Cal.civ n ∧ within (Cal.civ n) ∧ daysC (Cal.civ n) = (n, true) := by
  have e1 : civC n = Cal.civ n := by unfold civC; rw [if_neg (by omega)]
  have ew : within (Cal.civ n) := by
    obtain ⟨p1, p2, p3, p4, p5, p6⟩ := Cal.civ_parts n h0
    have m1 := Cal.mlen_le (Cal.civ n).y (Cal.civ n).m
    have c0 := Cal.cR_0 (Cal.civ n).y (Cal.civ n).m
    refine ⟨p1, ?_, p2, p3, p4, by omega⟩
    apply Int.not_lt.mp
    intro hlt
    have := Cal.sY_lt hlt
    have : (6500000 : Int) ≤ Cal.sY 20000 := by decide
    omega
  refine ⟨e1, ew, ?_⟩
  unfold daysC
  rw [Cal.cnt_civ n h0, if_pos ⟨ew, e1⟩]
/-- three days in memory -/
structure TuS (d t u : Cal.Dt) (B0 B1 : Nat) (w : World) : Prop where
  d0 : w.cell? ⟨B0, 0, none⟩ = some (.int .i64 d.y)
  d1 : w.cell? ⟨B0, 1, none⟩ = some (.int .i64 d.m)
  d2 : w.cell? ⟨B0, 2, none⟩ = some (.int .i64 d.d)
  t0 : w.cell? ⟨B1, 0, none⟩ = some (.int .i64 t.y)
  t1 : w.cell? ⟨B1, 1, none⟩ = some (.int .i64 t.m)
  t2 : w.cell? ⟨B1, 2, none⟩ = some (.int .i64 t.d)
  u0 : w.cell? ⟨B1+1, 0, none⟩ = some (.int .i64 u.y)
  u1 : w.cell? ⟨B1+1, 1, none⟩ = some (.int .i64 u.m)
  u2 : w.cell? ⟨B1+1, 2, none⟩ = some (.int .i64 u.d)
  l0 : B0 < w.heap.size
  l1 : B1 + 1 < w.heap.size
  tab : Tab w
theorem TuS.below {d t u : Cal.Dt} {B0 B1 : Nat} {w w' : World} (h : TuS d t u B0 B1 w) (b : Below w.heap.size w w') : TuS d t u B0 B1 w' :=
  have l2 : B1 < w.heap.size := Nat.lt_of_succ_lt h.l1
  ⟨(b.cell h.l0).trans h.d0, (b.cell h.l0).trans h.d1, (b.cell h.l0).trans h.d2, (b.cell l2).trans h.t0, (b.cell l2).trans h.t1, (b.cell l2).trans h.t2, (b.cell h.l1).trans h.u0, (b.cell h.l1).trans h.u1, (b.cell h.l1).trans h.u2, Nat.lt_of_lt_of_le h.l0 b.size, Nat.lt_of_lt_of_le h.l1 b.size, h.tab.below b (Nat.le_refl _)⟩
theorem TuS.drew {d t u : Cal.Dt} {B0 B1 : Nat} {w : World} (h : TuS d t u B0 B1 w) : TuS d t u B0 B1 w.drew := ⟨h.d0, h.d1, h.d2, h.t0, h.t1, h.t2, h.u0, h.u1, h.u2, h.l0, h.l1, h.tab⟩
theorem TuS.row {d t u : Cal.Dt} {B0 B1 : Nat} {w : World} (h : TuS d t u B0 B1 w) : w.rangeAt B0 0 (#[Value.int .i64 d.y, .int .i64 d.m, .int .i64 d.d] : Array Value).toList := fun j v hj => by
  match j, hj with
  | 0, hj => cases hj; exact h.d0
  | 1, hj => cases hj; exact h.d1
  | 2, hj => cases hj; exact h.d2

end Go.Proofs.YtlikmdmdmljiaaaDoor
