/- RetainTurns: for every number and every day the call returns true. Condition: the table of powers of ten lies as laid. -/
import Derived.Test.YtlikmdmdmljiaaaDoorRetTuA1
import Derived.Test.YtlikmdmdmljiaaaDoorRetTuA2
import Derived.Test.YtlikmdmdmljiaaaDoorRetTuB1
import Derived.Test.YtlikmdmdmljiaaaDoorRetTuB2
import Derived.Test.YtlikmdmdmljiaaaDoorRetOpen
import Derived.Test.YtlikmdmdmljiaaaDoorArgs
namespace Go.Proofs.YtlikmdmdmljiaaaDoor
open Go.RowKit
set_option linter.unusedVariables false
set_option linter.unusedSimpArgs false
theorem turns_any (N : Int) (d : Cal.Dt) (W : World) (ht : Tab W) (h0 : 0 ≤ N) (h1 : N < 4294967296) :
    Calls Tryd.prog 5 #[.int .u32 N, .agg #[.int .i64 d.y, .int .i64 d.m, .int .i64 d.d]] W fun e w' => e = .returned (.bool true) ∧ Below W.heap.size W w' := by
  obtain ⟨n, hn⟩ : ∃ n, N % 6000000 = n := ⟨_, rfl⟩
  have n0 : 0 ≤ n := by omega
  have n1 : n < 6000000 := by omega
  obtain ⟨e1, w1, c1⟩ := civ_small n n0 (by omega)
  obtain ⟨e2, w2, c2⟩ := civ_small (n + 1) (by omega) (by omega)
  have hnx := Cal.civ_next n n0
  obtain ⟨t, ht'⟩ : ∃ t, Cal.civ n = t := ⟨_, rfl⟩
  obtain ⟨u, hu'⟩ : ∃ u, Cal.civ (n + 1) = u := ⟨_, rfl⟩
  rw [ht'] at e1 w1 c1 hnx
  rw [hu'] at e2 hnx
  have HA : ∀ w, Calls Tryd.prog 15 #[.int .i64 n] w fun e w' => e = .returned (.agg #[.int .i64 t.y, .int .i64 t.m, .int .i64 t.d]) ∧ Below w.heap.size w w' := fun w => by have h := civil_any n w; rw [e1] at h; exact h
  have HB : ∀ w, Calls Tryd.prog 15 #[.int .i64 (n + 1)] w fun e w' => e = .returned (.agg #[.int .i64 u.y, .int .i64 u.m, .int .i64 u.d]) ∧ Below w.heap.size w w' := fun w => by have h := civil_any (n + 1) w; rw [e2] at h; exact h
  have HD : ∀ w, Calls Tryd.prog 13 #[.agg #[.int .i64 t.y, .int .i64 t.m, .int .i64 t.d]] w fun e w' => e = .returned (.tuple #[.int .i64 n, .bool true]) ∧ Below w.heap.size w w' := fun w => by have h := days_any t w; rw [c1] at h; exact h
  have HK : ∀ w, Calls Tryd.prog 13 #[.agg #[.int .i64 d.y, .int .i64 d.m, .int .i64 d.d]] w fun e w' => e = .returned (.tuple #[.int .i64 (daysC d).1, .bool (daysC d).2]) ∧ Below w.heap.size w w' := fun w => days_any d w
  have H3 : (daysC d).2 = false ∧ (daysC d).1 = 0 ∨ (daysC d).2 = true ∧ 8388608 < (daysC d).1 ∨ (daysC d).2 = true ∧ (daysC d).1 ≤ 8388608 ∧ ∀ w, Calls Tryd.prog 15 #[.int .i64 (daysC d).1] w fun e w' => e = .returned (.agg #[.int .i64 d.y, .int .i64 d.m, .int .i64 d.d]) ∧ Below w.heap.size w w' := by
    unfold daysC
    split
    · next h =>
      refine Or.inr (Or.inr ⟨rfl, ?_, fun w => ?_⟩)
      · apply Int.not_lt.mp
        intro hlt
        have hc := h.2
        unfold civC at hc
        rw [if_pos (Or.inr hlt)] at hc
        have := h.1.1
        rw [← hc] at this
        simp at this
      · have q := civil_any (Cal.cnt d) w; rw [h.2] at q; exact q
    · exact Or.inl ⟨rfl, rfl⟩
  have HG : ∀ w x y, (eqGuard .eql 42 x y (.agg #[.int .i64 u.y, .int .i64 u.m, .int .i64 u.d]) (.agg #[.int .i64 t.y, .int .i64 t.m, .int .i64 (t.d + 1)])).run Tryd.prog w = .ok () w := fun w x y => date_guard .eql x y u ⟨t.y, t.m, t.d + 1⟩ w
  have HQ : ∀ w, (binOp .eql 42 (.agg #[.int .i64 u.y, .int .i64 u.m, .int .i64 u.d]) (.agg #[.int .i64 t.y, .int .i64 t.m, .int .i64 (t.d + 1)])).run Tryd.prog w = .ok (.bool (decide (u = ⟨t.y, t.m, t.d + 1⟩))) w := fun w => date_eql u ⟨t.y, t.m, t.d + 1⟩ w
  rcases hnx with hu | ⟨q1, q2, q3⟩
  · have hd : decide (u = ⟨t.y, t.m, t.d + 1⟩) = true := by simpa using hu
    rw [hd] at HQ
    have hud : u.d = t.d + 1 := by rw [hu]
    by_cases h28 : t.d < 28
    · exact turns_a1 N n _ _ d t u W ht h0 h1 hn w1 HA HB HD HK H3 HQ HG h28
    · exact turns_a2 N n _ _ d t u W ht h0 h1 hn w1 HA HB HD HK H3 HQ HG (by omega) (by omega)
  · have hd : decide (u = ⟨t.y, t.m, t.d + 1⟩) = false := by
      simp only [decide_eq_false_iff_not]
      intro hu
      have hud : u.d = t.d + 1 := by rw [hu]
      omega
    rw [hd] at HQ
    rcases q3 with ⟨q4, q5⟩ | ⟨q4, q5, q6⟩
    · exact turns_b1 N n _ _ d t u W ht h0 h1 hn w1 HA HB HD HK H3 HQ HG q1 q2 q4 q5
    · exact turns_b2 N n _ _ d t u W ht h0 h1 hn w1 HA HB HD HK H3 HQ HG q1 q2 q4 q5 q6
theorem retainTurns_ok (W : World) (ht : Tab W) (x0 : UInt32) (x1 : Int × Int × Int) {w1P : Prop} (w1 : w1P) :
    Calls Tryd.prog 5 #[.int .u32 x0.toNat, .agg ((ES3 (EInt .i64) (EInt .i64) (EInt .i64)) x1).toArray] W fun e w' => e = .returned (.bool true) ∧ Below W.heap.size W w' :=
  turns_any x0.toNat ⟨x1.1, x1.2.1, x1.2.2⟩ W ht (by omega) (by have := x0.toNat_lt; omega)
end Go.Proofs.YtlikmdmdmljiaaaDoor
