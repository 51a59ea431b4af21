/- Parts of time that a mark lies in: walks. -/
import Derived.Test.YtlikmdmdmljiaaaDoorRetCivil
import Derived.Test.YtlikmdmdmljiaaaDoorRetPl5
namespace Go.Proofs.YtlikmdmdmljiaaaDoor
open Go.RowKit
set_option linter.unusedVariables false
set_option linter.unusedSimpArgs false
def mkV (x : Mk) : Value := .agg #[.string x.1, .int .i64 x.2]
def dayI (a : Int) : Int := a / 86400
/-- hour, day, week, month, year -/
def partI : Nat → Mk → Int
  | 0, x => x.2 / 3600
  | 1, x => dayI x.2
  | 2, x => (dayI x.2 + 3) / 7
  | 3, x => (civC (dayI x.2)).y * 12 + (civC (dayI x.2)).m
  | _, x => (civC (dayI x.2)).y
theorem part_ne (i : Nat) (x : Mk) (h : okAt x = true) : partI i x ≠ -1 := by
  simp [okAt] at h
  have hd : 0 ≤ dayI x.2 ∧ dayI x.2 ≤ 8388608 := by unfold dayI; omega
  have hc : civC (dayI x.2) = Cal.civ (dayI x.2) := if_neg (by omega)
  have hp := Cal.civ_parts (dayI x.2) hd.1
  match i with
  | 0 => show x.2 / 3600 ≠ -1; omega
  | 1 => show dayI x.2 ≠ -1; omega
  | 2 => show (dayI x.2 + 3) / 7 ≠ -1; omega
  | 3 =>
    show (civC (dayI x.2)).y * 12 + (civC (dayI x.2)).m ≠ -1
    rw [hc]
    have h1 := hp.1
    have h2 := hp.2.1
    omega
  | _ + 4 =>
    show (civC (dayI x.2)).y ≠ -1
    rw [hc]
    have h1 := hp.1
    omega
set_option maxRecDepth 20000 in
set_option maxHeartbeats 1000000 in
theorem hourP_any (n : ByteArray) (a : Int) (w : World) (h0 : 0 ≤ a) (h1 : a ≤ 274877906944) : Calls Tryd.prog 46 #[.agg #[.string n, .int .i64 a]] w fun e w' => e = .returned (.int .i64 (a / 3600)) ∧ Below w.heap.size w w' := by
  have hq : a.tdiv 3600 = a / 3600 := Int.tdiv_eq_ediv_of_nonneg h0
  go_enter Tryd.func46, Tryd.ntmps46
  go_wp2
  go_ret
  exact ⟨rfl, (Below.refl _ _).alloc (Nat.le_refl _) _⟩
set_option maxRecDepth 20000 in
set_option maxHeartbeats 1000000 in
theorem dayP_any (n : ByteArray) (a : Int) (w : World) (h0 : 0 ≤ a) (h1 : a ≤ 274877906944) : Calls Tryd.prog 47 #[.agg #[.string n, .int .i64 a]] w fun e w' => e = .returned (.int .i64 (dayI a)) ∧ Below w.heap.size w w' := by
  have hq : a.tdiv 86400 = a / 86400 := Int.tdiv_eq_ediv_of_nonneg h0
  unfold dayI
  go_enter Tryd.func47, Tryd.ntmps47
  go_wp2
  go_ret
  exact ⟨rfl, (Below.refl _ _).alloc (Nat.le_refl _) _⟩
set_option maxRecDepth 20000 in
set_option maxHeartbeats 1000000 in
theorem weekP_any (n : ByteArray) (a : Int) (w : World) (h0 : 0 ≤ a) (h1 : a ≤ 274877906944) : Calls Tryd.prog 48 #[.agg #[.string n, .int .i64 a]] w fun e w' => e = .returned (.int .i64 ((dayI a + 3) / 7)) ∧ Below w.heap.size w w' := by
  have HD := Lib.hid (fun w => dayP_any n a w h0 h1)
  have hd : 0 ≤ dayI a ∧ dayI a ≤ 8388608 := by unfold dayI; omega
  generalize dayI a = d at *
  obtain ⟨hd0, hd1⟩ := hd
  have hq : (d + 3).tdiv 7 = (d + 3) / 7 := Int.tdiv_eq_ediv_of_nonneg (by omega)
  go_enter Tryd.func48, Tryd.ntmps48
  go_wp2_with fail
  refine (HD.out _).mono ?_
  rintro e w' ⟨rfl, hb⟩
  have HB : Hid (Below w.heap.size w w') := ((Below.refl _ _).alloc (Nat.le_refl _) _).trans (hb.mono (by simp))
  clear hb
  go_wp2
  go_ret
  exact ⟨rfl, HB.out⟩
theorem civC_yle (n : Int) : (civC n).y ≤ 100000 ∧ 0 ≤ (civC n).y := by
  unfold civC
  by_cases h : n < 0 ∨ 8388608 < n
  · rw [if_pos h]; simp
  · rw [if_neg h]
    obtain ⟨p1, p2, p3, p4, p5, p6⟩ := Cal.civ_parts n (by omega)
    have m1 := Cal.mlen_le (Cal.civ n).y (Cal.civ n).m
    have c0 := Cal.cR_0 (Cal.civ n).y (Cal.civ n).m
    have hy : (Cal.civ n).y ≤ 100000 := by
      apply Int.not_lt.mp
      intro hlt
      have := Cal.sY_lt hlt
      have : (10000000 : Int) ≤ Cal.sY 100000 := by decide
      omega
    omega
theorem civC_mle (n : Int) : (civC n).m ≤ 12 ∧ 0 ≤ (civC n).m := by
  unfold civC
  by_cases h : n < 0 ∨ 8388608 < n
  · rw [if_pos h]; simp
  · rw [if_neg h]
    obtain ⟨p1, p2, p3, p4, p5, p6⟩ := Cal.civ_parts n (by omega)
    omega
set_option maxRecDepth 20000 in
set_option maxHeartbeats 1000000 in
theorem monthP_any (n : ByteArray) (a : Int) (w : World) (h0 : 0 ≤ a) (h1 : a ≤ 274877906944) : Calls Tryd.prog 49 #[.agg #[.string n, .int .i64 a]] w fun e w' => e = .returned (.int .i64 ((civC (dayI a)).y * 12 + (civC (dayI a)).m)) ∧ Below w.heap.size w w' := by
  have HD := Lib.hid (fun w => dayP_any n a w h0 h1)
  have hy := civC_yle (dayI a)
  have hm := civC_mle (dayI a)
  have HC := fun w => Lib.hid (civil_any (dayI a) w)
  generalize civC (dayI a) = t at *
  obtain ⟨Y, M, D⟩ := t
  simp only at hy hm ⊢
  obtain ⟨hy1, hy0⟩ := hy
  obtain ⟨hm1, hm0⟩ := hm
  generalize dayI a = d at *
  replace HC : ∀ w, Hid (Calls Tryd.prog 15 #[.int .i64 d] w fun e w' => e = .returned (.agg #[.int .i64 Y, .int .i64 M, .int .i64 D]) ∧ Below w.heap.size w w') := HC
  have hF0 : ∀ w : World, (Instr.field 42 (.agg #[.int .i64 Y, .int .i64 M, .int .i64 D]) 0).run Tryd.prog w = .ok (.int .i64 Y) w := fun _ => by kernel_rfl
  have hF1 : ∀ w : World, (Instr.field 42 (.agg #[.int .i64 Y, .int .i64 M, .int .i64 D]) 1).run Tryd.prog w = .ok (.int .i64 M) w := fun _ => by kernel_rfl
  go_enter Tryd.func49, Tryd.ntmps49
  go_wp2_with fail
  refine (HD.out _).mono ?_
  rintro e w1 ⟨rfl, hb⟩
  have HB : Hid (Below w.heap.size w w1) := ((Below.refl _ _).alloc (Nat.le_refl _) _).trans (hb.mono (by simp))
  clear hb
  go_wp2_with fail
  refine (HC _).out.mono ?_
  rintro e w2 ⟨rfl, hb⟩
  have HB2 : Hid (Below w.heap.size w w2) := HB.out.trans (hb.mono HB.out.size)
  clear hb
  go_wp2
  go_ret
  exact ⟨rfl, by first | exact HB2.out | exact HB2.out.alloc HB2.out.size _ | exact Below.drewN HB2.out _ | exact Below.drewN (HB2.out.alloc HB2.out.size _) _⟩
set_option maxRecDepth 20000 in
set_option maxHeartbeats 1000000 in
theorem yearP_any (n : ByteArray) (a : Int) (w : World) (h0 : 0 ≤ a) (h1 : a ≤ 274877906944) : Calls Tryd.prog 50 #[.agg #[.string n, .int .i64 a]] w fun e w' => e = .returned (.int .i64 (civC (dayI a)).y) ∧ Below w.heap.size w w' := by
  have HD := Lib.hid (fun w => dayP_any n a w h0 h1)
  have hy := civC_yle (dayI a)
  have HC := fun w => Lib.hid (civil_any (dayI a) w)
  generalize civC (dayI a) = t at *
  obtain ⟨Y, M, D⟩ := t
  simp only at hy ⊢
  obtain ⟨hy1, hy0⟩ := hy
  generalize dayI a = d at *
  replace HC : ∀ w, Hid (Calls Tryd.prog 15 #[.int .i64 d] w fun e w' => e = .returned (.agg #[.int .i64 Y, .int .i64 M, .int .i64 D]) ∧ Below w.heap.size w w') := HC
  have hF0 : ∀ w : World, (Instr.field 42 (.agg #[.int .i64 Y, .int .i64 M, .int .i64 D]) 0).run Tryd.prog w = .ok (.int .i64 Y) w := fun _ => by kernel_rfl
  go_enter Tryd.func50, Tryd.ntmps50
  go_wp2_with fail
  refine (HD.out _).mono ?_
  rintro e w1 ⟨rfl, hb⟩
  have HB : Hid (Below w.heap.size w w1) := ((Below.refl _ _).alloc (Nat.le_refl _) _).trans (hb.mono (by simp))
  clear hb
  go_wp2_with fail
  refine (HC _).out.mono ?_
  rintro e w2 ⟨rfl, hb⟩
  have HB2 : Hid (Below w.heap.size w w2) := HB.out.trans (hb.mono HB.out.size)
  clear hb
  go_wp2
  go_ret
  exact ⟨rfl, by first | exact HB2.out | exact HB2.out.alloc HB2.out.size _ | exact Below.drewN HB2.out _ | exact Below.drewN (HB2.out.alloc HB2.out.size _) _⟩
end Go.Proofs.YtlikmdmdmljiaaaDoor
