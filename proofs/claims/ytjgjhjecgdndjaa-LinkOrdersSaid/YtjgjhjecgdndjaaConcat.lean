/- slices.Grow at nil, slices.Concat of two lists of texts (as in ParGrow). -/
import Derived.Test.YtjgjhjecgdndjaaStrsPush
import Derived.Lib.AppendZeros
import Derived.Maps.AppendAt
namespace Go.Proofs.Ytjgjhjecgdndjaa
open Go.RowKit
set_option linter.unusedVariables false
set_option linter.unusedSimpArgs false
/-- append(nil, make([]string, n)...) -/
theorem zeros_any (w : World) (t tn ty : TypeId) (ht : Try.prog.underlying t = some (.slice 9)) (htn : Try.prog.underlying tn = some (.int .i64)) (n : Nat) (h0 : 0 < n) (hn : n ≤ 1000000000) :
    ∃ c w', (Builtin.append_ #[t, tn] ty #[.slice none 0 0, .int .i64 n]).run Try.prog w = .ok (.slice (some ⟨w.heap.size, 0, none⟩) n c) w' ∧ w'.ownsRow w.heap.size 9 1 (.slice (some ⟨w.heap.size, 0, none⟩) 0 c) 0 [] ∧ Below w.heap.size w w' ∧ c ≤ maxLen ∧ n ≤ c := by
  obtain ⟨i0, hi, hz0, hz1, hz2⟩ := info_parts strInfo
  have hr := Lib.run_append_nil_zeros (P := Try.prog) w t tn ty 9 i0 (.string ByteArray.empty) .i64 .i64 ht htn hi hz0 n h0 (by omega) (by omega) (by rw [hz2]; omega)
  have hge := grownCap_ge w n 0 9
  have hmx := grownCap_le_maxLen w n 0 9 (by unfold maxLen; omega)
  refine ⟨_, _, hr, ?_, ?_, hmx, hge⟩
  · have := World.ownsRow_made (base := w.heap.size) (e := 9) (size := 1) w.drew (Builtin.zeroCells (Value.string ByteArray.empty).cells n ++ Builtin.zeroCells (Value.string ByteArray.empty).cells (grownCap w n 0 9 - n)) (grownCap w n 0 9) (Nat.le_refl _) hmx (by
      have h1 : (Value.string ByteArray.empty).cells.size = 1 := rfl
      rw [Array.size_append, size_zeroCells, size_zeroCells, h1]; omega)
    exact this
  · exact (Below.refl _ _).drew.alloc (Nat.le_refl _) _
set_option maxRecDepth 20000 in
set_option maxHeartbeats 1000000 in
theorem grow_nil (n : Nat) (w : World) (hn : n ≤ 1000000000) :
    Calls Try.prog 62 #[.slice none 0 0, .int .i64 n] w fun e w' => ∃ v, e = .returned v ∧ w'.ownsRow w.heap.size 9 1 v 0 [] ∧ Below w.heap.size w w' := by
  by_cases h0 : 0 < n
  · have hd : decide (0 < (n : Int)) = true := by simp; omega
    have hd2 : decide ((n : Int) < 0) = false := by simp
    obtain ⟨c, w', hr, ho, hb, hc1, hc2⟩ := zeros_any w 33 3 33 Try.underlying33 Try.underlying3 n h0 hn
    have HO := Lib.hid ho
    have HB := Lib.hid hb
    clear ho hb
    have hcI : c ≤ 9223372036854775807 := by unfold maxLen at hc1; omega
    go_enter Try.func62, Try.ntmps62
    go_wp2_with (at_builtin; refine Lib.wpList_append_run _ rfl _ _ _ _ rfl _ _ rfl rfl _ _ hr ?_)
    go_wp2_with fail
    go_ret
    exact ⟨_, rfl, HO.out, HB.out⟩
  · obtain rfl : n = 0 := by omega
    go_enter Try.func62, Try.ntmps62
    go_wp2_with fail
    go_ret
    exact ⟨_, rfl, World.ownsRow_nil _ _ _ _, Below.refl _ _⟩
set_option maxRecDepth 20000 in
set_option maxHeartbeats 2000000 in
theorem concat2 (w : World) (g : Nat) (va vb : Value) (la lb : List ByteArray) (c0 : w.cell? ⟨g, 0, none⟩ = some va) (c1 : w.cell? ⟨g, 1, none⟩ = some vb) (ha : StrsN w va la) (hb : StrsN w vb lb) (h1 : la.length ≤ 1000000) (h2 : lb.length ≤ 1000000) (hg : g < w.heap.size) :
    Calls Try.prog 50 #[.slice (some ⟨g, 0, none⟩) 2 2] w fun e w' => ∃ v, e = .returned v ∧ w'.ownsRow w.heap.size 9 1 v (la ++ lb).length ((la ++ lb).map .string) ∧ Below w.heap.size w w' := by
  have HA := Lib.hid ha
  have HB := Lib.hid hb
  have HG := Lib.hid (grow_nil (la.length + lb.length) w (by omega))
  have C0 := Lib.hid c0
  have C1 := Lib.hid c1
  obtain ⟨A, ca, rfl, _, _⟩ := ha.1.len
  obtain ⟨A2, cb, rfl, _, _⟩ := hb.1.len
  clear ha hb
  have hz1 : decide (((la.length : Int)) < 0) = false := by simp
  have hz2 : decide (((la.length : Int) + (lb.length : Int)) < 0) = false := by simp; omega
  have hsum : ((la.length + lb.length : Nat) : Int) = (la.length : Int) + (lb.length : Int) := by omega
  rw [hsum] at HG
  clear hsum
  go_enter Try.func50, Try.ntmps50
  go_wp2_with fail
  refine wp_loop_rounds 3 ?_
  rw [rounds_succ]
  go_wp2_with fail
  rw [rounds_succ]
  go_wp2_with fail
  rw [rounds_succ]
  go_wp2_with fail
  refine HG.out.mono ?_
  rintro e w1 ⟨v1, rfl, o1, b1⟩
  have HO := Lib.hid o1
  have HW := Lib.hid b1
  have d0 : w1.cell? ⟨g, 0, none⟩ = some (.slice A la.length ca) := (b1.cell (p := ⟨g, 0, none⟩) hg).trans C0.out
  have d1 : w1.cell? ⟨g, 1, none⟩ = some (.slice A2 lb.length cb) := (b1.cell (p := ⟨g, 1, none⟩) hg).trans C1.out
  have HA1 := Lib.hid (HA.out.below b1 (Nat.le_refl _))
  have hs1 := b1.size
  clear c0 c1 o1 b1 HA HG d1
  go_wp2_with fail
  refine wp_loop_rounds 3 ?_
  rw [rounds_succ]
  go_wp2_with (at_builtin; refine wpList_append_strs rfl _ _ 33 rfl Try.underlying33 w.heap.size v1 [] rfl HO.out _ la rfl HA1.out (by simp; omega) hs1 ?_)
  intro v2 w2 o2 g2
  have HO2 := Lib.hid o2
  have HW2 : Hid (Below w.heap.size w w2) := HW.out.grown g2 hs1 (fun k hk => (HO.out.lt k hk).1)
  have d1 : w2.cell? ⟨g, 1, none⟩ = some (.slice A2 lb.length cb) := (HW2.out.cell (p := ⟨g, 1, none⟩) hg).trans C1.out
  have HB2 := Lib.hid (HB.out.below HW2.out (Nat.le_refl _))
  have hs2 := HW2.out.size
  clear o2 g2 HO HW HA1 HB d0 hs1
  go_wp2_with fail
  rw [rounds_succ]
  go_wp2_with (at_builtin; refine wpList_append_strs rfl _ _ 33 rfl Try.underlying33 w.heap.size v2 la rfl HO2.out _ lb rfl HB2.out (by omega) hs2 ?_)
  intro v3 w3 o3 g3
  have HO3 : Hid (w3.ownsRow w.heap.size 9 1 v3 (la ++ lb).length ((la ++ lb).map .string)) := by unfold Hid; simpa using o3
  have HW3 : Hid (Below w.heap.size w w3) := HW2.out.grown g3 hs2 (fun k hk => (HO2.out.lt k hk).1)
  clear o3 g3 HO2 HW2 HB2 d1 hs2
  go_wp2_with fail
  rw [rounds_succ]
  go_wp2_with fail
  go_ret
  exact ⟨_, rfl, HO3.out, HW3.out⟩
end Go.Proofs.Ytjgjhjecgdndjaa
