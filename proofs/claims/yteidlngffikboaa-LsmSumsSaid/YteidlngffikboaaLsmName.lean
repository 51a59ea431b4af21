/- Walks of the law's own helpers of chapter 38: few, name. -/
import Derived.Test.YteidlngffikboaaLsmFlush
namespace Go.Proofs.Yteidlngffikboaa
open Go.RowKit
set_option linter.unusedVariables false
set_option linter.unusedSimpArgs false
def fewR : Nat → List (List Cnt) → Bool
  | _, [] => true
  | n, r :: rs => decide (n + r.length ≤ 150) && fewR (n + r.length) rs
def fewB (s : CntS) : Bool := decide (s.2.length ≤ 14) && decide (s.1.length ≤ 60) && fewR s.1.length s.2
theorem fewR_le : ∀ (n : Nat) (l : List (List Cnt)), fewR n l = true → n ≤ 150 → n + total l ≤ 150
  | n, [], _, h => by simpa [total] using h
  | n, r :: rs, h, _ => by
    rw [fewR, Bool.and_eq_true, decide_eq_true_iff] at h
    have := fewR_le _ rs h.2 h.1
    unfold total at *
    simp only [List.map_cons, List.sum_cons]
    omega
theorem fewB_le {s : CntS} (h : fewB s = true) : sizeS s ≤ 150 ∧ s.2.length ≤ 14 := by
  unfold fewB at h
  rw [Bool.and_eq_true, Bool.and_eq_true, decide_eq_true_iff, decide_eq_true_iff] at h
  exact ⟨fewR_le _ _ h.2 (by omega), h.1.1⟩
theorem fewR_step (n : Nat) (l : List (List Cnt)) (j : Nat) (h : j < l.length) : fewR n (l.drop j) = (decide (n + l[j].length ≤ 150) && fewR (n + l[j].length) (l.drop (j + 1))) := by
  rw [List.drop_eq_getElem_cons h, fewR]
set_option maxRecDepth 20000 in
set_option maxHeartbeats 2000000 in
theorem few_any (w : World) (v : Value) (s : CntS) (hs : LsmN w v s) (hq : ∀ r ∈ s.2, r.length ≤ 140737488351232) :
    Calls Try.prog 6 #[v] w fun e w' => e = .returned (.bool (fewB s)) ∧ Below w.heap.size w w' := by
  obtain ⟨vm, vr, rfl, hm, hr⟩ := hs
  obtain ⟨m, rs⟩ := s
  dsimp only at hm hr hq
  have HQ := Lib.hid hq
  clear hq
  obtain ⟨wE, hwE⟩ : ∃ wE, wE = w.alloc (.cells #[vm, vr] 25) := ⟨_, rfl⟩
  have HWE := Lib.hid hwE.symm
  have HBE : Hid (Below w.heap.size w wE) := by rw [hwE]; exact (Below.refl _ _).alloc (Nat.le_refl _) _
  have q1 : wE.heap[w.heap.size]? = some (.cells #[vm, vr] 25) := by rw [hwE]; exact World.alloc_heap_new w _
  have x0 : wE.cell? ⟨w.heap.size, 0, none⟩ = some vm := by unfold World.cell?; rw [q1]; rfl
  have x1 : wE.cell? ⟨w.heap.size, 1, none⟩ = some vr := by unfold World.cell?; rw [q1]; rfl
  have hlE : w.heap.size < wE.heap.size := by rw [hwE]; simp
  obtain ⟨⟨A0, c0, rfl, k1, k2, k3⟩, k4⟩ := hm
  have hc0 : c0 ≤ 9223372036854775807 := by unfold maxLen at k2; omega
  obtain ⟨⟨A, c, rfl, z1, z2, z3⟩, z4⟩ := hr
  have hc9 : c ≤ 9223372036854775807 := by unfold maxLen at z2; omega
  have HCC := Lib.hid z3
  obtain ⟨n, hn⟩ : ∃ n, n = rs.length := ⟨_, rfl⟩
  obtain ⟨lm, hlm⟩ : ∃ lm, lm = m.length := ⟨_, rfl⟩
  have HN := Lib.hid hn
  have HFB : Hid (fewB (m, rs) = (decide (n ≤ 14) && decide (lm ≤ 60) && fewR lm rs)) := by rw [hn, hlm]; rfl
  rw [← hn] at HWE x1 z1
  rw [← hlm] at HWE x0 k1
  unfold LsmV
  rw [← hn, ← hlm]
  clear hwE q1 z2 z3 z4 k2 k3 k4 hn hlm
  by_cases h14 : n ≤ 14
  · have d1 : decide ((14 : Int) < (n : Int)) = false := by rw [decide_eq_false_iff_not]; omega
    have d2 : decide (14 < n) = false := by rw [decide_eq_false_iff_not]; omega
    by_cases h60 : lm ≤ 60
    · have d3 : decide ((60 : Int) < (lm : Int)) = false := by rw [decide_eq_false_iff_not]; omega
      have d4 : decide (60 < lm) = false := by rw [decide_eq_false_iff_not]; omega
      have HE : Hid (fewB (m, rs) = fewR lm rs) := by rw [HFB.out, decide_eq_true h14, decide_eq_true h60]; rfl
      clear HFB
      go_enter Try.func6, Try.ntmps6
      go_wp2_with fail
      rw [HWE.out]
      go_wp2_with fail
      go_loop [20, 3] (fun a u => ∃ j p : Nat, j ≤ n ∧ p ≤ 150 ∧ a = .int .i64 j ∧ u = .int .i64 p ∧ Hid (fewR lm rs = fewR p (rs.drop j))) (fun a _ => n - (intOf a).toNat)
      case atStart => exact ⟨0, lm, Nat.zero_le _, by omega, rfl, rfl, by unfold Hid; rfl⟩
      case round =>
        obtain ⟨j, p, hj, hp, rfl, rfl, HI⟩ := hrel
        by_cases hlt : j < n
        · have hlt' : (j : Int) < (n : Int) := by omega
          have hjl : j < rs.length := by rw [← HN.out]; exact hlt
          obtain ⟨b, off, rfl, hblt, hc⟩ := HCC.out (by omega)
          obtain ⟨u, c1, c2⟩ := hc j hjl
          have e1 := (HBE.out.cell (p := ⟨b, off + j, none⟩) hblt).trans c1
          have hst := fewR_step p rs j hjl
          obtain ⟨⟨Au, cu, rfl, g1, g2, g3⟩, g4⟩ := c2
          have hqm := HQ.out _ (List.getElem_mem hjl)
          clear g2 g3 g4 hc c1
          have HST := Lib.hid (HI.out.trans hst)
          clear hst HI
          generalize rs[j].length = q at *
          by_cases hpq : p + q ≤ 150
          · have d5 : decide ((150 : Int) < (p : Int) + (q : Int)) = false := by rw [decide_eq_false_iff_not]; omega
            have HE2 : Hid (fewR lm rs = fewR (p + q) (rs.drop (j + 1))) := by rw [HST.out, decide_eq_true hpq]; rfl
            go_wp2_with fail
            exact ⟨⟨j + 1, p + q, by omega, by omega, by go_num, by go_num, HE2⟩, by simp [intOf]; omega⟩
          · have d5 : decide ((150 : Int) < (p : Int) + (q : Int)) = true := by rw [decide_eq_true_iff]; omega
            have HE2 : Hid (fewB (m, rs) = false) := by rw [HE.out, HST.out, decide_eq_false hpq]; rfl
            go_wp2_with fail
            go_ret
            rw [HE2.out]
            exact ⟨rfl, HBE.out⟩
        · obtain rfl : j = n := by omega
          have HE2 : Hid (fewB (m, rs) = true) := by rw [HE.out, HI.out, List.drop_eq_nil_of_le (by rw [HN.out]; exact Nat.le_refl _)]; rfl
          go_wp2_with fail
          go_ret
          rw [HE2.out]
          exact ⟨rfl, HBE.out⟩
    · have d3 : decide ((60 : Int) < (lm : Int)) = true := by rw [decide_eq_true_iff]; omega
      have d4 : decide (60 < lm) = true := by rw [decide_eq_true_iff]; omega
      have HE : Hid (fewB (m, rs) = false) := by rw [HFB.out, decide_eq_false h60]; unfold Hid; simp
      go_enter Try.func6, Try.ntmps6
      go_wp2_with fail
      rw [HWE.out]
      go_wp2_with fail
      go_ret
      rw [HE.out]
      exact ⟨rfl, HBE.out⟩
  · have d1 : decide ((14 : Int) < (n : Int)) = true := by rw [decide_eq_true_iff]; omega
    have d2 : decide (14 < n) = true := by rw [decide_eq_true_iff]; omega
    have HE : Hid (fewB (m, rs) = false) := by rw [HFB.out, decide_eq_false h14]; unfold Hid; simp
    go_enter Try.func6, Try.ntmps6
    go_wp2_with fail
    rw [HWE.out]
    go_wp2_with fail
    go_ret
    rw [HE.out]
    exact ⟨rfl, HBE.out⟩
def nameB (n : UInt8) : ByteArray := ⟨#[n % 64, 0, 0, 0, 0, 0, 0, 0, 0, 0, 0, 0, 0, 0, 0, 0, 0, 0, 0, 0, 0, 0, 0, 0, 0, 0, 0, 0, 0, 0, 0, n % 5]⟩
theorem name_cells (n : UInt8) : (#[.int .u8 ((n.toNat : Int) % 64), .int .u8 0, .int .u8 0, .int .u8 0, .int .u8 0, .int .u8 0, .int .u8 0, .int .u8 0, .int .u8 0, .int .u8 0, .int .u8 0, .int .u8 0, .int .u8 0, .int .u8 0, .int .u8 0, .int .u8 0, .int .u8 0, .int .u8 0, .int .u8 0, .int .u8 0, .int .u8 0, .int .u8 0, .int .u8 0, .int .u8 0, .int .u8 0, .int .u8 0, .int .u8 0, .int .u8 0, .int .u8 0, .int .u8 0, .int .u8 0, .int .u8 ((n.toNat : Int) % 5)] : Array Value) = ((nameB n).data.toList.map fun x => Value.int .u8 (x.toNat : Int)).toArray := by
  simp [nameB]
theorem name_conv (w : World) (n : UInt8) : (convert 78 9 (.slice (some ⟨w.heap.size, 0, none⟩) 32 32)).run Try.prog (w.alloc (.cells #[.int .u8 ((n.toNat : Int) % 64), .int .u8 0, .int .u8 0, .int .u8 0, .int .u8 0, .int .u8 0, .int .u8 0, .int .u8 0, .int .u8 0, .int .u8 0, .int .u8 0, .int .u8 0, .int .u8 0, .int .u8 0, .int .u8 0, .int .u8 0, .int .u8 0, .int .u8 0, .int .u8 0, .int .u8 0, .int .u8 0, .int .u8 0, .int .u8 0, .int .u8 0, .int .u8 0, .int .u8 0, .int .u8 0, .int .u8 0, .int .u8 0, .int .u8 0, .int .u8 0, .int .u8 ((n.toNat : Int) % 5)] 5)) = .ok (.string (nameB n)) (w.alloc (.cells #[.int .u8 ((n.toNat : Int) % 64), .int .u8 0, .int .u8 0, .int .u8 0, .int .u8 0, .int .u8 0, .int .u8 0, .int .u8 0, .int .u8 0, .int .u8 0, .int .u8 0, .int .u8 0, .int .u8 0, .int .u8 0, .int .u8 0, .int .u8 0, .int .u8 0, .int .u8 0, .int .u8 0, .int .u8 0, .int .u8 0, .int .u8 0, .int .u8 0, .int .u8 0, .int .u8 0, .int .u8 0, .int .u8 0, .int .u8 0, .int .u8 0, .int .u8 0, .int .u8 0, .int .u8 ((n.toNat : Int) % 5)] 5)) := by
  rw [name_cells]
  have h := run_bytes_str (P := Try.prog) (w.alloc (.cells ((nameB n).data.toList.map fun x => Value.int .u8 (x.toNat : Int)).toArray 5)) 78 9 5 Try.underlying78 Try.underlying5 Try.underlying9 w.heap.size 0 32 32 (nameB n).data.toList rfl (fun i hi => by
    unfold World.cell?
    rw [World.alloc_heap_new]
    have : (nameB n).data[i]? = some (nameB n).data[i] := by simp at hi; simp [hi]
    simp [this])
  rw [h]
set_option maxRecDepth 20000 in
set_option maxHeartbeats 2000000 in
theorem name_any (w : World) (n : UInt8) :
    Calls Try.prog 27 #[.int .u8 n.toNat] w fun e w' => e = .returned (.string (nameB n)) ∧ Below w.heap.size w w' := by
  have hmk : ∀ w, (Instr.makeSlice 78 (.int .i64 32) (.int .i64 32)).run Try.prog w = .ok (.slice (some ⟨w.heap.size, 0, none⟩) 32 32) (w.alloc (.cells #[.int .u8 0, .int .u8 0, .int .u8 0, .int .u8 0, .int .u8 0, .int .u8 0, .int .u8 0, .int .u8 0, .int .u8 0, .int .u8 0, .int .u8 0, .int .u8 0, .int .u8 0, .int .u8 0, .int .u8 0, .int .u8 0, .int .u8 0, .int .u8 0, .int .u8 0, .int .u8 0, .int .u8 0, .int .u8 0, .int .u8 0, .int .u8 0, .int .u8 0, .int .u8 0, .int .u8 0, .int .u8 0, .int .u8 0, .int .u8 0, .int .u8 0, .int .u8 0] 5)) := fun _ => by kernel_rfl
  have hcv := name_conv w n
  have HB : Hid (Below w.heap.size w (w.alloc (.cells #[.int .u8 ((n.toNat : Int) % 64), .int .u8 0, .int .u8 0, .int .u8 0, .int .u8 0, .int .u8 0, .int .u8 0, .int .u8 0, .int .u8 0, .int .u8 0, .int .u8 0, .int .u8 0, .int .u8 0, .int .u8 0, .int .u8 0, .int .u8 0, .int .u8 0, .int .u8 0, .int .u8 0, .int .u8 0, .int .u8 0, .int .u8 0, .int .u8 0, .int .u8 0, .int .u8 0, .int .u8 0, .int .u8 0, .int .u8 0, .int .u8 0, .int .u8 0, .int .u8 0, .int .u8 ((n.toNat : Int) % 5)] 5))) := (Below.refl _ _).alloc (Nat.le_refl _) _
  go_enter Try.func27, Try.ntmps27
  go_wp2_with fail
  go_ret
  exact ⟨rfl, HB.out⟩
/-- as the law's own keys are handed on: the number spelled out -/
theorem name_const (w : World) (n : UInt8) (k : Int) (hk : (n.toNat : Int) = k) :
    Calls Try.prog 27 #[.int .u8 k] w fun e w' => e = .returned (.string (nameB n)) ∧ Below w.heap.size w w' := by
  rw [← hk]; exact name_any w n
end Go.Proofs.Yteidlngffikboaa
