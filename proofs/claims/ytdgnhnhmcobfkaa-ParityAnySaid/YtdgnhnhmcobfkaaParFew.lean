/- parity: few, even, of both packages: walks. -/
import Derived.Test.YtdgnhnhmcobfkaaGfLaws
namespace Go.Proofs.Ytdgnhnhmcobfkaa
open Go.RowKit
set_option linter.unusedVariables false
set_option linter.unusedSimpArgs false
def fewN (n : Int) : Bool := decide (0 < n ∧ n ≤ 16)
set_option maxRecDepth 20000 in
set_option maxHeartbeats 1000000 in
theorem pfew_any (n : Int) (w : World) : Calls Try.prog 49 #[.int .i64 n] w fun e w' => e = .returned (.bool (fewN n)) ∧ w = w' := by
  by_cases h0 : 0 < n
  · have d0 : decide (0 < n) = true := by simpa using h0
    by_cases h1 : n ≤ 16
    · have d1 : decide (n ≤ 16) = true := by simpa using h1
      have HF : Hid (fewN n = true) := by unfold Hid fewN; simp [h0, h1]
      go_enter Try.func49, Try.ntmps49
      go_wp2
      go_ret
      exact ⟨by rw [HF.out]; rfl, rfl⟩
    · have d1 : decide (n ≤ 16) = false := by simpa using h1
      have HF : Hid (fewN n = false) := by unfold Hid fewN; simp [h0, h1]
      go_enter Try.func49, Try.ntmps49
      go_wp2
      go_ret
      exact ⟨by rw [HF.out]; rfl, rfl⟩
  · have d0 : decide (0 < n) = false := by simpa using h0
    have HF : Hid (fewN n = false) := by unfold Hid fewN; simp [h0]
    go_enter Try.func49, Try.ntmps49
    go_wp2
    go_ret
    exact ⟨by rw [HF.out]; rfl, rfl⟩
set_option maxRecDepth 20000 in
set_option maxHeartbeats 1000000 in
theorem prfew_any (n : Int) (w : World) : Calls Try.prog 54 #[.int .i64 n] w fun e w' => e = .returned (.bool (fewN n)) ∧ w = w' := by
  by_cases h0 : 1 ≤ n
  · have d0 : decide (1 ≤ n) = true := by simpa using h0
    by_cases h1 : n ≤ 16
    · have d1 : decide (n ≤ 16) = true := by simpa using h1
      have HF : Hid (fewN n = true) := by unfold Hid fewN; rw [decide_eq_true_iff]; omega
      go_enter Try.func54, Try.ntmps54
      go_wp2
      go_ret
      exact ⟨by rw [HF.out]; rfl, rfl⟩
    · have d1 : decide (n ≤ 16) = false := by simpa using h1
      have HF : Hid (fewN n = false) := by unfold Hid fewN; rw [decide_eq_false_iff_not]; omega
      go_enter Try.func54, Try.ntmps54
      go_wp2
      go_ret
      exact ⟨by rw [HF.out]; rfl, rfl⟩
  · have d0 : decide (1 ≤ n) = false := by simpa using h0
    have HF : Hid (fewN n = false) := by unfold Hid fewN; rw [decide_eq_false_iff_not]; omega
    go_enter Try.func54, Try.ntmps54
    go_wp2
    go_ret
    exact ⟨by rw [HF.out]; rfl, rfl⟩
def fewP (l : List ByteArray) : Bool := decide (l.length ≤ 40) && allN (fun n => decide (n ≤ 60)) l
set_option maxRecDepth 20000 in
set_option maxHeartbeats 2000000 in
theorem pfewP_any (w : World) (va : Value) (l : List ByteArray) (ha : StrsB w va l) :
    Calls Try.prog 25 #[va] w fun e w' => e = .returned (.bool (fewP l)) ∧ w = w' := by
  obtain ⟨A, c, rfl, h1, h2⟩ := ha.len
  have HC := Lib.hid ha.cells; clear ha
  have hm : l.length ≤ 9223372036854775807 := by unfold maxLen at h2; omega
  clear h1 h2
  by_cases h20 : l.length ≤ 40
  · have hd : decide ((40 : Int) < (l.length : Int)) = false := by rw [decide_eq_false_iff_not]; omega
    have HE : Hid (fewP l = allN (fun n => decide (n ≤ 60)) l) := by unfold Hid fewP; rw [decide_eq_true h20, Bool.true_and]
    clear h20
    go_enter Try.func25, Try.ntmps25
    go_wp2
    clear hd
    go_loop [10] (fun i => ∃ j : Nat, j ≤ l.length ∧ i = .int .i64 j ∧ Hid (allN (fun n => decide (n ≤ 60)) (l.take j) = true)) (fun i => l.length - (intOf i).toNat)
    case atStart => exact ⟨0, Nat.zero_le _, rfl, rfl⟩
    case round =>
      obtain ⟨j, hj, rfl, HT⟩ := hrel
      by_cases hlt : j < l.length
      · obtain ⟨b, off, rfl, hblt, hcell⟩ := HC.out (by omega)
        have e1 := hcell j hlt
        have hst := allN_step (fun n => decide (n ≤ 60)) l j hlt
        rw [HT.out, Bool.true_and] at hst
        clear hcell
        by_cases hs : l[j].size ≤ 60
        · have hs' : decide ((60 : Int) < (l[j].size : Int)) = false := by rw [decide_eq_false_iff_not]; omega
          rw [decide_eq_true hs] at hst
          have HS := Lib.hid hst; clear hst hs
          generalize l[j] = x at *
          go_wp2
          go_round
          case rel => exact ⟨j + 1, by omega, by go_num, HS.out⟩
          case measure => simp [intOf]; omega
        · have hs' : decide ((60 : Int) < (l[j].size : Int)) = true := by rw [decide_eq_true_iff]; omega
          rw [decide_eq_false hs] at hst
          have HF := Lib.hid (allN_pre (j + 1) hst)
          clear hst hs
          generalize l[j] = x at *
          go_wp2
          go_ret
          exact ⟨by rw [HE.out, HF.out]; rfl, rfl⟩
      · obtain rfl : j = l.length := by omega
        rw [List.take_length] at HT
        go_wp2
        go_ret
        exact ⟨by rw [HE.out, HT.out]; rfl, rfl⟩
  · have hd : decide ((40 : Int) < (l.length : Int)) = true := by rw [decide_eq_true_iff]; omega
    have HE : Hid (fewP l = false) := by unfold Hid fewP; rw [decide_eq_false h20, Bool.false_and]
    clear h20
    go_enter Try.func25, Try.ntmps25
    go_wp2
    go_ret
    exact ⟨by rw [HE.out]; rfl, rfl⟩
set_option maxRecDepth 20000 in
set_option maxHeartbeats 2000000 in
theorem preven_any (w : World) (va : Value) (l : List ByteArray) (ha : StrsB w va l) :
    Calls Try.prog 56 #[va] w fun e w' => e = .returned (.bool (evenL l)) ∧ ∃ m, w' = w.drewN m := by
  obtain ⟨A, c, rfl, h1, h2⟩ := ha.len
  have HC := Lib.hid ha.cells; clear ha
  have hm : l.length ≤ 9223372036854775807 := by unfold maxLen at h2; omega
  clear h1 h2
  go_enter Try.func56, Try.ntmps56
  go_wp2
  go_loopw [3] (fun i wr => ∃ j : Nat, j ≤ l.length ∧ i = .int .i64 j ∧ Hid (allN (fun n => decide (n = firstN l)) (l.take j) = true) ∧ Hid (∃ m, wr = w.drewN m)) (fun i _ => l.length - (intOf i).toNat)
  case atStart => exact ⟨0, Nat.zero_le _, rfl, rfl, 0, rfl⟩
  case round =>
    obtain ⟨j, hj, rfl, HT, HW⟩ := hrel
    by_cases hlt : j < l.length
    · obtain ⟨b, off, rfl, hblt, hcell⟩ := HC.out (by omega)
      have h0 : 0 < l.length := by omega
      have e1 : wr.cell? ⟨b, off + j, none⟩ = some (.string l[j]) := by obtain ⟨m, rfl⟩ := HW.out; exact hcell j hlt
      have e0 : wr.cell? ⟨b, off, none⟩ = some (.string l[0]) := by obtain ⟨m, rfl⟩ := HW.out; exact hcell 0 h0
      have hst := allN_step (fun n => decide (n = firstN l)) l j hlt
      rw [HT.out, Bool.true_and, ← firstN_get h0] at hst
      clear hcell
      by_cases hs : l[j].size = l[0].size
      · have hs' : ((l[j].size : Int) != (l[0].size : Int)) = false := by rw [bne_eq_false_iff_eq]; omega
        rw [decide_eq_true hs] at hst
        have HS := Lib.hid hst; clear hst hs
        have HN := Lib.hid (firstN_get h0)
        generalize l[j] = x at *
        generalize l[0] = y at *
        go_wp2_with fail
        go_quiet (fail)
        go_wp2_with fail
        go_roundw
        case rel => exact ⟨j + 1, by omega, by go_num, by have := HS.out; rw [HN.out] at this; exact this, by obtain ⟨m, rfl⟩ := HW.out; exact ⟨_, World.drewN_drewN _ _ _⟩⟩
        case measure => simp [intOf]; omega
      · have hs' : ((l[j].size : Int) != (l[0].size : Int)) = true := by rw [bne_iff_ne]; omega
        rw [decide_eq_false hs] at hst
        have HF := Lib.hid (allN_pre (j + 1) hst)
        rw [firstN_get h0] at HF
        clear hst hs
        generalize l[j] = x at *
        generalize l[0] = y at *
        go_wp2_with fail
        go_quiet (fail)
        go_wp2_with fail
        go_ret
        exact ⟨by unfold evenL; rw [HF.out]; rfl, by obtain ⟨m, rfl⟩ := HW.out; exact ⟨_, World.drewN_drewN _ _ _⟩⟩
    · obtain rfl : j = l.length := by omega
      rw [List.take_length] at HT
      go_wp2_with fail
      go_ret
      exact ⟨by unfold evenL; rw [HT.out]; rfl, HW.out⟩
set_option maxRecDepth 20000 in
set_option maxHeartbeats 1000000 in
theorem evcl_any (w : World) (va : Value) (l : List ByteArray) (pb : Nat) (x : ByteArray) (hp : w.cell? ⟨pb, 0, none⟩ = some va) (ha : StrsB w va l) (h0 : 0 < l.length) :
    Calls Try.prog 63 #[.string x, .pointer (some ⟨pb, 0, none⟩)] w fun e w' => e = .returned (.bool (decide (x.size ≠ firstN l))) ∧ w = w' := by
  obtain ⟨A, c, rfl, h1, h2⟩ := ha.len
  obtain ⟨b, off, rfl, hb, hc⟩ := ha.cells h0
  have e0 : w.cell? ⟨b, off, none⟩ = some (.string l[0]) := hc 0 h0
  have HN := Lib.hid (firstN_get h0)
  have hd : ((x.size : Int) != (l[0].size : Int)) = decide (x.size ≠ firstN l) := by
    rw [← firstN_get h0, Bool.eq_iff_iff, bne_iff_ne, decide_eq_true_iff]; omega
  generalize decide (x.size ≠ firstN l) = q at *
  generalize l[0] = y at *
  clear hc ha h1 h2
  go_enter Try.func63, Try.ntmps63
  go_wp2_with fail
  go_ret
  exact ⟨rfl, rfl⟩
set_option maxRecDepth 20000 in
set_option maxHeartbeats 2000000 in
theorem evix_any (w : World) (va : Value) (l : List ByteArray) (pb : Nat) (hp : w.cell? ⟨pb, 0, none⟩ = some va) (ha : StrsB w va l) :
    Calls Try.prog 71 #[va, .func (.func 63) #[] #[.pointer (some ⟨pb, 0, none⟩)]] w fun e w' => ∃ k : Int, e = .returned (.int .i64 k) ∧ (evenL l = true ∧ k = -1 ∨ evenL l = false ∧ 0 ≤ k) ∧ w = w' := by
  have HCL := Lib.hid (fun x h0 => evcl_any w va l pb x hp ha h0)
  obtain ⟨A, c, rfl, h1, h2⟩ := ha.len
  have HC := Lib.hid ha.cells; clear ha
  have hm : l.length ≤ 9223372036854775807 := by unfold maxLen at h2; omega
  clear h1 h2
  go_enter Try.func71, Try.ntmps71
  go_wp2
  go_loop [8] (fun i => ∃ j : Nat, j ≤ l.length ∧ i = .int .i64 j ∧ Hid (allN (fun n => decide (n = firstN l)) (l.take j) = true)) (fun i => l.length - (intOf i).toNat)
  case atStart => exact ⟨0, Nat.zero_le _, rfl, rfl⟩
  case round =>
    obtain ⟨j, hj, rfl, HT⟩ := hrel
    by_cases hlt : j < l.length
    · obtain ⟨b, off, rfl, hblt, hcell⟩ := HC.out (by omega)
      have h0 : 0 < l.length := by omega
      have e1 := hcell j hlt
      have hst := allN_step (fun n => decide (n = firstN l)) l j hlt
      rw [HT.out, Bool.true_and] at hst
      have HX := Lib.hid (HCL.out l[j] h0)
      clear hcell
      by_cases hs : l[j].size = firstN l
      · have hq : decide (l[j].size ≠ firstN l) = false := by simp [hs]
        rw [decide_eq_true hs] at hst
        rw [hq] at HX
        have HS := Lib.hid hst; clear hst hs hq
        generalize l[j] = x at *
        go_wp2_with fail
        refine HX.out.mono ?_
        rintro e w' ⟨rfl, rfl⟩
        go_wp2_with fail
        go_round
        case rel => exact ⟨j + 1, by omega, by go_num, HS.out⟩
        case measure => simp [intOf]; omega
      · have hq : decide (l[j].size ≠ firstN l) = true := by simp [hs]
        rw [decide_eq_false hs] at hst
        rw [hq] at HX
        have HF : Hid (evenL l = false) := Lib.hid (allN_pre (j + 1) hst)
        clear hst hs hq
        generalize l[j] = x at *
        go_wp2_with fail
        refine HX.out.mono ?_
        rintro e w' ⟨rfl, rfl⟩
        go_wp2_with fail
        go_ret
        exact ⟨_, rfl, .inr ⟨HF.out, by omega⟩, rfl⟩
    · obtain rfl : j = l.length := by omega
      rw [List.take_length] at HT
      go_wp2_with fail
      go_ret
      exact ⟨_, rfl, .inl ⟨HT.out, rfl⟩, rfl⟩
set_option maxRecDepth 20000 in
set_option maxHeartbeats 1000000 in
theorem evcf_any (w : World) (va : Value) (l : List ByteArray) (pb : Nat) (hp : w.cell? ⟨pb, 0, none⟩ = some va) (ha : StrsB w va l) :
    Calls Try.prog 62 #[va, .func (.func 63) #[] #[.pointer (some ⟨pb, 0, none⟩)]] w fun e w' => e = .returned (.bool (!evenL l)) ∧ w = w' := by
  have HI := Lib.hid (evix_any w va l pb hp ha)
  obtain ⟨A, c, rfl, h1, h2⟩ := ha.len
  clear ha h1 h2
  go_enter Try.func62, Try.ntmps62
  go_wp2_with fail
  refine HI.out.mono ?_
  rintro e w' ⟨k, rfl, hk, rfl⟩
  rcases hk with ⟨hE, rfl⟩ | ⟨hE, hk0⟩
  · have HE := Lib.hid hE; clear hE
    go_wp2_with fail
    go_ret
    exact ⟨by rw [HE.out]; rfl, rfl⟩
  · have HE := Lib.hid hE; clear hE
    have hd : decide (0 ≤ k) = true := by simpa using hk0
    go_wp2_with fail
    go_ret
    exact ⟨by rw [HE.out]; rfl, rfl⟩
set_option maxRecDepth 20000 in
set_option maxHeartbeats 1000000 in
theorem peven_any (w : World) (va : Value) (l : List ByteArray) (ha : StrsB w va l) :
    Calls Try.prog 52 #[va] w fun e w' => e = .returned (.bool (evenL l)) ∧ Below w.heap.size w w' := by
  have hb : ∀ t, Below w.heap.size w (w.alloc (.cells #[va] t)) := fun t => (Below.refl _ _).alloc (Nat.le_refl _) _
  have HC := Lib.hid (evcf_any (w.alloc (.cells #[va] 31)) va l w.heap.size (by simp) (ha.below (hb _) (Nat.le_refl _)))
  have HB := Lib.hid (hb 31)
  obtain ⟨A, c, rfl, h1, h2⟩ := ha.len
  clear ha h1 h2 hb
  cases hE : evenL l <;> rw [hE] at HC <;> clear hE
  all_goals
    go_enter Try.func52, Try.ntmps52
    go_wp2_with fail
    refine HC.out.mono ?_
    rintro e w' ⟨rfl, rfl⟩
    go_wp2_with fail
    go_ret
    exact ⟨rfl, HB.out⟩
end Go.Proofs.Ytdgnhnhmcobfkaa
