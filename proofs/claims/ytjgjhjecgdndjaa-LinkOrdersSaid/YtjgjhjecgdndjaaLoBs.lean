/- Comparing numbers; the binary search in a row of frames: some place of it (nothing is said of the order). -/
import Derived.Test.YtjgjhjecgdndjaaLoRow
namespace Go.Proofs.Ytjgjhjecgdndjaa
open Go.RowKit
set_option linter.unusedVariables false
set_option linter.unusedSimpArgs false
def cmpI (a b : Int) : Int := if a < b then -1 else if b < a then 1 else 0
set_option maxRecDepth 20000 in
set_option maxHeartbeats 1000000 in
theorem isNaNI_any (a : Int) (w : World) : Calls Try.prog 63 #[.int .i64 a] w fun e w' => e = .returned (.bool false) ∧ w = w' := by
  go_enter Try.func63, Try.ntmps63
  go_wp2
  go_ret
  exact ⟨rfl, rfl⟩
set_option maxRecDepth 20000 in
set_option maxHeartbeats 1000000 in
theorem cmpI_any (a b : Int) (w : World) : Calls Try.prog 53 #[.int .i64 a, .int .i64 b] w fun e w' => e = .returned (.int .i64 (cmpI a b)) ∧ w = w' := by
  have HN := Lib.hid isNaNI_any
  unfold cmpI
  by_cases h1 : a < b
  · have d1 : decide (a < b) = true := decide_eq_true h1
    rw [if_pos h1]
    go_enter Try.func53, Try.ntmps53
    go_wp2_with fail
    refine (HN.out _ _).mono ?_
    rintro e w' ⟨rfl, rfl⟩
    go_wp2_with fail
    refine (HN.out _ _).mono ?_
    rintro e w' ⟨rfl, rfl⟩
    go_wp2
    go_ret
    exact ⟨rfl, rfl⟩
  · rw [if_neg h1]
    have d1 : decide (a < b) = false := decide_eq_false h1
    by_cases h2 : b < a
    · rw [if_pos h2]
      have d2 : decide (b < a) = true := decide_eq_true h2
      go_enter Try.func53, Try.ntmps53
      go_wp2_with fail
      refine (HN.out _ _).mono ?_
      rintro e w' ⟨rfl, rfl⟩
      go_wp2_with fail
      refine (HN.out _ _).mono ?_
      rintro e w' ⟨rfl, rfl⟩
      go_wp2
      go_ret
      exact ⟨rfl, rfl⟩
    · rw [if_neg h2]
      have d2 : decide (b < a) = false := decide_eq_false h2
      go_enter Try.func53, Try.ntmps53
      go_wp2_with fail
      refine (HN.out _ _).mono ?_
      rintro e w' ⟨rfl, rfl⟩
      go_wp2_with fail
      refine (HN.out _ _).mono ?_
      rintro e w' ⟨rfl, rfl⟩
      go_wp2
      go_ret
      exact ⟨rfl, rfl⟩
def Frm4.v (x : Frm4) : Value := .agg #[.int .u64 x.1.toNat, .int .i64 x.2.1, .int .i64 x.2.2.1, .string x.2.2.2]
set_option maxRecDepth 20000 in
set_option maxHeartbeats 1000000 in
theorem keep1_any (x : Frm4) (b : Int) (w : World) : Calls Try.prog 52 #[.agg #[.int .u64 x.1.toNat, .int .i64 x.2.1, .int .i64 x.2.2.1, .string x.2.2.2], .int .i64 b] w fun e w' => e = .returned (.int .i64 (cmpI x.2.1 b)) ∧ Below w.heap.size w w' := by
  have HC := Lib.hid (fun a b => cmpI_any a b)
  obtain ⟨s, q, a, d⟩ := x
  dsimp only
  have q0 := cells4 (World.alloc_heap_new w (.cells #[.int .u64 s.toNat, .int .i64 q, .int .i64 a, .string d] 24))
  obtain ⟨y0, y1, y2, y3, _⟩ := q0
  go_enter Try.func52, Try.ntmps52
  go_wp2_with fail
  refine (HC.out _ _ _).mono ?_
  rintro e w' ⟨rfl, rfl⟩
  go_wp2_with fail
  go_ret
  exact ⟨rfl, (Below.refl _ _).alloc (Nat.le_refl _) _⟩
set_option maxRecDepth 20000 in
set_option maxHeartbeats 2000000 in
theorem bsF_any (v : Value) (l : List Frm4) (k : Int) (w : World) (hv : FrsB w v l) (hl : l.length ≤ 1000000000) :
    Calls Try.prog 51 #[v, .int .i64 k, .func (.func 52) #[] #[]] w fun e w' => ∃ (p : Nat) (q : Bool), e = .returned (.tuple #[.int .i64 p, .bool q]) ∧ p ≤ l.length ∧ Below w.heap.size w w' := by
  have HOr := Lib.hid (fun x w => keep1_any x k w)
  have HV := Lib.hid hv
  obtain ⟨A, c, rfl, h2, h3, h4⟩ := hv
  have hc9 : c ≤ 9223372036854775807 := by unfold maxLen at h3; omega
  obtain ⟨b, off, hb⟩ : ∃ b off, 0 < l.length → A = some ⟨b, off, none⟩ ∧ b < w.heap.size ∧ ∀ i (h : i < l.length), w.cell? ⟨b, off + i * 4, none⟩ = some (.int .u64 l[i].1.toNat) ∧ w.cell? ⟨b, off + i * 4 + 1, none⟩ = some (.int .i64 l[i].2.1) ∧ w.cell? ⟨b, off + i * 4 + 2, none⟩ = some (.int .i64 l[i].2.2.1) ∧ w.cell? ⟨b, off + i * 4 + 3, none⟩ = some (.string l[i].2.2.2) := by
    by_cases h0 : 0 < l.length
    · obtain ⟨b, off, h⟩ := h4 h0; exact ⟨b, off, fun _ => h⟩
    · exact ⟨0, 0, fun h => absurd h h0⟩
  have HB := Lib.hid hb
  obtain ⟨n, hn⟩ : ∃ n, n = l.length := ⟨_, rfl⟩
  have HN := Lib.hid hn
  rw [← hn] at hl h2 ⊢
  clear hb h3 h4 hn
  go_enter Try.func51, Try.ntmps51
  go_wp2_with fail
  go_loopw [9, 10] (fun a b' wr => ∃ i j : Nat, i ≤ j ∧ j ≤ n ∧ a = .int .i64 i ∧ b' = .int .i64 j ∧ Hid (Below w.heap.size w wr)) (fun a b' _ => (intOf b' - intOf a).toNat)
  case atStart => exact ⟨0, n, Nat.zero_le _, Nat.le_refl _, rfl, rfl, Below.refl _ _⟩
  case round =>
    obtain ⟨i, j, hij0, hjn, rfl, rfl, HBr⟩ := hrel
    by_cases hlt : i < j
    · have hlt' : (i : Int) < (j : Int) := by omega
      have hij : (0 : Int) ≤ (i : Int) + (j : Int) := by omega
      have hij2 : (i : Int) + (j : Int) ≤ 4000000000 := by omega
      have hnn := HN.out
      obtain ⟨rfl, hblt, hcells⟩ := HB.out (by omega)
      obtain ⟨m, hm⟩ : ∃ m, m = (i + j) / 2 := ⟨_, rfl⟩
      have hmid : ((i : Int) + (j : Int)) / 2 = (m : Int) := by omega
      have hml : m < l.length := by omega
      have hmn : (m : Int) < (n : Int) := by omega
      have hmi : i ≤ m := by omega
      have hmj : m < j := by omega
      obtain ⟨x1, x2, x3, x4⟩ := hcells m hml
      have y1 := (HBr.out.cell (p := ⟨b, off + m * 4, none⟩) hblt).trans x1
      have y2 := (HBr.out.cell (p := ⟨b, off + m * 4 + 1, none⟩) hblt).trans x2
      have y3 := (HBr.out.cell (p := ⟨b, off + m * 4 + 2, none⟩) hblt).trans x3
      have y4 := (HBr.out.cell (p := ⟨b, off + m * 4 + 3, none⟩) hblt).trans x4
      have HOm := Lib.hid (HOr.out l[m])
      generalize l[m] = x at *
      have hm0 : (0 : Int) ≤ (m : Int) := by omega
      by_cases hmp : cmpI x.2.1 k < 0
      · have hneg : decide (cmpI x.2.1 k < 0) = true := by simpa using hmp
        clear x1 x2 x3 x4 hcells hm hnn hij2 hmp
        go_wp2_with fail
        refine (HOm.out _).mono ?_
        rintro e w2 ⟨rfl, b2⟩
        have HB2 := Lib.hid (HBr.out.trans (b2.mono HBr.out.size))
        clear b2 y1 y2 y3 y4
        go_wp2_with fail
        go_roundw
        case rel => exact ⟨m + 1, j, by omega, hjn, by go_num, rfl, HB2⟩
        case measure => simp [intOf]; omega
      · have hneg : decide (cmpI x.2.1 k < 0) = false := by rw [decide_eq_false_iff_not]; exact hmp
        clear x1 x2 x3 x4 hcells hm hnn hij2 hmp
        go_wp2_with fail
        refine (HOm.out _).mono ?_
        rintro e w2 ⟨rfl, b2⟩
        have HB2 := Lib.hid (HBr.out.trans (b2.mono HBr.out.size))
        clear b2 y1 y2 y3 y4
        go_wp2_with fail
        go_roundw
        case rel => exact ⟨i, m, by omega, by omega, rfl, rfl, HB2⟩
        case measure => simp [intOf]; omega
    · obtain rfl : i = j := by omega
      by_cases hin : i < n
      · have hin' : (i : Int) < (n : Int) := by omega
        have hnn := HN.out
        obtain ⟨rfl, hblt, hcells⟩ := HB.out (by omega)
        have hml : i < l.length := by omega
        obtain ⟨x1, x2, x3, x4⟩ := hcells i hml
        have y1 := (HBr.out.cell (p := ⟨b, off + i * 4, none⟩) hblt).trans x1
        have y2 := (HBr.out.cell (p := ⟨b, off + i * 4 + 1, none⟩) hblt).trans x2
        have y3 := (HBr.out.cell (p := ⟨b, off + i * 4 + 2, none⟩) hblt).trans x3
        have y4 := (HBr.out.cell (p := ⟨b, off + i * 4 + 3, none⟩) hblt).trans x4
        have HOm := Lib.hid (HOr.out l[i])
        generalize l[i] = x at *
        obtain ⟨q, hqb⟩ : ∃ q, (cmpI x.2.1 k == 0) = q := ⟨_, rfl⟩
        clear x1 x2 x3 x4 hcells hnn
        go_wp2_with fail
        refine (HOm.out _).mono ?_
        rintro e w2 ⟨rfl, b2⟩
        have HB2 := Lib.hid (HBr.out.trans (b2.mono HBr.out.size))
        clear b2 y1 y2 y3 y4
        go_wp2_with fail
        go_ret2
        exact ⟨i, q, rfl, hjn, HB2.out⟩
      · have hin' : ¬ (i : Int) < (n : Int) := by omega
        have hnn := HN.out
        clear hnn
        go_wp2_with fail
        go_ret2
        first
          | exact ⟨i, false, rfl, hjn, HBr.out⟩
          | exact ⟨i, .inl rfl, hjn, HBr.out⟩
          | exact ⟨rfl, hjn, HBr.out⟩
end Go.Proofs.Ytjgjhjecgdndjaa
