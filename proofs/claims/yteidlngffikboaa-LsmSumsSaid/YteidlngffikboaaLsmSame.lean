/- Walks: which counts are the same: slices.Equal, slices.EqualFunc, lsm.Same; same, Same, SameRow of the document (printed by gen-lsm-same.py). -/
import Derived.Test.YteidlngffikboaaLsmFlush
import Derived.Laws.StructEq
namespace Go.Proofs.Yteidlngffikboaa
open Go.RowKit
set_option linter.unusedVariables false
set_option linter.unusedSimpArgs false
def cntE (x y : Cnt) : Bool := (x.1.toList == y.1.toList) && decide (x.2 = y.2)
theorem cntE_iff (x y : Cnt) : cntE x y = true ↔ x = y := by
  unfold cntE
  simp only [Bool.and_eq_true, decide_eq_true_eq]
  constructor
  · rintro ⟨h1, h2⟩
    refine Prod.ext ?_ h2
    refine Decidable.byContradiction fun h => ?_
    rw [str_eq_f h] at h1; cases h1
  · rintro rfl
    exact ⟨str_eq_t rfl, rfl⟩
theorem cnt_neq (x y : Cnt) (w : World) : (binOp .neq 51 (.agg #[.string x.1, .int .i64 x.2]) (.agg #[.string y.1, .int .i64 y.2])).run Try.prog w = .ok (.bool (!cntE x y)) w := by
  have u3 := Try.underlying3
  have u4 := Try.underlying9
  have hS : Try.prog.underlying 51 = some (.struct (Try.prog.fieldsOf 51)) := by kernel_rfl
  have hp : Try.prog.stoodInHeld 51 = false := by kernel_rfl
  have a3 := Try.isAgg3
  have z3 := Try.sizeOf3
  have a4 := Try.isAgg9
  have z4 := Try.sizeOf9
  unfold cntE
  rw [run_neq_struct, show (10000 : Nat) = 9999 + 1 from rfl, run_equalIn_agg w 9999 51 _ _ hS hp]
  simp only [Program.fieldsOf, Try.underlying51]
  go_simp
  by_cases h1 : (x.1.toList == y.1.toList) = true <;> by_cases h2 : x.2 = y.2 <;> simp_all
theorem cnt_guard (op : BinOp) (p q : Operand) (x y : Cnt) (w : World) : (eqGuard op 51 p q (.agg #[.string x.1, .int .i64 x.2]) (.agg #[.string y.1, .int .i64 y.2])).run Try.prog w = .ok () w := run_eqGuard_agg _ _ _ _ _ _ _ (by kernel_rfl)
def rowE (a b : List Cnt) : Bool := decide (a = b)
theorem rowE_get {a b : List Cnt} (hl : a.length = b.length) (h : ∀ i (h1 : i < a.length) (h2 : i < b.length), cntE a[i] b[i] = true) : rowE a b = true := by
  unfold rowE
  rw [decide_eq_true_iff]
  exact List.ext_getElem hl fun i h1 h2 => (cntE_iff _ _).1 (h i h1 h2)
theorem rowE_ne {a b : List Cnt} (i : Nat) (h1 : i < a.length) (h2 : i < b.length) (h : cntE a[i] b[i] = false) : rowE a b = false := by
  unfold rowE
  rw [decide_eq_false_iff_not]
  rintro rfl
  rw [(cntE_iff _ _).2 rfl] at h; cases h
def runsE (a b : List (List Cnt)) : Bool := decide (a = b)
theorem runsE_get {a b : List (List Cnt)} (hl : a.length = b.length) (h : ∀ i (h1 : i < a.length) (h2 : i < b.length), rowE a[i] b[i] = true) : runsE a b = true := by
  unfold runsE
  rw [decide_eq_true_iff]
  exact List.ext_getElem hl fun i h1 h2 => by simpa [rowE] using h i h1 h2
theorem runsE_ne {a b : List (List Cnt)} (i : Nat) (h1 : i < a.length) (h2 : i < b.length) (h : rowE a[i] b[i] = false) : runsE a b = false := by
  unfold runsE
  rw [decide_eq_false_iff_not]
  rintro rfl
  simp [rowE] at h
def sameB (s t : CntS) : Bool := rowE s.1 t.1 && runsE s.2 t.2
theorem sameB_iff (s t : CntS) : sameB s t = true ↔ s = t := by
  unfold sameB rowE runsE
  simp only [Bool.and_eq_true, decide_eq_true_eq]
  exact ⟨fun h => Prod.ext h.1 h.2, fun h => by rw [h]; exact ⟨rfl, rfl⟩⟩
set_option maxRecDepth 20000 in
set_option maxHeartbeats 2000000 in
theorem equal_any (w : World) (va vb : Value) (la lb : List Cnt) (ha : CntB w va la) (hb : CntB w vb lb) :
    Calls Try.prog 42 #[va, vb] w fun e w' => e = .returned (.bool (rowE la lb)) ∧ Below w.heap.size w w' := by
  obtain ⟨A, ca, rfl, _, h3, h4⟩ := ha
  obtain ⟨A2, cb, rfl, _, g3, g4⟩ := hb
  have hc9 : ca ≤ 9223372036854775807 := by unfold maxLen at h3; omega
  have hc8 : cb ≤ 9223372036854775807 := by unfold maxLen at g3; omega
  have HA := Lib.hid h4
  have HB := Lib.hid g4
  obtain ⟨n, hn⟩ : ∃ n, n = la.length := ⟨_, rfl⟩
  obtain ⟨m, hm⟩ : ∃ m, m = lb.length := ⟨_, rfl⟩
  have HN := Lib.hid hn
  have HM := Lib.hid hm
  obtain ⟨r, hr⟩ : ∃ r, r = rowE la lb := ⟨_, rfl⟩
  have HR := Lib.hid hr
  rw [← hr]
  rw [← hn, ← hm]
  have hcn : n ≤ ca := by omega
  have hcm : m ≤ cb := by omega
  by_cases hnm : n = m
  · clear hn hm h3 h4 g3 g4 hr
    subst hnm
    have hne : ((n : Int) != (n : Int)) = false := by simp
    go_enter Try.func42, Try.ntmps42
    go_wp2_with fail
    go_loopw [13] (fun a wr => ∃ i : Nat, i ≤ n ∧ a = .int .i64 i ∧ Hid (∀ j (h1 : j < la.length) (h2 : j < lb.length), j < i → cntE la[j] lb[j] = true) ∧ Hid (Below w.heap.size w wr)) (fun a _ => n - (intOf a).toNat)
    case atStart => exact ⟨0, Nat.zero_le _, rfl, (fun j _ _ h => absurd h (by omega)), Below.refl _ _⟩
    case round =>
      obtain ⟨i, hi, rfl, HK, HBr⟩ := hrel
      by_cases hlt : i < n
      · have hlt' : (i : Int) < (n : Int) := by omega
        have hlm' : (i : Int) < (n : Int) := by omega
        have hnn := HN.out
        have hmm := HM.out
        obtain ⟨b, off, rfl, hblt, hcells⟩ := HA.out (by omega)
        obtain ⟨b2, off2, rfl, hblt2, hcells2⟩ := HB.out (by omega)
        have hml : i < la.length := by omega
        have hml2 : i < lb.length := by omega
        obtain ⟨x1, x2⟩ := hcells i hml
        obtain ⟨z1, z2⟩ := hcells2 i hml2
        have y1 := (HBr.out.cell (p := ⟨b, off + i * 2, none⟩) hblt).trans x1
        have y2 := (HBr.out.cell (p := ⟨b, off + i * 2 + 1, none⟩) hblt).trans x2
        have u1 := (HBr.out.cell (p := ⟨b2, off2 + i * 2, none⟩) hblt2).trans z1
        have u2 := (HBr.out.cell (p := ⟨b2, off2 + i * 2 + 1, none⟩) hblt2).trans z2
        have HNE := Lib.hid (fun hq => rowE_ne i hml hml2 hq)
        have HK2 : Hid (cntE la[i] lb[i] = true → ∀ j (h1 : j < la.length) (h2 : j < lb.length), j < i + 1 → cntE la[j] lb[j] = true) := by
          intro hq j h1 h2 hj
          by_cases e : j = i
          · subst e; exact hq
          · exact HK.out j h1 h2 (by omega)
        generalize la[i] = x at *
        generalize lb[i] = y at *
        have hm0 : (0 : Int) ≤ (i : Int) := by omega
        have hng := fun W => cnt_neq x y W
        have hgd := fun op p q W => cnt_guard op p q x y W
        clear x1 x2 z1 z2 hcells hcells2 hnn hmm HK
        cases hq : cntE x y with
        | true =>
          rw [hq] at hng
          have HK3 := Lib.hid (HK2.out hq)
          clear hq
          go_wp2_with fail
          go_quiet (fail)
          go_wp2_with fail
          go_roundw
          case rel => exact ⟨i + 1, by omega, by go_num, HK3, Below.drewN HBr.out _⟩
          case measure => simp [intOf]; omega
        | false =>
          rw [hq] at hng
          have hrf : r = false := by rw [HR.out]; exact HNE.out hq
          subst hrf
          clear hq
          go_wp2_with fail
          go_quiet (fail)
          go_wp2_with fail
          go_ret
          exact ⟨rfl, Below.drewN HBr.out _⟩
      · obtain rfl : i = n := by omega
        have hrt : r = true := by
          rw [HR.out]
          have h1 := HN.out
          have h2 := HM.out
          exact rowE_get (by omega) (fun j h1 h2 => HK.out j h1 h2 (by omega))
        subst hrt
        go_wp2_with fail
        go_ret
        exact ⟨rfl, HBr.out⟩
  · have hrf : r = false := by
      rw [hr]; unfold rowE
      rw [decide_eq_false_iff_not]
      rintro rfl
      exact hnm (hn.trans hm.symm)
    subst hrf
    clear hn hm h3 h4 g3 g4 hr
    have hne : ((n : Int) != (m : Int)) = true := by simp; omega
    go_enter Try.func42, Try.ntmps42
    go_wp2_with fail
    go_ret
    exact ⟨rfl, Below.refl _ _⟩
set_option maxRecDepth 20000 in
set_option maxHeartbeats 2000000 in
theorem rsame_any (w : World) (va vb : Value) (la lb : List Cnt) (ha : CntB w va la) (hb : CntB w vb lb) :
    Calls Try.prog 38 #[va, vb] w fun e w' => e = .returned (.bool (rowE la lb)) ∧ Below w.heap.size w w' := by
  obtain ⟨A, ca, rfl, _, h3, h4⟩ := ha
  obtain ⟨A2, cb, rfl, _, g3, g4⟩ := hb
  have hc9 : ca ≤ 9223372036854775807 := by unfold maxLen at h3; omega
  have hc8 : cb ≤ 9223372036854775807 := by unfold maxLen at g3; omega
  have HA := Lib.hid h4
  have HB := Lib.hid g4
  obtain ⟨n, hn⟩ : ∃ n, n = la.length := ⟨_, rfl⟩
  obtain ⟨m, hm⟩ : ∃ m, m = lb.length := ⟨_, rfl⟩
  have HN := Lib.hid hn
  have HM := Lib.hid hm
  obtain ⟨r, hr⟩ : ∃ r, r = rowE la lb := ⟨_, rfl⟩
  have HR := Lib.hid hr
  rw [← hr]
  rw [← hn, ← hm]
  have hcn : n ≤ ca := by omega
  have hcm : m ≤ cb := by omega
  by_cases hnm : n = m
  · clear hn hm h3 h4 g3 g4 hr
    subst hnm
    have hne : ((n : Int) != (n : Int)) = false := by simp
    go_enter Try.func38, Try.ntmps38
    go_wp2_with fail
    go_loopw [5] (fun a wr => ∃ i : Nat, i ≤ n ∧ a = .int .i64 i ∧ Hid (∀ j (h1 : j < la.length) (h2 : j < lb.length), j < i → cntE la[j] lb[j] = true) ∧ Hid (Below w.heap.size w wr)) (fun a _ => n - (intOf a).toNat)
    case atStart => exact ⟨0, Nat.zero_le _, rfl, (fun j _ _ h => absurd h (by omega)), Below.refl _ _⟩
    case round =>
      obtain ⟨i, hi, rfl, HK, HBr⟩ := hrel
      by_cases hlt : i < n
      · have hlt' : (i : Int) < (n : Int) := by omega
        have hlm' : (i : Int) < (n : Int) := by omega
        have hnn := HN.out
        have hmm := HM.out
        obtain ⟨b, off, rfl, hblt, hcells⟩ := HA.out (by omega)
        obtain ⟨b2, off2, rfl, hblt2, hcells2⟩ := HB.out (by omega)
        have hml : i < la.length := by omega
        have hml2 : i < lb.length := by omega
        obtain ⟨x1, x2⟩ := hcells i hml
        obtain ⟨z1, z2⟩ := hcells2 i hml2
        have y1 := (HBr.out.cell (p := ⟨b, off + i * 2, none⟩) hblt).trans x1
        have y2 := (HBr.out.cell (p := ⟨b, off + i * 2 + 1, none⟩) hblt).trans x2
        have u1 := (HBr.out.cell (p := ⟨b2, off2 + i * 2, none⟩) hblt2).trans z1
        have u2 := (HBr.out.cell (p := ⟨b2, off2 + i * 2 + 1, none⟩) hblt2).trans z2
        have HNE := Lib.hid (fun hq => rowE_ne i hml hml2 hq)
        have HK2 : Hid (cntE la[i] lb[i] = true → ∀ j (h1 : j < la.length) (h2 : j < lb.length), j < i + 1 → cntE la[j] lb[j] = true) := by
          intro hq j h1 h2 hj
          by_cases e : j = i
          · subst e; exact hq
          · exact HK.out j h1 h2 (by omega)
        generalize la[i] = x at *
        generalize lb[i] = y at *
        have hm0 : (0 : Int) ≤ (i : Int) := by omega
        have hng := fun W => cnt_neq x y W
        have hgd := fun op p q W => cnt_guard op p q x y W
        clear x1 x2 z1 z2 hcells hcells2 hnn hmm HK
        cases hq : cntE x y with
        | true =>
          rw [hq] at hng
          have HK3 := Lib.hid (HK2.out hq)
          clear hq
          go_wp2_with fail
          go_quiet (fail)
          go_wp2_with fail
          go_roundw
          case rel => exact ⟨i + 1, by omega, by go_num, HK3, Below.drewN HBr.out _⟩
          case measure => simp [intOf]; omega
        | false =>
          rw [hq] at hng
          have hrf : r = false := by rw [HR.out]; exact HNE.out hq
          subst hrf
          clear hq
          go_wp2_with fail
          go_quiet (fail)
          go_wp2_with fail
          go_ret
          exact ⟨rfl, Below.drewN HBr.out _⟩
      · obtain rfl : i = n := by omega
        have hrt : r = true := by
          rw [HR.out]
          have h1 := HN.out
          have h2 := HM.out
          exact rowE_get (by omega) (fun j h1 h2 => HK.out j h1 h2 (by omega))
        subst hrt
        go_wp2_with fail
        go_ret
        exact ⟨rfl, HBr.out⟩
  · have hrf : r = false := by
      rw [hr]; unfold rowE
      rw [decide_eq_false_iff_not]
      rintro rfl
      exact hnm (hn.trans hm.symm)
    subst hrf
    clear hn hm h3 h4 g3 g4 hr
    have hne : ((n : Int) != (m : Int)) = true := by simp; omega
    go_enter Try.func38, Try.ntmps38
    go_wp2_with fail
    go_ret
    exact ⟨rfl, Below.refl _ _⟩
theorem samerow_any (w : World) (va vb : Value) (la lb : List Cnt) (ha : CntB w va la) (hb : CntB w vb lb) :
    Calls Try.prog 24 #[va, vb] w fun e w' => e = .returned (.bool (rowE la lb)) ∧ Below w.heap.size w w' := by
  have HS := Lib.hid (rsame_any w va vb la lb ha hb)
  obtain ⟨A, ca, rfl, z1⟩ := ha.shape
  obtain ⟨A2, cb, rfl, z2⟩ := hb.shape
  clear z1 z2 ha hb
  go_enter Try.func24, Try.ntmps24
  go_wp2_with fail
  refine HS.out.mono ?_
  rintro e w1 ⟨rfl, b1⟩
  have HB := Lib.hid b1
  clear b1
  go_wp2_with fail
  go_ret
  exact ⟨rfl, HB.out⟩
set_option maxRecDepth 20000 in
set_option maxHeartbeats 2000000 in
theorem equalF_any (w : World) (va vb : Value) (la lb : List (List Cnt)) (ha : RunsB w va la) (hb : RunsB w vb lb) :
    Calls Try.prog 43 #[va, vb, .func (.func 42) #[] #[]] w fun e w' => e = .returned (.bool (runsE la lb)) ∧ Below w.heap.size w w' := by
  obtain ⟨A, ca, rfl, _, h3, h4⟩ := ha
  obtain ⟨A2, cb, rfl, _, g3, g4⟩ := hb
  have hc9 : ca ≤ 9223372036854775807 := by unfold maxLen at h3; omega
  have hc8 : cb ≤ 9223372036854775807 := by unfold maxLen at g3; omega
  have HA := Lib.hid h4
  have HB := Lib.hid g4
  obtain ⟨n, hn⟩ : ∃ n, n = la.length := ⟨_, rfl⟩
  obtain ⟨m, hm⟩ : ∃ m, m = lb.length := ⟨_, rfl⟩
  have HN := Lib.hid hn
  have HM := Lib.hid hm
  obtain ⟨r, hr⟩ : ∃ r, r = runsE la lb := ⟨_, rfl⟩
  have HR := Lib.hid hr
  rw [← hr]
  rw [← hn, ← hm]
  have hcn : n ≤ ca := by omega
  have hcm : m ≤ cb := by omega
  by_cases hnm : n = m
  · clear hn hm h3 h4 g3 g4 hr
    subst hnm
    have hne : ((n : Int) != (n : Int)) = false := by simp
    go_enter Try.func43, Try.ntmps43
    go_wp2_with fail
    go_loopw [17] (fun a wr => ∃ i : Nat, i ≤ n ∧ a = .int .i64 i ∧ Hid (∀ j (h1 : j < la.length) (h2 : j < lb.length), j < i → rowE la[j] lb[j] = true) ∧ Hid (Below w.heap.size w wr)) (fun a _ => n - (intOf a).toNat)
    case atStart => exact ⟨0, Nat.zero_le _, rfl, (fun j _ _ h => absurd h (by omega)), Below.refl _ _⟩
    case round =>
      obtain ⟨i, hi, rfl, HK, HBr⟩ := hrel
      by_cases hlt : i < n
      · have hlt' : (i : Int) < (n : Int) := by omega
        have hlm' : (i : Int) < (n : Int) := by omega
        have hnn := HN.out
        have hmm := HM.out
        obtain ⟨b, off, rfl, hblt, hcells⟩ := HA.out (by omega)
        obtain ⟨b2, off2, rfl, hblt2, hcells2⟩ := HB.out (by omega)
        have hml : i < la.length := by omega
        have hml2 : i < lb.length := by omega
        obtain ⟨ux, x1, x2⟩ := hcells i hml
        obtain ⟨uy, z1, z2⟩ := hcells2 i hml2
        have y1 := (HBr.out.cell (p := ⟨b, off + i, none⟩) hblt).trans x1
        have u1 := (HBr.out.cell (p := ⟨b2, off2 + i, none⟩) hblt2).trans z1
        have HNE := Lib.hid (fun hq => runsE_ne i hml hml2 hq)
        have HK2 : Hid (rowE la[i] lb[i] = true → ∀ j (h1 : j < la.length) (h2 : j < lb.length), j < i + 1 → rowE la[j] lb[j] = true) := by
          intro hq j h1 h2 hj
          by_cases e : j = i
          · subst e; exact hq
          · exact HK.out j h1 h2 (by omega)
        have HE := Lib.hid (equal_any wr ux uy la[i] lb[i] (x2.1.below HBr.out (Nat.le_refl _)) (z2.1.below HBr.out (Nat.le_refl _)))
        obtain ⟨A5, c5, rfl, k5⟩ := x2.1.shape
        obtain ⟨A6, c6, rfl, k6⟩ := z2.1.shape
        clear x1 x2 z1 z2 hcells hcells2 hnn hmm HK k5 k6
        generalize la[i] = x at *
        generalize lb[i] = y at *
        have hm0 : (0 : Int) ≤ (i : Int) := by omega
        cases hq : rowE x y with
        | true =>
          rw [hq] at HE
          have HK3 := Lib.hid (HK2.out hq)
          clear hq
          go_wp2_with fail
          refine HE.out.mono ?_
          rintro e w1 ⟨rfl, b1⟩
          have HB1 := Lib.hid (HBr.out.trans (b1.mono HBr.out.size))
          clear b1
          go_wp2_with fail
          go_roundw
          case rel => exact ⟨i + 1, by omega, by go_num, HK3, HB1⟩
          case measure => simp [intOf]; omega
        | false =>
          rw [hq] at HE
          have hrf : r = false := by rw [HR.out]; exact HNE.out hq
          subst hrf
          clear hq
          go_wp2_with fail
          refine HE.out.mono ?_
          rintro e w1 ⟨rfl, b1⟩
          have HB1 := Lib.hid (HBr.out.trans (b1.mono HBr.out.size))
          clear b1
          go_wp2_with fail
          go_ret
          exact ⟨rfl, HB1.out⟩
      · obtain rfl : i = n := by omega
        have hrt : r = true := by
          rw [HR.out]
          have h1 := HN.out
          have h2 := HM.out
          exact runsE_get (by omega) (fun j h1 h2 => HK.out j h1 h2 (by omega))
        subst hrt
        go_wp2_with fail
        go_ret
        exact ⟨rfl, HBr.out⟩
  · have hrf : r = false := by
      rw [hr]; unfold runsE
      rw [decide_eq_false_iff_not]
      rintro rfl
      exact hnm (hn.trans hm.symm)
    subst hrf
    clear hn hm h3 h4 g3 g4 hr
    have hne : ((n : Int) != (m : Int)) = true := by simp; omega
    go_enter Try.func43, Try.ntmps43
    go_wp2_with fail
    go_ret
    exact ⟨rfl, Below.refl _ _⟩
/-- two counts boxed -/
structure TwoC (w : World) (am ar bm br : Value) (W : World) : Prop where
  a0 : W.cell? ⟨w.heap.size, 0, none⟩ = some am
  a1 : W.cell? ⟨w.heap.size, 1, none⟩ = some ar
  b0 : W.cell? ⟨w.heap.size + 1, 0, none⟩ = some bm
  b1 : W.cell? ⟨w.heap.size + 1, 1, none⟩ = some br
  low : Below w.heap.size w W
  lt : w.heap.size + 1 < W.heap.size
theorem TwoC.below {w : World} {am ar bm br : Value} {W W' : World} (h : TwoC w am ar bm br W) (hb : Below W.heap.size W W') : TwoC w am ar bm br W' := by
  have hl := h.lt
  exact ⟨(hb.cell (p := ⟨w.heap.size, 0, none⟩) (by dsimp only; omega)).trans h.a0, (hb.cell (p := ⟨w.heap.size, 1, none⟩) (by dsimp only; omega)).trans h.a1, (hb.cell (p := ⟨w.heap.size + 1, 0, none⟩) hl).trans h.b0, (hb.cell (p := ⟨w.heap.size + 1, 1, none⟩) hl).trans h.b1, h.low.trans (hb.mono h.low.size), Nat.lt_of_lt_of_le hl hb.size⟩
theorem twoC_new (w : World) (am ar bm br : Value) : TwoC w am ar bm br ((w.alloc (.cells #[am, ar] 25)).alloc (.cells #[bm, br] 25)) := by
  have h1 : ((w.alloc (.cells #[am, ar] 25)).alloc (.cells #[bm, br] 25)).heap[w.heap.size]? = some (.cells #[am, ar] 25) := (Below.heap_alloc _ _ _ (by simp)).trans (World.alloc_heap_new w _)
  have h2 : ((w.alloc (.cells #[am, ar] 25)).alloc (.cells #[bm, br] 25)).heap[w.heap.size + 1]? = some (.cells #[bm, br] 25) := by
    have := World.alloc_heap_new (w.alloc (.cells #[am, ar] 25)) (.cells #[bm, br] 25)
    rwa [World.size_alloc] at this
  refine ⟨?_, ?_, ?_, ?_, ((Below.refl _ _).alloc (Nat.le_refl _) _).alloc (by simp) _, by simp⟩
  · unfold World.cell?; rw [h1]; rfl
  · unfold World.cell?; rw [h1]; rfl
  · unfold World.cell?; rw [h2]; rfl
  · unfold World.cell?; rw [h2]; rfl
set_option maxRecDepth 20000 in
set_option maxHeartbeats 2000000 in
theorem psame_any (w : World) (va vb : Value) (s t : CntS) (ha : LsmN w va s) (hb : LsmN w vb t) :
    Calls Try.prog 15 #[va, vb] w fun e w' => e = .returned (.bool (sameB s t)) ∧ Below w.heap.size w w' := by
  obtain ⟨am, ar, rfl, ha1, ha2⟩ := ha
  obtain ⟨bm, br, rfl, hb1, hb2⟩ := hb
  obtain ⟨wE, hwE⟩ : ∃ wE, wE = (w.alloc (.cells #[am, ar] 25)).alloc (.cells #[bm, br] 25) := ⟨_, rfl⟩
  have HT : Hid (TwoC w am ar bm br wE) := by rw [hwE]; exact twoC_new _ _ _ _ _
  have HWE := Lib.hid hwE.symm
  have HE := Lib.hid (equal_any wE am bm s.1 t.1 (ha1.1.below HT.out.low (Nat.le_refl _)) (hb1.1.below HT.out.low (Nat.le_refl _)))
  have HF : Hid (∀ W, Below w.heap.size w W → Calls Try.prog 43 #[ar, br, .func (.func 42) #[] #[]] W fun e w' => e = .returned (.bool (runsE s.2 t.2)) ∧ Below W.heap.size W w') := fun W hb => equalF_any W ar br s.2 t.2 (ha2.1.below hb (Nat.le_refl _)) (hb2.1.below hb (Nat.le_refl _))
  obtain ⟨A1, c1, rfl, z1⟩ := ha1.1.shape
  obtain ⟨A2, c2, rfl, _, _⟩ := ha2.shape
  obtain ⟨A3, c3, rfl, z2⟩ := hb1.1.shape
  obtain ⟨A4, c4, rfl, _, _⟩ := hb2.shape
  have x0 := HT.out.a0
  have x1 := HT.out.a1
  have y0 := HT.out.b0
  have y1 := HT.out.b1
  clear z1 z2 hwE ha1 ha2 hb1 hb2
  unfold LsmV
  have HSB : Hid (sameB s t = (rowE s.1 t.1 && runsE s.2 t.2)) := rfl
  generalize rowE s.1 t.1 = p at *
  generalize runsE s.2 t.2 = q at *
  go_enter Try.func15, Try.ntmps15
  go_wp2_with fail
  rw [HWE.out]
  go_wp2_with fail
  refine HE.out.mono ?_
  rintro e w1 ⟨rfl, b1⟩
  have HT1 := Lib.hid (HT.out.below b1)
  clear b1 HE x0 x1 y0 y1
  cases p with
  | false =>
    go_wp2_with fail
    go_ret
    rw [HSB.out]
    exact ⟨rfl, HT1.out.low⟩
  | true =>
    have HF1 := Lib.hid (HF.out w1 HT1.out.low)
    have x0 := HT1.out.a0
    have x1 := HT1.out.a1
    have y0 := HT1.out.b0
    have y1 := HT1.out.b1
    go_wp2_with fail
    refine HF1.out.mono ?_
    rintro e w2 ⟨rfl, b2⟩
    have HT2 := Lib.hid (HT1.out.below b2)
    clear b2 HF1 x0 x1 y0 y1
    go_wp2_with fail
    go_ret
    rw [HSB.out]
    exact ⟨rfl, HT2.out.low⟩
set_option maxRecDepth 20000 in
set_option maxHeartbeats 4000000 in
theorem rSame_any (w : World) (va vb : Value) (s t : CntS) (ha : LsmN w va s) (hb : LsmN w vb t) :
    Calls Try.prog 11 #[va, vb] w fun e w' => e = .returned (.bool (sameB s t)) ∧ Below w.heap.size w w' := by
  obtain ⟨am, ar, rfl, ha1, ha2⟩ := ha
  obtain ⟨bm, br, rfl, hb1, hb2⟩ := hb
  obtain ⟨wE, hwE⟩ : ∃ wE, wE = (w.alloc (.cells #[am, ar] 25)).alloc (.cells #[bm, br] 25) := ⟨_, rfl⟩
  have HT : Hid (TwoC w am ar bm br wE) := by rw [hwE]; exact twoC_new _ _ _ _ _
  have HWE := Lib.hid hwE.symm
  have HE := Lib.hid (rsame_any wE am bm s.1 t.1 (ha1.1.below HT.out.low (Nat.le_refl _)) (hb1.1.below HT.out.low (Nat.le_refl _)))
  obtain ⟨la, hla⟩ : ∃ la, la = s.2 := ⟨_, rfl⟩
  obtain ⟨lb, hlb⟩ : ∃ lb, lb = t.2 := ⟨_, rfl⟩
  have HSB : Hid (sameB s t = (rowE s.1 t.1 && runsE la lb)) := by rw [hla, hlb]; rfl
  rw [← hla] at ha2
  rw [← hlb] at hb2
  clear hla hlb
  obtain ⟨A1, c1, rfl, z1⟩ := ha1.1.shape
  obtain ⟨A3, c3, rfl, z2⟩ := hb1.1.shape
  obtain ⟨⟨A, ca, rfl, hca, h3, h4⟩, zz1⟩ := ha2
  obtain ⟨⟨A2, cb, rfl, hcb, g3, g4⟩, zz2⟩ := hb2
  clear zz1 zz2
  have hc9 : ca ≤ 9223372036854775807 := by unfold maxLen at h3; omega
  have hc8 : cb ≤ 9223372036854775807 := by unfold maxLen at g3; omega
  have HA := Lib.hid h4
  have HB := Lib.hid g4
  obtain ⟨n, hn⟩ : ∃ n, n = la.length := ⟨_, rfl⟩
  obtain ⟨m, hm⟩ : ∃ m, m = lb.length := ⟨_, rfl⟩
  have HN := Lib.hid hn
  have HM := Lib.hid hm
  have x0 := HT.out.a0
  have x1 := HT.out.a1
  have y0 := HT.out.b0
  have y1 := HT.out.b1
  rw [← hn, ← hm] at HT HWE
  rw [← hn] at x1
  rw [← hm] at y1
  unfold LsmV
  rw [← hn, ← hm]
  clear z1 z2 hwE ha1 hb1
  generalize rowE s.1 t.1 = p at *
  generalize s.1.length = ls at *
  generalize t.1.length = lt at *
  have hcn : n ≤ ca := by omega
  have hcm : m ≤ cb := by omega
  clear hn hm h3 h4 g3 g4 hca hcb
  cases p with
  | false =>
    go_enter Try.func11, Try.ntmps11
    go_wp2_with fail
    rw [HWE.out]
    go_wp2_with fail
    refine HE.out.mono ?_
    rintro e w1 ⟨rfl, b1⟩
    have HT1 := Lib.hid (HT.out.below b1)
    clear b1 HE x0 x1 y0 y1
    go_wp2_with fail
    go_ret
    rw [HSB.out]
    exact ⟨rfl, HT1.out.low⟩
  | true =>
    obtain ⟨r, hr⟩ : ∃ r, r = runsE la lb := ⟨_, rfl⟩
    have HR := Lib.hid hr
    rw [← hr] at HSB
    have HSB2 : Hid (sameB s t = r) := by rw [HSB.out]; rfl
    clear HSB hr
    by_cases hnm : n = m
    · subst hnm
      have hne : ((n : Int) != (n : Int)) = false := by simp
      go_enter Try.func11, Try.ntmps11
      go_wp2_with fail
      rw [HWE.out]
      go_wp2_with fail
      refine HE.out.mono ?_
      rintro e w1 ⟨rfl, b1⟩
      have HT1 := Lib.hid (HT.out.below b1)
      clear b1 HE x0 x1 y0 y1
      have x0 := HT1.out.a0
      have x1 := HT1.out.a1
      have y0 := HT1.out.b0
      have y1 := HT1.out.b1
      go_wp2_with fail
      go_loopw [5] (fun a wr => ∃ i : Nat, i ≤ n ∧ a = .int .i64 i ∧ Hid (∀ j (h1 : j < la.length) (h2 : j < lb.length), j < i → rowE la[j] lb[j] = true) ∧ Hid (TwoC w (.slice A1 ls c1) (.slice A n ca) (.slice A3 lt c3) (.slice A2 n cb) wr)) (fun a _ => n - (intOf a).toNat)
      case atStart => exact ⟨0, Nat.zero_le _, rfl, (fun j _ _ h => absurd h (by omega)), HT1⟩
      case round =>
        clear x0 x1 y0 y1
        obtain ⟨i, hi, rfl, HK, HTr⟩ := hrel
        have x1 := HTr.out.a1
        have y1 := HTr.out.b1
        have hltr := HTr.out.lt
        by_cases hlt : i < n
        · have hlt' : (i : Int) < (n : Int) := by omega
          have hlm' : (i : Int) < (n : Int) := by omega
          have hnn := HN.out
          have hmm := HM.out
          obtain ⟨b, off, rfl, hblt, hcells⟩ := HA.out (by omega)
          obtain ⟨b2, off2, rfl, hblt2, hcells2⟩ := HB.out (by omega)
          have hml : i < la.length := by omega
          have hml2 : i < lb.length := by omega
          obtain ⟨ux, e1, e2⟩ := hcells i hml
          obtain ⟨uy, z1, z2⟩ := hcells2 i hml2
          have HNE := Lib.hid (fun hq => runsE_ne i hml hml2 hq)
          have HK2 : Hid (rowE la[i] lb[i] = true → ∀ j (h1 : j < la.length) (h2 : j < lb.length), j < i + 1 → rowE la[j] lb[j] = true) := by
            intro hq j h1 h2 hj
            by_cases e : j = i
            · subst e; exact hq
            · exact HK.out j h1 h2 (by omega)
          have HTd : Hid (TwoC w (.slice A1 ls c1) (.slice (some ⟨b, off, none⟩) n ca) (.slice A3 lt c3) (.slice (some ⟨b2, off2, none⟩) n cb) wr.drew) := HTr.out.below (below_drewN wr 1)
          have HC := Lib.hid (rsame_any wr.drew ux uy la[i] lb[i] (e2.1.below HTd.out.low (Nat.le_refl _)) (z2.1.below HTd.out.low (Nat.le_refl _)))
          have k1 := (HTd.out.low.cell (p := ⟨b, off + i, none⟩) hblt).trans e1
          have k2 := (HTd.out.low.cell (p := ⟨b2, off2 + i, none⟩) hblt2).trans z1
          have hb1 : b < wr.drew.heap.size := Nat.lt_of_lt_of_le hblt HTd.out.low.size
          have hb2 : b2 < wr.drew.heap.size := Nat.lt_of_lt_of_le hblt2 HTd.out.low.size
          obtain ⟨A5, c5, rfl, k5⟩ := e2.1.shape
          obtain ⟨A6, c6, rfl, k6⟩ := z2.1.shape
          clear e1 e2 z1 z2 hcells hcells2 hnn hmm HK k5 k6
          generalize la[i] = x at *
          generalize lb[i] = y at *
          have hm0 : (0 : Int) ≤ (i : Int) := by omega
          generalize hq : rowE x y = qq at *
          have HQ := Lib.hid hq
          clear hq hml hml2
          go_wp2_with fail
          refine wp_region_noPanic ?_
          refine wp_region_held_drew (S := fun w' => Below wr.drew.heap.size wr.drew w') (by kernel_rfl) (Below.refl _ _) (fun hHeld => ?_)
          clear HTr x1 y1
          generalize wr.drew = wd at *
          have hd1 := HTd.out.a1
          have hd2 := HTd.out.b1
          have hd4 : w.heap.size + 1 < wd.heap.size := HTd.out.lt
          have hd3 : w.heap.size < wd.heap.size := by omega
          have H1 : Hid (∀ w', Below wd.heap.size wd w' → w'.cell? ⟨w.heap.size, 1, none⟩ = some (.slice (some ⟨b, off, none⟩) n ca)) := fun w' hb => (hb.cell (p := ⟨w.heap.size, 1, none⟩) hd3).trans hd1
          have H2 : Hid (∀ w', Below wd.heap.size wd w' → w'.cell? ⟨w.heap.size + 1, 1, none⟩ = some (.slice (some ⟨b2, off2, none⟩) n cb)) := fun w' hb => (hb.cell (p := ⟨w.heap.size + 1, 1, none⟩) hd4).trans hd2
          clear hd1 hd2 hd3 hd4
          refine' wpAnyH_take (i := 0) (v := ?v1) rfl (by kernel_rfl) (by kernel_rfl) (by kernel_rfl) (fun _ _ _ h => h) (Or.inl ⟨by kernel_rfl, ?hy1⟩) (by assumption) ?rest1
          case hy1 => (intro w hSw; (try dsimp only at hSw); go_simp; try with_reducible rfl)
          try simp only [Act.put, List.setIfInBounds_toArray, List.set_cons_zero, List.set_cons_succ]
          refine' wpAnyH_take (i := 2) (v := ?v2) rfl (by kernel_rfl) (by kernel_rfl) (by kernel_rfl) (fun _ _ _ h => h) (Or.inl ⟨by kernel_rfl, ?hy2⟩) (by assumption) ?rest2
          case hy2 => (intro w hSw; (try dsimp only at hSw); go_simp; try with_reducible rfl)
          try simp only [Act.put, List.setIfInBounds_toArray, List.set_cons_zero, List.set_cons_succ]
          refine' wpAnyH_take (i := 5) (v := ?v3) rfl (by kernel_rfl) (by kernel_rfl) (by kernel_rfl) (fun _ _ _ h => h) (Or.inl ⟨by kernel_rfl, ?hy3⟩) (by assumption) ?rest3
          case hy3 => (intro w hSw; (try dsimp only at hSw); go_simp; try with_reducible rfl)
          try simp only [Act.put, List.setIfInBounds_toArray, List.set_cons_zero, List.set_cons_succ]
          refine' wpAnyH_take (i := 7) (v := ?v4) rfl (by kernel_rfl) (by kernel_rfl) (by kernel_rfl) (fun _ _ _ h => h) (Or.inl ⟨by kernel_rfl, ?hy4⟩) (by assumption) ?rest4
          case hy4 => (intro w hSw; (try dsimp only at hSw); go_simp; try with_reducible rfl)
          try simp only [Act.put, List.setIfInBounds_toArray, List.set_cons_zero, List.set_cons_succ]
          refine wpAnyH_take (i := 1) (v := (.slice (some ⟨b, off, none⟩) n ca)) rfl (by kernel_rfl) (by kernel_rfl) (by kernel_rfl) (fun _ _ _ h => h) (Or.inl ⟨by kernel_rfl, ?_⟩) hHeld ?_
          · intro w hSw
            have hh := (H1.out _ hSw)
            go_simp
          try simp only [Act.put, List.setIfInBounds_toArray, List.set_cons_zero, List.set_cons_succ]
          refine wpAnyH_take (i := 6) (v := (.slice (some ⟨b2, off2, none⟩) n cb)) rfl (by kernel_rfl) (by kernel_rfl) (by kernel_rfl) (fun _ _ _ h => h) (Or.inl ⟨by kernel_rfl, ?_⟩) hHeld ?_
          · intro w hSw
            have hh := (H2.out _ hSw)
            go_simp
          try simp only [Act.put, List.setIfInBounds_toArray, List.set_cons_zero, List.set_cons_succ]
          refine' wpAnyH_take (i := 3) (v := ?v5) rfl (by kernel_rfl) (by kernel_rfl) (by kernel_rfl) (fun _ _ _ h => h) (Or.inl ⟨by kernel_rfl, ?hy5⟩) (by assumption) ?rest5
          case hy5 => (intro w hSw; (try dsimp only at hSw); go_simp; try with_reducible rfl)
          try simp only [Act.put, List.setIfInBounds_toArray, List.set_cons_zero, List.set_cons_succ]
          refine' wpAnyH_take (i := 8) (v := ?v6) rfl (by kernel_rfl) (by kernel_rfl) (by kernel_rfl) (fun _ _ _ h => h) (Or.inl ⟨by kernel_rfl, ?hy6⟩) (by assumption) ?rest6
          case hy6 => (intro w hSw; (try dsimp only at hSw); go_simp; try with_reducible rfl)
          try simp only [Act.put, List.setIfInBounds_toArray, List.set_cons_zero, List.set_cons_succ]
          refine wpAnyH_take (i := 4) (v := (.slice A5 x.length c5)) rfl (by kernel_rfl) (by kernel_rfl) (by kernel_rfl) (fun _ _ _ h => h) (Or.inl ⟨by kernel_rfl, ?_⟩) hHeld ?_
          · intro w hSw
            have hh := ((hSw.cell (p := ⟨b, off + i, none⟩) hb1).trans k1)
            go_simp
          try simp only [Act.put, List.setIfInBounds_toArray, List.set_cons_zero, List.set_cons_succ]
          refine wpAnyH_take (i := 9) (v := (.slice A6 y.length c6)) rfl (by kernel_rfl) (by kernel_rfl) (by kernel_rfl) (fun _ _ _ h => h) (Or.inl ⟨by kernel_rfl, ?_⟩) hHeld ?_
          · intro w hSw
            have hh := ((hSw.cell (p := ⟨b2, off2 + i, none⟩) hb2).trans k2)
            go_simp
          try simp only [Act.put, List.setIfInBounds_toArray, List.set_cons_zero, List.set_cons_succ]
          refine wpAnyH_ready (rs := [10]) (by kernel_rfl) (by simp) ?_
          refine AllReadyH.cons rfl (fun K hK => ?_) AllReadyH.nil
          go_simp
          go_at_call 38
          refine HC.out.mono ?_
          rintro er w2 ⟨rfl, b2'⟩
          have HT2 := Lib.hid (HTd.out.below b2')
          have HB2 := Lib.hid b2'
          clear b2'
          go_wp2_with fail
          refine hK.out _ _ HB2.out (fun hHeld => ?_)
          clear hK K
          try simp only [Act.put, List.setIfInBounds_toArray, List.set_cons_zero, List.set_cons_succ]
          refine wpAnyH_take (i := 11) (v := .bool (!qq)) rfl (by kernel_rfl) (by kernel_rfl) (by kernel_rfl) (fun _ _ _ h => h) (Or.inl ⟨by kernel_rfl, ?_⟩) (by assumption) ?_
          · intro w hSw
            go_simp
          refine wpAnyH_done (by kernel_rfl) ?_ _
          refine NoPanic.normal ?_
          clear HB2 HTd hb1 hb2 k1 k2 H1 H2
          cases qq with
          | true =>
            have HK3 := Lib.hid (HK2.out rfl)
            go_wp2_with fail
            go_roundw
            case rel => exact ⟨i + 1, by omega, by go_num, HK3, HT2⟩
            case measure => simp [intOf]; omega
          | false =>
            have hrf : r = false := by rw [HR.out]; exact HNE.out rfl
            subst hrf
            go_wp2_with fail
            go_ret
            rw [HSB2.out]
            exact ⟨rfl, HT2.out.low⟩
        · obtain rfl : i = n := by omega
          have hrt : r = true := by
            rw [HR.out]
            have h1 := HN.out
            have h2 := HM.out
            exact runsE_get (by omega) (fun j h1 h2 => HK.out j h1 h2 (by omega))
          subst hrt
          go_wp2_with fail
          go_ret
          rw [HSB2.out]
          exact ⟨rfl, HTr.out.low⟩
    · have hrf : r = false := by
        rw [HR.out]; unfold runsE
        rw [decide_eq_false_iff_not]
        rintro rfl
        exact hnm (HN.out.trans HM.out.symm)
      subst hrf
      have hne : ((n : Int) != (m : Int)) = true := by simp; omega
      go_enter Try.func11, Try.ntmps11
      go_wp2_with fail
      rw [HWE.out]
      go_wp2_with fail
      refine HE.out.mono ?_
      rintro e w1 ⟨rfl, b1⟩
      have HT1 := Lib.hid (HT.out.below b1)
      clear b1 HE x0 x1 y0 y1
      have x0 := HT1.out.a0
      have x1 := HT1.out.a1
      have y0 := HT1.out.b0
      have y1 := HT1.out.b1
      go_wp2_with fail
      go_ret
      rw [HSB2.out]
      exact ⟨rfl, HT1.out.low⟩
end Go.Proofs.Yteidlngffikboaa
