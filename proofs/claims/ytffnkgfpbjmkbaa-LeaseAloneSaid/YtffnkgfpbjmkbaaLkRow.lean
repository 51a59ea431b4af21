/- Rows of locks: how they are read; where an owner stands; the binary search. -/
import Derived.Test.YtffnkgfpbjmkbaaLea8
import Derived.Test.YtffnkgfpbjmkbaaLkInsert
import Derived.WalkLawsBesides
import Derived.Deep.QuietTactic
import Derived.BigQuiet
namespace Go.Proofs.Ytffnkgfpbjmkbaa
open Go.RowKit
set_option linter.unusedVariables false
set_option linter.unusedSimpArgs false
/-- a row of locks, readable -/
def LksB (w : World) (v : Value) (l : List Lk) : Prop :=
  ∃ A c, v = .slice A l.length c ∧ l.length ≤ c ∧ c ≤ maxLen ∧ (0 < l.length → ∃ b off, A = some ⟨b, off, none⟩ ∧ b < w.heap.size ∧ ∀ i (h : i < l.length), w.cell? ⟨b, off + i * 3, none⟩ = some (.int .u64 l[i].o.toNat) ∧ w.cell? ⟨b, off + i * 3 + 1, none⟩ = some (.bool l[i].s) ∧ w.cell? ⟨b, off + i * 3 + 2, none⟩ = some (.int .i64 l[i].u))
/-- .. a nil one has no room -/
def LksN (w : World) (v : Value) (l : List Lk) : Prop := LksB w v l ∧ ∀ n c, v = .slice none n c → c = 0
def lkC (l : List Lk) : List Value := l.flatMap Lk.c
theorem lkC_len (l : List Lk) : (lkC l).length = l.length * 3 := by
  induction l with
  | nil => rfl
  | cons x l ih => simp only [lkC, List.flatMap_cons, List.length_append, List.length_cons] at *; rw [ih]; simp [Lk.c]; omega
theorem lkC_cons (x : Lk) (l : List Lk) : lkC (x :: l) = Value.int .u64 x.o.toNat :: .bool x.s :: .int .i64 x.u :: lkC l := by simp [lkC, Lk.c]
theorem lkC_append (a b : List Lk) : lkC (a ++ b) = lkC a ++ lkC b := by simp [lkC]
theorem lkC_take (l : List Lk) (i : Nat) : (lkC l).take (i * 3) = lkC (l.take i) := by
  induction l generalizing i with
  | nil => simp [lkC]
  | cons x l ih =>
    cases i with
    | zero => simp [lkC]
    | succ i =>
      rw [lkC_cons, List.take_succ_cons, lkC_cons, show (i + 1) * 3 = i * 3 + 1 + 1 + 1 by omega, List.take_succ_cons, List.take_succ_cons, List.take_succ_cons, ih]
theorem lkC_drop (l : List Lk) (i : Nat) : (lkC l).drop (i * 3) = lkC (l.drop i) := by
  induction l generalizing i with
  | nil => simp [lkC]
  | cons x l ih =>
    cases i with
    | zero => simp
    | succ i =>
      rw [lkC_cons, List.drop_succ_cons, show (i + 1) * 3 = i * 3 + 1 + 1 + 1 by omega, List.drop_succ_cons, List.drop_succ_cons, List.drop_succ_cons, ih]
theorem lkC_get (l : List Lk) (i : Nat) (h : i < l.length) : (lkC l)[i * 3]? = some (.int .u64 l[i].o.toNat) ∧ (lkC l)[i * 3 + 1]? = some (.bool l[i].s) ∧ (lkC l)[i * 3 + 2]? = some (.int .i64 l[i].u) := by
  induction l generalizing i with
  | nil => simp at h
  | cons x l ih =>
    rw [lkC_cons]
    cases i with
    | zero => exact ⟨rfl, rfl, rfl⟩
    | succ i =>
      rw [show (i + 1) * 3 = i * 3 + 1 + 1 + 1 by omega]
      exact ih i (by simpa using h)
theorem lkC_one (l : List Lk) : ∀ v ∈ lkC l, v.oneCell' = true := by
  induction l with
  | nil => simp [lkC]
  | cons x l ih =>
    intro v hv
    rw [lkC_cons] at hv
    simp only [List.mem_cons] at hv
    rcases hv with rfl | rfl | rfl | hv
    · rfl
    · rfl
    · rfl
    · exact ih v hv
theorem LksB.below {w w' : World} {v : Value} {l : List Lk} {B : Nat} (h : LksB w v l) (hb : Below B w w') (hB : w.heap.size ≤ B) : LksB w' v l := by
  obtain ⟨A, c, h1, h2, h3, h4⟩ := h
  refine ⟨A, c, h1, h2, h3, fun hl => ?_⟩
  obtain ⟨b, off, e1, e2, e3⟩ := h4 hl
  refine ⟨b, off, e1, Nat.lt_of_lt_of_le e2 hb.size, fun i hi => ?_⟩
  obtain ⟨c1, c2, c3⟩ := e3 i hi
  have hlt : b < B := Nat.lt_of_lt_of_le e2 hB
  exact ⟨(hb.cell (p := ⟨b, off + i * 3, none⟩) hlt).trans c1, (hb.cell (p := ⟨b, off + i * 3 + 1, none⟩) hlt).trans c2, (hb.cell (p := ⟨b, off + i * 3 + 2, none⟩) hlt).trans c3⟩
theorem LksN.below {w w' : World} {v : Value} {l : List Lk} {B : Nat} (h : LksN w v l) (hb : Below B w w') (hB : w.heap.size ≤ B) : LksN w' v l := ⟨h.1.below hb hB, h.2⟩
theorem LksB.of_owns {w : World} {v : Value} {l : List Lk} {B : Nat} (h : OwnL w B v l.length (lkC l)) : LksB w v l := by
  rcases h.2 with ⟨hv, h0⟩ | ⟨g, cap, cur, hv, hb, hg, h1, h2, h3, h4⟩
  · exact ⟨none, 0, by rw [hv, h0], by omega, by unfold maxLen; omega, fun hl => by omega⟩
  · refine ⟨_, cap, hv, h1, h2, fun hl => ⟨g, 0, rfl, (Array.getElem?_eq_some_iff.1 hg).1, fun i hi => ?_⟩⟩
    have hc : ∀ j u, (lkC l)[j]? = some u → w.cell? ⟨g, 0 + j, none⟩ = some u := fun j u hj => by
      rw [← h4] at hj
      have hlt : j < l.length * 3 := by
        refine Decidable.byContradiction fun hh => ?_
        rw [List.getElem?_eq_none (by rw [List.length_take]; omega)] at hj
        cases hj
      rw [List.getElem?_take_of_lt hlt] at hj
      simp only [World.cell?, hg]
      simpa using hj
    obtain ⟨s1, s2, s3⟩ := lkC_get l i hi
    exact ⟨hc _ _ s1, by rw [Nat.add_assoc]; exact hc _ _ s2, by rw [Nat.add_assoc]; exact hc _ _ s3⟩
theorem LksN.of_owns {w : World} {v : Value} {l : List Lk} {B : Nat} (h : OwnL w B v l.length (lkC l)) : LksN w v l := by
  refine ⟨LksB.of_owns h, fun n c e => ?_⟩
  rcases h.2 with ⟨hv, h0⟩ | ⟨g, cap, cur, hv, hb, hg, h1, h2, h3, h4⟩
  · rw [hv] at e; cases e; rfl
  · rw [hv] at e; cases e
/-- the cells that a row's reader meets -/
theorem LksB.src {w : World} {A : Option Addr} {n c : Nat} {l : List Lk} (h : LksB w (.slice A n c) l) (ad : Addr) (hA : A = some ad) : ∀ j u, (lkC l)[j]? = some u → w.cell? (ad.add j) = some u := by
  intro j u hj
  obtain ⟨A', c', e, h2, h3, h4⟩ := h
  cases e
  have hjl : j < l.length * 3 := by
    refine Decidable.byContradiction fun hh => ?_
    rw [List.getElem?_eq_none (by rw [lkC_len]; omega)] at hj
    cases hj
  obtain ⟨b, off, e1, e2, e3⟩ := h4 (by omega)
  rw [hA] at e1
  cases e1
  rw [Addr.add_lit]
  have hi : j / 3 < l.length := by omega
  obtain ⟨g1, g2, g3⟩ := e3 _ hi
  obtain ⟨s1, s2, s3⟩ := lkC_get l _ hi
  have hm : j = j / 3 * 3 ∨ j = j / 3 * 3 + 1 ∨ j = j / 3 * 3 + 2 := by omega
  rcases hm with hm | hm | hm
  · rw [hm] at hj; rw [s1] at hj; rw [hm, ← hj]; simpa using g1
  · rw [hm] at hj; rw [s2] at hj; rw [hm, ← hj, ← Nat.add_assoc]; simpa using g2
  · rw [hm] at hj; rw [s3] at hj; rw [hm, ← hj, ← Nat.add_assoc]; simpa using g3
/-- owners rise -/
def RisO (l : List Lk) : Prop := l.Pairwise fun x y => x.o < y.o
def placeO (l : List Lk) (k : UInt64) : Nat := (l.takeWhile fun x => decide (x.o < k)).length
theorem placeO_le (l : List Lk) (k : UInt64) : placeO l k ≤ l.length := by
  unfold placeO
  have := congrArg List.length (List.takeWhile_append_dropWhile (p := fun x : Lk => decide (x.o < k)) (l := l))
  rw [List.length_append] at this
  omega
theorem placeO_lt : ∀ (l : List Lk) (k : UInt64), RisO l → ∀ (i : Nat) (h : i < l.length), l[i].o < k ↔ i < placeO l k
  | [], k, _, i, h => absurd h (Nat.not_lt_zero _)
  | x :: l, k, hr, i, h => by
    obtain ⟨hx, hl⟩ := List.pairwise_cons.1 hr
    by_cases hk : x.o < k
    · have hp : placeO (x :: l) k = placeO l k + 1 := by simp [placeO, List.takeWhile_cons, hk]
      cases i with
      | zero => rw [hp]; simpa using hk
      | succ i =>
        have := placeO_lt l k hl i (by simpa using h)
        rw [hp]
        simp only [List.getElem_cons_succ]
        rw [this]
        omega
    · have hp : placeO (x :: l) k = 0 := by simp [placeO, List.takeWhile_cons, hk]
      rw [hp]
      constructor
      · intro hh
        exfalso
        cases i with
        | zero => exact hk hh
        | succ i =>
          simp only [List.getElem_cons_succ] at hh
          have hi : i < l.length := by simpa using h
          have h1 := hx l[i] (List.getElem_mem hi)
          exact hk (UInt64.lt_trans h1 hh)
      · intro hh; omega
def hasO (l : List Lk) (k : UInt64) : Bool := match l[placeO l k]? with | some x => decide (x.o = k) | none => false
theorem cmpU_neg (a b : UInt64) : (cmpU a b < 0) ↔ a < b := by
  unfold cmpU
  split
  · simp; assumption
  · split
    · constructor
      · intro h; omega
      · intro h; contradiction
    · constructor
      · intro h; omega
      · intro h; contradiction
theorem cmpU_zero (a b : UInt64) : (cmpU a b = 0) ↔ a = b := by
  unfold cmpU
  split
  · rename_i h
    constructor
    · intro e; omega
    · intro e; subst e; exact absurd h (UInt64.lt_irrefl _)
  · rename_i h
    split
    · rename_i h2
      constructor
      · intro e; omega
      · intro e; subst e; exact absurd h2 (UInt64.lt_irrefl _)
    · rename_i h2
      constructor
      · intro _
        have h1 : ¬ a.toNat < b.toNat := h
        have h3 : ¬ b.toNat < a.toNat := h2
        exact UInt64.toNat_inj.1 (by omega)
      · intro _; rfl
set_option maxRecDepth 20000 in
set_option maxHeartbeats 2000000 in
theorem bsL_any (v : Value) (l : List Lk) (k : UInt64) (w : World) (hv : LksB w v l) (hr : RisO l) (hl : l.length ≤ 1000000000) :
    Calls Try.prog 42 #[v, .int .u64 k.toNat, .func (.func 43) #[] #[]] w fun e w' => e = .returned (.tuple #[.int .i64 (placeO l k : Nat), .bool (hasO l k)]) ∧ Below w.heap.size w w' := by
  have HP := Lib.hid (placeO_lt l k hr)
  have hpl := placeO_le l k
  have HOr := Lib.hid (fun x w => at1_any x k w)
  unfold Lk.v at HOr
  have HV := Lib.hid hv
  obtain ⟨A, c, rfl, h2, h3, h4⟩ := hv
  have hc9 : c ≤ 9223372036854775807 := by unfold maxLen at h3; omega
  obtain ⟨b, off, hb⟩ : ∃ b off, 0 < l.length → A = some ⟨b, off, none⟩ ∧ b < w.heap.size ∧ ∀ i (h : i < l.length), w.cell? ⟨b, off + i * 3, none⟩ = some (.int .u64 l[i].o.toNat) ∧ w.cell? ⟨b, off + i * 3 + 1, none⟩ = some (.bool l[i].s) ∧ w.cell? ⟨b, off + i * 3 + 2, none⟩ = some (.int .i64 l[i].u) := by
    by_cases h0 : 0 < l.length
    · obtain ⟨b, off, h⟩ := h4 h0; exact ⟨b, off, fun _ => h⟩
    · exact ⟨0, 0, fun h => absurd h h0⟩
  have HB := Lib.hid hb
  obtain ⟨p, hp⟩ : ∃ p, p = placeO l k := ⟨_, rfl⟩
  obtain ⟨q, hq⟩ : ∃ q, q = hasO l k := ⟨_, rfl⟩
  have HQ := Lib.hid hq
  have HPE := Lib.hid hp
  rw [← hp] at hpl HP ⊢
  rw [← hq]
  obtain ⟨n, hn⟩ : ∃ n, n = l.length := ⟨_, rfl⟩
  have HN := Lib.hid hn
  rw [← hn] at hpl hl h2 ⊢
  clear hp hq hb h3 h4 hr hn
  go_enter Try.func42, Try.ntmps42
  go_wp2_with fail
  go_loopw [9, 10] (fun a b' wr => ∃ i j : Nat, i ≤ p ∧ p ≤ j ∧ j ≤ n ∧ a = .int .i64 i ∧ b' = .int .i64 j ∧ Hid (Below w.heap.size w wr)) (fun a b' _ => (intOf b' - intOf a).toNat)
  case atStart => exact ⟨0, n, Nat.zero_le _, hpl, Nat.le_refl _, rfl, rfl, Below.refl _ _⟩
  case round =>
    obtain ⟨i, j, hi, hj, hjn, rfl, rfl, HBr⟩ := hrel
    by_cases hlt : i < j
    · have hlt' : (i : Int) < (j : Int) := by omega
      have hij : (0 : Int) ≤ (i : Int) + (j : Int) := by omega
      have hij2 : (i : Int) + (j : Int) ≤ 4000000000 := by omega
      have hnn := HN.out
      obtain ⟨rfl, hblt, hcells⟩ := HB.out (by omega)
      obtain ⟨m, hm⟩ : ∃ m, m = (i + j) / 2 := ⟨_, rfl⟩
      have hmid : ((i : Int) + (j : Int)) / 2 = (m : Int) := by omega
      have hml : m < l.length := by omega
      have hmn : (m : Int) < (n : Int) := by omega
      have hmi : i ≤ m := by omega
      have hmj : m < j := by omega
      obtain ⟨x1, x2, x3⟩ := hcells m hml
      have y1 := (HBr.out.cell (p := ⟨b, off + m * 3, none⟩) hblt).trans x1
      have y2 := (HBr.out.cell (p := ⟨b, off + m * 3 + 1, none⟩) hblt).trans x2
      have y3 := (HBr.out.cell (p := ⟨b, off + m * 3 + 2, none⟩) hblt).trans x3
      have hpm := HP.out m hml
      rw [← cmpU_neg] at hpm
      have HOm := Lib.hid (HOr.out l[m])
      generalize l[m] = x at *
      have hm0 : (0 : Int) ≤ (m : Int) := by omega
      by_cases hmp : m < p
      · have hneg : decide (cmpU x.o k < 0) = true := by simpa using hpm.2 hmp
        clear hpm x1 x2 x3 hcells hm hnn hij2
        go_wp2_with fail
        refine (HOm.out _).mono ?_
        rintro e w2 ⟨rfl, b2⟩
        have HB2 := Lib.hid (HBr.out.trans (b2.mono HBr.out.size))
        clear b2 y1 y2 y3
        go_wp2_with fail
        go_roundw
        case rel => exact ⟨m + 1, j, by omega, hj, hjn, by go_num, rfl, HB2⟩
        case measure => simp [intOf]; omega
      · have hneg : decide (cmpU x.o k < 0) = false := by rw [decide_eq_false_iff_not]; exact fun h => hmp (hpm.1 h)
        clear hpm x1 x2 x3 hcells hm hnn hij2
        go_wp2_with fail
        refine (HOm.out _).mono ?_
        rintro e w2 ⟨rfl, b2⟩
        have HB2 := Lib.hid (HBr.out.trans (b2.mono HBr.out.size))
        clear b2 y1 y2 y3
        go_wp2_with fail
        go_roundw
        case rel => exact ⟨i, m, hi, by omega, by omega, rfl, rfl, HB2⟩
        case measure => simp [intOf]; omega
    · obtain rfl : i = j := by omega
      obtain rfl : i = p := by omega
      by_cases hin : i < n
      · have hin' : (i : Int) < (n : Int) := by omega
        have hnn := HN.out
        obtain ⟨rfl, hblt, hcells⟩ := HB.out (by omega)
        have hml : i < l.length := by omega
        obtain ⟨x1, x2, x3⟩ := hcells i hml
        have y1 := (HBr.out.cell (p := ⟨b, off + i * 3, none⟩) hblt).trans x1
        have y2 := (HBr.out.cell (p := ⟨b, off + i * 3 + 1, none⟩) hblt).trans x2
        have y3 := (HBr.out.cell (p := ⟨b, off + i * 3 + 2, none⟩) hblt).trans x3
        have hqe : q = decide (cmpU l[i].o k = 0) := by
          rw [HQ.out]; unfold hasO; rw [← HPE.out, List.getElem?_eq_getElem hml]
          simp only [cmpU_zero]
        have HOm := Lib.hid (HOr.out l[i])
        generalize l[i] = x at *
        have hqb : (cmpU x.o k == 0) = q := by rw [hqe]; by_cases h0 : cmpU x.o k = 0 <;> simp [h0]
        clear hqe x1 x2 x3 hcells hnn
        go_wp2_with fail
        refine (HOm.out _).mono ?_
        rintro e w2 ⟨rfl, b2⟩
        have HB2 := Lib.hid (HBr.out.trans (b2.mono HBr.out.size))
        clear b2 y1 y2 y3
        go_wp2_with fail
        go_ret2
        exact ⟨rfl, HB2.out⟩
      · have hin' : ¬ (i : Int) < (n : Int) := by omega
        have hnn := HN.out
        have hq0 : q = false := by
          rw [HQ.out]; unfold hasO; rw [← HPE.out, List.getElem?_eq_none (by omega)]
        subst hq0
        clear hnn
        go_wp2_with fail
        go_ret2
        exact ⟨rfl, HBr.out⟩
set_option maxRecDepth 20000 in
set_option maxHeartbeats 1000000 in
theorem atL_any (p : Nat) (v : Value) (l : List Lk) (b : UInt64) (w : World) (hv : LksB w v l) (hr : RisO l) (hl : l.length ≤ 1000000000) (hc : w.cell? ⟨p, 1, none⟩ = some v) : Calls Try.prog 25 #[.pointer (some ⟨p, 0, none⟩), .int .u64 b.toNat] w fun e w' => e = .returned (.tuple #[.int .i64 (placeO l b : Nat), .bool (hasO l b)]) ∧ Below w.heap.size w w' := by
  have HB := Lib.hid (bsL_any v l b w hv hr hl)
  obtain ⟨A, c, rfl, z1, z2, z3⟩ := hv
  clear z1 z2 z3 hl
  generalize placeO l b = i at *
  generalize hasO l b = d at *
  obtain ⟨n, hn⟩ : ∃ n, n = l.length := ⟨_, rfl⟩
  rw [← hn] at HB hc
  clear hn
  go_enter Try.func25, Try.ntmps25
  go_wp2_with fail
  refine HB.out.mono ?_
  rintro e w' ⟨rfl, b1⟩
  go_wp2
  go_ret2
  exact ⟨rfl, b1⟩
end Go.Proofs.Ytffnkgfpbjmkbaa
