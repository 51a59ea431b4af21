/- lease: Equal, Same, which locks can be, who holds one: any locks. -/
import Derived.Test.YtffnkgfpbjmkbaaLkFind
import Derived.Laws.StructEq
namespace Go.Proofs.Ytffnkgfpbjmkbaa
open Go.RowKit
set_option linter.unusedVariables false
set_option linter.unusedSimpArgs false
theorem lk_ext {a b : Lk} (h1 : a.o = b.o) (h2 : a.s = b.s) (h3 : a.u = b.u) : a = b := by cases a; cases b; simp_all
def lkEq (a b : Lk) : Bool := decide (a.o.toNat = b.o.toNat) && (a.s == b.s) && decide (a.u = b.u)
theorem lkEq_iff (a b : Lk) : lkEq a b = true ↔ a = b := by
  unfold lkEq
  simp only [Bool.and_eq_true, decide_eq_true_eq, beq_iff_eq]
  constructor
  · rintro ⟨⟨h1, h2⟩, h3⟩
    exact lk_ext (UInt64.toNat_inj.1 h1) h2 h3
  · rintro rfl
    exact ⟨⟨rfl, rfl⟩, rfl⟩
theorem lk_neq (a b : Lk) (w : World) : (binOp .neq 62 (.agg #[.int .u64 a.o.toNat, .bool a.s, .int .i64 a.u]) (.agg #[.int .u64 b.o.toNat, .bool b.s, .int .i64 b.u])).run Try.prog w = .ok (.bool (!lkEq a b)) w := by
  have u3 := Try.underlying2
  have u4 := Try.underlying4
  have u5 := Try.underlying22
  have hS : Try.prog.underlying 62 = some (.struct (Try.prog.fieldsOf 62)) := by kernel_rfl
  have hp : Try.prog.stoodInHeld 62 = false := by kernel_rfl
  have a3 := Try.isAgg2
  have z3 := Try.sizeOf2
  have a4 := Try.isAgg4
  have z4 := Try.sizeOf4
  have a5 := Try.isAgg22
  have z5 := Try.sizeOf22
  unfold lkEq
  rw [run_neq_struct, show (10000 : Nat) = 9999 + 1 from rfl, run_equalIn_agg w 9999 62 _ _ hS hp]
  simp only [Program.fieldsOf, Try.underlying62]
  go_simp
  by_cases h1 : a.o.toNat = b.o.toNat <;> by_cases h2 : a.s = b.s <;> by_cases h3 : a.u = b.u <;> simp [h1, h2, h3] <;> omega
theorem lk_eql (a b : Lk) (w : World) : (binOp .eql 62 (.agg #[.int .u64 a.o.toNat, .bool a.s, .int .i64 a.u]) (.agg #[.int .u64 b.o.toNat, .bool b.s, .int .i64 b.u])).run Try.prog w = .ok (.bool (lkEq a b)) w := by
  have u3 := Try.underlying2
  have u4 := Try.underlying4
  have u5 := Try.underlying22
  have hS : Try.prog.underlying 62 = some (.struct (Try.prog.fieldsOf 62)) := by kernel_rfl
  have hp : Try.prog.stoodInHeld 62 = false := by kernel_rfl
  have a3 := Try.isAgg2
  have z3 := Try.sizeOf2
  have a4 := Try.isAgg4
  have z4 := Try.sizeOf4
  have a5 := Try.isAgg22
  have z5 := Try.sizeOf22
  unfold lkEq
  rw [run_eql_struct, show (10000 : Nat) = 9999 + 1 from rfl, run_equalIn_agg w 9999 62 _ _ hS hp]
  simp only [Program.fieldsOf, Try.underlying62]
  go_simp
  by_cases h1 : a.o.toNat = b.o.toNat <;> by_cases h2 : a.s = b.s <;> by_cases h3 : a.u = b.u <;> simp [h1, h2, h3] <;> omega
theorem lk_guard (op : BinOp) (x y : Operand) (a b : Lk) (w : World) : (eqGuard op 62 x y (.agg #[.int .u64 a.o.toNat, .bool a.s, .int .i64 a.u]) (.agg #[.int .u64 b.o.toNat, .bool b.s, .int .i64 b.u])).run Try.prog w = .ok () w := run_eqGuard_agg _ _ _ _ _ _ _ (by kernel_rfl)
def lksEq (a b : List Lk) : Bool := decide (a.length = b.length) && (List.zipWith lkEq a b).all id
theorem lksEq_iff : ∀ a b : List Lk, lksEq a b = true ↔ a = b
  | [], [] => by simp [lksEq]
  | [], _ :: _ => by simp [lksEq]
  | _ :: _, [] => by simp [lksEq]
  | x :: a, y :: b => by
    have := lksEq_iff a b
    unfold lksEq at *
    simp only [List.zipWith_cons_cons, List.all_cons, List.length_cons, id, Bool.and_eq_true, decide_eq_true_eq, List.cons.injEq] at *
    constructor
    · rintro ⟨h1, h2, h3⟩
      exact ⟨(lkEq_iff x y).1 h2, this.1 ⟨by omega, h3⟩⟩
    · rintro ⟨h1, h2⟩
      obtain ⟨h3, h4⟩ := this.2 h2
      exact ⟨by omega, (lkEq_iff x y).2 h1, h4⟩
theorem lksEq_get {a b : List Lk} (hl : a.length = b.length) (h : ∀ i (h1 : i < a.length) (h2 : i < b.length), lkEq a[i] b[i] = true) : lksEq a b = true := by
  rw [lksEq_iff]
  refine List.ext_getElem hl fun i h1 h2 => ?_
  exact (lkEq_iff _ _).1 (h i h1 h2)
theorem lksEq_ne {a b : List Lk} (i : Nat) (h1 : i < a.length) (h2 : i < b.length) (h : lkEq a[i] b[i] = false) : lksEq a b = false := by
  cases hq : lksEq a b with
  | false => rfl
  | true =>
    have e := (lksEq_iff a b).1 hq
    subst e
    have := (lkEq_iff a[i] a[i]).2 rfl
    rw [this] at h; cases h
set_option maxRecDepth 20000 in
set_option maxHeartbeats 2000000 in
theorem equal_any (va vb : Value) (la lb : List Lk) (w : World) (ha : LksB w va la) (hb : LksB w vb lb) :
    Calls Try.prog 36 #[va, vb] w fun e w' => e = .returned (.bool (lksEq la lb)) ∧ Below w.heap.size w w' := by
  obtain ⟨A, ca, rfl, _, h3, h4⟩ := ha
  obtain ⟨A2, cb, rfl, _, g3, g4⟩ := hb
  have hc9 : ca ≤ 9223372036854775807 := by unfold maxLen at h3; omega
  have hc8 : cb ≤ 9223372036854775807 := by unfold maxLen at g3; omega
  have HA := Lib.hid h4
  have HB := Lib.hid g4
  obtain ⟨n, hn⟩ : ∃ n, n = la.length := ⟨_, rfl⟩
  obtain ⟨m, hm⟩ : ∃ m, m = lb.length := ⟨_, rfl⟩
  have HN := Lib.hid hn
  have HM := Lib.hid hm
  obtain ⟨r, hr⟩ : ∃ r, r = lksEq la lb := ⟨_, rfl⟩
  have HR := Lib.hid hr
  rw [← hr]
  rw [← hn, ← hm]
  have hcn : n ≤ ca := by omega
  have hcm : m ≤ cb := by omega
  by_cases hnm : n = m
  · clear hn hm h3 h4 g3 g4 hr
    have hne : ((n : Int) != (m : Int)) = false := by simp; omega
    go_enter Try.func36, Try.ntmps36
    go_wp2_with fail
    go_loopw [13] (fun a wr => ∃ i : Nat, i ≤ n ∧ a = .int .i64 i ∧ Hid (∀ j (h1 : j < la.length) (h2 : j < lb.length), j < i → lkEq la[j] lb[j] = true) ∧ Hid (Below w.heap.size w wr)) (fun a _ => n - (intOf a).toNat)
    case atStart => exact ⟨0, Nat.zero_le _, rfl, (fun j _ _ h => absurd h (by omega)), Below.refl _ _⟩
    case round =>
      obtain ⟨i, hi, rfl, HK, HBr⟩ := hrel
      by_cases hlt : i < n
      · have hlt' : (i : Int) < (n : Int) := by omega
        have hlm' : (i : Int) < (m : Int) := by omega
        have hnn := HN.out
        have hmm := HM.out
        obtain ⟨b, off, rfl, hblt, hcells⟩ := HA.out (by omega)
        obtain ⟨b2, off2, rfl, hblt2, hcells2⟩ := HB.out (by omega)
        have hml : i < la.length := by omega
        have hml2 : i < lb.length := by omega
        obtain ⟨x1, x2, x3⟩ := hcells i hml
        obtain ⟨z1, z2, z3⟩ := hcells2 i hml2
        have y1 := (HBr.out.cell (p := ⟨b, off + i * 3, none⟩) hblt).trans x1
        have y2 := (HBr.out.cell (p := ⟨b, off + i * 3 + 1, none⟩) hblt).trans x2
        have y3 := (HBr.out.cell (p := ⟨b, off + i * 3 + 2, none⟩) hblt).trans x3
        have u1 := (HBr.out.cell (p := ⟨b2, off2 + i * 3, none⟩) hblt2).trans z1
        have u2 := (HBr.out.cell (p := ⟨b2, off2 + i * 3 + 1, none⟩) hblt2).trans z2
        have u3 := (HBr.out.cell (p := ⟨b2, off2 + i * 3 + 2, none⟩) hblt2).trans z3
        have HNE := Lib.hid (fun hq => lksEq_ne i hml hml2 hq)
        have HK2 : Hid (lkEq la[i] lb[i] = true → ∀ j (h1 : j < la.length) (h2 : j < lb.length), j < i + 1 → lkEq la[j] lb[j] = true) := by
          intro hq j h1 h2 hj
          by_cases e : j = i
          · subst e; exact hq
          · exact HK.out j h1 h2 (by omega)
        generalize la[i] = x at *
        generalize lb[i] = y at *
        have hm0 : (0 : Int) ≤ (i : Int) := by omega
        have hng := fun W => lk_neq x y W
        have hgd := fun op p q W => lk_guard op p q x y W
        clear x1 x2 x3 z1 z2 z3 hcells hcells2 hnn hmm HK
        cases hq : lkEq x y with
        | true =>
          rw [hq] at hng
          have HK3 := Lib.hid (HK2.out hq)
          clear hq
          go_wp2_with fail
          go_quiet (fail)
          go_wp2_with fail
          go_roundw
          case rel => exact ⟨i + 1, by omega, by go_num, HK3, Below.drewN HBr.out _⟩
          case measure => simp [intOf]; omega
        | false =>
          rw [hq] at hng
          have hrf : r = false := by rw [HR.out]; exact HNE.out hq
          subst hrf
          clear hq
          go_wp2_with fail
          go_quiet (fail)
          go_wp2_with fail
          go_ret
          exact ⟨rfl, Below.drewN HBr.out _⟩
      · obtain rfl : i = n := by omega
        have hrt : r = true := by
          rw [HR.out]
          have h1 := HN.out
          have h2 := HM.out
          exact lksEq_get (by omega) (fun j h1 h2 => HK.out j h1 h2 (by omega))
        subst hrt
        go_wp2_with fail
        go_ret
        exact ⟨rfl, HBr.out⟩
  · have hrf : r = false := by
      rw [hr]; unfold lksEq
      rw [show decide (la.length = lb.length) = false by simp; omega]; rfl
    subst hrf
    clear hn hm h3 h4 g3 g4 hr
    have hne : ((n : Int) != (m : Int)) = true := by simp; omega
    go_enter Try.func36, Try.ntmps36
    go_wp2_with fail
    go_ret
    exact ⟨rfl, Below.refl _ _⟩
def sameL (na : Int) (la : List Lk) (nb : Int) (lb : List Lk) : Bool := decide (na = nb) && lksEq la lb
set_option maxRecDepth 20000 in
set_option maxHeartbeats 2000000 in
theorem same_any (na nb : Int) (va vb : Value) (la lb : List Lk) (w : World) (ha : LksB w va la) (hb : LksB w vb lb) :
    Calls Try.prog 15 #[Lc na va, Lc nb vb] w fun e w' => e = .returned (.bool (sameL na la nb lb)) ∧ Below w.heap.size w w' := by
  have HE := Lib.hid (fun w' (b : Below w.heap.size w w') => equal_any va vb la lb w' (ha.below b (Nat.le_refl _)) (hb.below b (Nat.le_refl _)))
  obtain ⟨A, ca, rfl, _, _, _⟩ := ha
  obtain ⟨A2, cb, rfl, _, _, _⟩ := hb
  unfold sameL Lc
  have HB2 : Hid (Below w.heap.size w ((w.alloc (.cells #[.int .i64 na, .slice A la.length ca] 27)).alloc (.cells #[.int .i64 nb, .slice A2 lb.length cb] 27))) := ((Below.refl _ _).alloc (Nat.le_refl _) _).alloc (by simp) _
  generalize lksEq la lb = r at *
  obtain ⟨n, hn⟩ : ∃ n, n = la.length := ⟨_, rfl⟩
  obtain ⟨m, hm⟩ : ∃ m, m = lb.length := ⟨_, rfl⟩
  rw [← hn, ← hm] at HE HB2
  rw [← hn, ← hm]
  clear hn hm
  by_cases hq : na = nb
  · subst hq
    rw [show decide (na = na) = true by simp, Bool.true_and]
    go_enter Try.func15, Try.ntmps15
    go_wp2_with fail
    refine (HE.out _ HB2.out).mono ?_
    rintro e w' ⟨rfl, b1⟩
    have HB3 := Lib.hid (HB2.out.trans (b1.mono HB2.out.size))
    go_wp2_with fail
    go_ret
    exact ⟨rfl, HB3.out⟩
  · have he : ((na : Int) == nb) = false := by simpa using hq
    rw [show decide (na = nb) = false by simpa using hq, Bool.false_and]
    go_enter Try.func15, Try.ntmps15
    go_wp2_with fail
    go_ret
    exact ⟨rfl, HB2.out⟩
/-- a lock that can't be -/
def badB (now : Int) (n : Nat) (x : Lk) : Bool := decide (x.u ≤ now) || decide (now + 1000 < x.u) || (!x.s && decide (1 < n))
set_option maxRecDepth 20000 in
set_option maxHeartbeats 2000000 in
theorem bad_any (bk : Nat) (x : Lk) (now : Int) (A : Option Addr) (n c : Nat) (w : World) (h0 : 0 ≤ now) (h1 : now ≤ 1000000000000) (hk0 : w.cell? ⟨bk, 0, none⟩ = some (.int .i64 now)) (hk1 : w.cell? ⟨bk, 1, none⟩ = some (.slice A n c)) (hkl : bk < w.heap.size) :
    Calls Try.prog 35 #[.pointer (some ⟨bk, 0, none⟩), .agg #[.int .u64 x.o.toNat, .bool x.s, .int .i64 x.u]] w fun e w' => e = .returned (.bool (badB now n x)) ∧ Below w.heap.size w w' := by
  have hb : Below w.heap.size w (w.alloc (.cells #[.int .u64 x.o.toNat, .bool x.s, .int .i64 x.u] 62)) := (Below.refl _ _).alloc (Nat.le_refl _) _
  have hp2 := (hb.cell (p := ⟨bk, 0, none⟩) hkl).trans hk0
  have hk2 := (hb.cell (p := ⟨bk, 1, none⟩) hkl).trans hk1
  have HB := Lib.hid hb
  obtain ⟨o, s, u⟩ := x
  unfold badB
  dsimp only at *
  clear hb hk0 hk1
  by_cases q1 : u ≤ now
  · have d1 : decide (u ≤ now) = true := by simpa using q1
    rw [d1, Bool.true_or, Bool.true_or]
    clear q1
    go_enter Try.func35, Try.ntmps35
    go_wp2_with fail
    go_quiet (fail)
    go_wp2_with fail
    go_ret
    exact ⟨rfl, Below.drewN HB.out _⟩
  · have d1 : decide (u ≤ now) = false := by simpa using q1
    rw [d1, Bool.false_or]
    clear q1
    by_cases q2 : now + 1000 < u
    · have d2 : decide (now + 1000 < u) = true := by simpa using q2
      rw [d2, Bool.true_or]
      clear q2
      go_enter Try.func35, Try.ntmps35
      go_wp2_with fail
      go_quiet (fail)
      go_wp2_with fail
      go_ret
      exact ⟨rfl, Below.drewN HB.out _⟩
    · have d2 : decide (now + 1000 < u) = false := by simpa using q2
      rw [d2, Bool.false_or]
      clear q2
      cases s with
      | true =>
        go_enter Try.func35, Try.ntmps35
        go_wp2_with fail
        go_quiet (fail)
        go_wp2_with fail
        go_ret
        exact ⟨rfl, Below.drewN HB.out _⟩
      | false =>
        by_cases q3 : 1 < n
        · have d3 : decide (1 < n) = true := by simpa using q3
          have d3' : decide ((1 : Int) < (n : Int)) = true := by simp; omega
          rw [d3]
          clear q3
          go_enter Try.func35, Try.ntmps35
          go_wp2_with fail
          go_quiet (fail)
          go_wp2_with fail
          go_ret
          exact ⟨rfl, Below.drewN HB.out _⟩
        · have d3 : decide (1 < n) = false := by simpa using q3
          have d3' : decide ((1 : Int) < (n : Int)) = false := by simp; omega
          rw [d3]
          clear q3
          go_enter Try.func35, Try.ntmps35
          go_wp2_with fail
          go_quiet (fail)
          go_wp2_with fail
          go_ret
          exact ⟨rfl, Below.drewN HB.out _⟩
end Go.Proofs.Ytffnkgfpbjmkbaa
