/- Rows of locks: looking with a closure; cloning; whether two are the same. -/
import Derived.Test.YtffnkgfpbjmkbaaLkRow
namespace Go.Proofs.Ytffnkgfpbjmkbaa
open Go.RowKit
set_option linter.unusedVariables false
set_option linter.unusedSimpArgs false
def ixP (l : List Lk) (p : Lk → Bool) : Nat := (l.takeWhile fun x => !p x).length
theorem ixP_le (l : List Lk) (p : Lk → Bool) : ixP l p ≤ l.length := by
  unfold ixP
  have := congrArg List.length (List.takeWhile_append_dropWhile (p := fun x : Lk => !p x) (l := l))
  rw [List.length_append] at this
  omega
theorem ixP_at : ∀ (l : List Lk) (p : Lk → Bool) (i : Nat) (h : i < l.length), i ≤ ixP l p → (p l[i] = true ↔ i = ixP l p)
  | [], p, i, h, _ => absurd h (Nat.not_lt_zero _)
  | x :: l, p, i, h, hi => by
    cases hx : p x with
    | true =>
      have hp : ixP (x :: l) p = 0 := by simp [ixP, List.takeWhile_cons, hx]
      rw [hp] at hi ⊢
      obtain rfl : i = 0 := by omega
      simpa using hx
    | false =>
      have hp : ixP (x :: l) p = ixP l p + 1 := by simp [ixP, List.takeWhile_cons, hx]
      rw [hp] at hi ⊢
      cases i with
      | zero => simp [hx]
      | succ i =>
        have := ixP_at l p i (by simpa using h) (by omega)
        simp only [List.getElem_cons_succ]
        rw [this]
        omega
theorem anyP_ix : ∀ (l : List Lk) (p : Lk → Bool), l.any p = decide (ixP l p < l.length)
  | [], p => by simp [ixP]
  | x :: l, p => by
    cases hx : p x with
    | true =>
      have hp : ixP (x :: l) p = 0 := by simp [ixP, List.takeWhile_cons, hx]
      rw [hp]; simp [hx]
    | false =>
      have hp : ixP (x :: l) p = ixP l p + 1 := by simp [ixP, List.takeWhile_cons, hx]
      rw [hp, List.any_cons, hx, Bool.false_or, anyP_ix l p]
      simp
def ixI (l : List Lk) (p : Lk → Bool) : Int := if ixP l p < l.length then (ixP l p : Nat) else -1
set_option maxRecDepth 20000 in
set_option maxHeartbeats 2000000 in
theorem ixA_any (v : Value) (l : List Lk) (p : Lk → Bool) (w : World) (hv : LksB w v l) (hl : l.length ≤ 1000000000) (HC : ∀ x ∈ l, ∀ w', Below w.heap.size w w' → Calls Try.prog 27 #[.agg #[.int .u64 x.o.toNat, .bool x.s, .int .i64 x.u]] w' fun e w'' => e = .returned (.bool (p x)) ∧ Below w'.heap.size w' w'') :
    Calls Try.prog 45 #[v, .func (.func 27) #[] #[]] w fun e w' => e = .returned (.int .i64 (ixI l p)) ∧ Below w.heap.size w w' := by
  have HC' := Lib.hid HC
  obtain ⟨A, c, rfl, h2, h3, h4⟩ := hv
  have hc9 : c ≤ 9223372036854775807 := by unfold maxLen at h3; omega
  have HB := Lib.hid h4
  have HAT := Lib.hid (ixP_at l p)
  have HLE := Lib.hid (ixP_le l p)
  obtain ⟨q, hq⟩ : ∃ q, q = ixP l p := ⟨_, rfl⟩
  obtain ⟨z, hz⟩ : ∃ z, z = ixI l p := ⟨_, rfl⟩
  have HZ := Lib.hid hz
  unfold ixI at HZ
  rw [← hz]
  rw [← hq] at HAT HLE HZ
  obtain ⟨n, hn⟩ : ∃ n, n = l.length := ⟨_, rfl⟩
  have HN := Lib.hid hn
  rw [← hn] at hl h2 HLE HZ ⊢
  clear hn h3 h4 hq hz HC
  go_enter Try.func45, Try.ntmps45
  go_wp2_with fail
  go_loopw [8] (fun a wr => ∃ i : Nat, i ≤ q ∧ i ≤ n ∧ a = .int .i64 i ∧ Hid (Below w.heap.size w wr)) (fun a _ => n - (intOf a).toNat)
  case atStart => exact ⟨0, Nat.zero_le _, Nat.zero_le _, rfl, Below.refl _ _⟩
  case round =>
    obtain ⟨i, hi, hin, rfl, HBr⟩ := hrel
    by_cases hlt : i < n
    · have hlt' : (i : Int) < (n : Int) := by omega
      have hnn := HN.out
      obtain ⟨b, off, rfl, hblt, hcells⟩ := HB.out (by omega)
      have hml : i < l.length := by omega
      obtain ⟨x1, x2, x3⟩ := hcells i hml
      have y1 := (HBr.out.cell (p := ⟨b, off + i * 3, none⟩) hblt).trans x1
      have y2 := (HBr.out.cell (p := ⟨b, off + i * 3 + 1, none⟩) hblt).trans x2
      have y3 := (HBr.out.cell (p := ⟨b, off + i * 3 + 2, none⟩) hblt).trans x3
      have HCx := Lib.hid (HC'.out l[i] (List.getElem_mem hml) _ HBr.out)
      have hat := HAT.out i hml hi
      generalize l[i] = x at *
      have hm0 : (0 : Int) ≤ (i : Int) := by omega
      cases hpx : p x with
      | true =>
        rw [hpx] at HCx hat
        have hiq : i = q := hat.1 rfl
        have hzi : z = (i : Int) := by have := HZ.out; rw [if_pos (by omega)] at this; rw [this, hiq]
        clear hat x1 x2 x3 hcells hnn HAT hiq
        go_wp2_with fail
        refine HCx.out.mono ?_
        rintro e w2 ⟨rfl, b2⟩
        have HB2 := Lib.hid (HBr.out.trans (b2.mono HBr.out.size))
        clear b2 y1 y2 y3
        go_wp2_with fail
        go_ret
        subst hzi
        exact ⟨rfl, HB2.out⟩
      | false =>
        rw [hpx] at HCx hat
        have hiq : i ≠ q := fun e => by have := hat.2 e; cases this
        clear hat x1 x2 x3 hcells hnn HAT
        go_wp2_with fail
        refine HCx.out.mono ?_
        rintro e w2 ⟨rfl, b2⟩
        have HB2 := Lib.hid (HBr.out.trans (b2.mono HBr.out.size))
        clear b2 y1 y2 y3
        go_wp2_with fail
        go_roundw
        case rel => exact ⟨i + 1, by omega, by omega, by go_num, HB2⟩
        case measure => simp [intOf]; omega
    · obtain rfl : i = n := by omega
      have hle := HLE.out
      have hzi : z = -1 := by have := HZ.out; rw [if_neg (by omega)] at this; exact this
      clear hle
      go_wp2_with fail
      go_ret
      subst hzi
      exact ⟨rfl, HBr.out⟩
set_option maxRecDepth 20000 in
set_option maxHeartbeats 1000000 in
theorem conA_any (v : Value) (l : List Lk) (p : Lk → Bool) (w : World) (hv : LksB w v l) (hl : l.length ≤ 1000000000) (HC : ∀ x ∈ l, ∀ w', Below w.heap.size w w' → Calls Try.prog 27 #[.agg #[.int .u64 x.o.toNat, .bool x.s, .int .i64 x.u]] w' fun e w'' => e = .returned (.bool (p x)) ∧ Below w'.heap.size w' w'') :
    Calls Try.prog 26 #[v, .func (.func 27) #[] #[]] w fun e w' => e = .returned (.bool (l.any p)) ∧ Below w.heap.size w w' := by
  have HI := Lib.hid (ixA_any v l p w hv hl HC)
  rw [anyP_ix]
  unfold ixI at HI
  obtain ⟨A, c, rfl, h2, h3, h4⟩ := hv
  obtain ⟨n, hn⟩ : ∃ n, n = l.length := ⟨_, rfl⟩
  rw [← hn] at HI ⊢
  clear hn h2 h3 h4 HC hl
  generalize ixP l p = q at *
  by_cases hq : q < n
  · rw [if_pos hq] at HI
    rw [show decide (q < n) = true by simpa using hq]
    have hq0 : (0 : Int) ≤ (q : Int) := by omega
    go_enter Try.func26, Try.ntmps26
    go_wp2_with fail
    refine HI.out.mono ?_
    rintro e w' ⟨rfl, b1⟩
    go_wp2
    go_ret
    exact ⟨rfl, b1⟩
  · rw [if_neg hq] at HI
    rw [show decide (q < n) = false by simpa using hq]
    clear hq
    go_enter Try.func26, Try.ntmps26
    go_wp2_with fail
    refine HI.out.mono ?_
    rintro e w' ⟨rfl, b1⟩
    go_wp2
    go_ret
    exact ⟨rfl, b1⟩
set_option maxRecDepth 20000 in
set_option maxHeartbeats 2000000 in
theorem ixB_any (bk : Nat) (v : Value) (l : List Lk) (p : Lk → Bool) (w : World) (hv : LksB w v l) (hl : l.length ≤ 1000000000) (HC : ∀ x ∈ l, ∀ w', Below w.heap.size w w' → Calls Try.prog 35 #[.pointer (some ⟨bk, 0, none⟩), .agg #[.int .u64 x.o.toNat, .bool x.s, .int .i64 x.u]] w' fun e w'' => e = .returned (.bool (p x)) ∧ Below w'.heap.size w' w'') :
    Calls Try.prog 45 #[v, .func (.func 35) #[.pointer (some ⟨bk, 0, none⟩)] #[]] w fun e w' => e = .returned (.int .i64 (ixI l p)) ∧ Below w.heap.size w w' := by
  have HC' := Lib.hid HC
  obtain ⟨A, c, rfl, h2, h3, h4⟩ := hv
  have hc9 : c ≤ 9223372036854775807 := by unfold maxLen at h3; omega
  have HB := Lib.hid h4
  have HAT := Lib.hid (ixP_at l p)
  have HLE := Lib.hid (ixP_le l p)
  obtain ⟨q, hq⟩ : ∃ q, q = ixP l p := ⟨_, rfl⟩
  obtain ⟨z, hz⟩ : ∃ z, z = ixI l p := ⟨_, rfl⟩
  have HZ := Lib.hid hz
  unfold ixI at HZ
  rw [← hz]
  rw [← hq] at HAT HLE HZ
  obtain ⟨n, hn⟩ : ∃ n, n = l.length := ⟨_, rfl⟩
  have HN := Lib.hid hn
  rw [← hn] at hl h2 HLE HZ ⊢
  clear hn h3 h4 hq hz HC
  go_enter Try.func45, Try.ntmps45
  go_wp2_with fail
  go_loopw [8] (fun a wr => ∃ i : Nat, i ≤ q ∧ i ≤ n ∧ a = .int .i64 i ∧ Hid (Below w.heap.size w wr)) (fun a _ => n - (intOf a).toNat)
  case atStart => exact ⟨0, Nat.zero_le _, Nat.zero_le _, rfl, Below.refl _ _⟩
  case round =>
    obtain ⟨i, hi, hin, rfl, HBr⟩ := hrel
    by_cases hlt : i < n
    · have hlt' : (i : Int) < (n : Int) := by omega
      have hnn := HN.out
      obtain ⟨b, off, rfl, hblt, hcells⟩ := HB.out (by omega)
      have hml : i < l.length := by omega
      obtain ⟨x1, x2, x3⟩ := hcells i hml
      have y1 := (HBr.out.cell (p := ⟨b, off + i * 3, none⟩) hblt).trans x1
      have y2 := (HBr.out.cell (p := ⟨b, off + i * 3 + 1, none⟩) hblt).trans x2
      have y3 := (HBr.out.cell (p := ⟨b, off + i * 3 + 2, none⟩) hblt).trans x3
      have HCx := Lib.hid (HC'.out l[i] (List.getElem_mem hml) _ HBr.out)
      have hat := HAT.out i hml hi
      generalize l[i] = x at *
      have hm0 : (0 : Int) ≤ (i : Int) := by omega
      cases hpx : p x with
      | true =>
        rw [hpx] at HCx hat
        have hiq : i = q := hat.1 rfl
        have hzi : z = (i : Int) := by have := HZ.out; rw [if_pos (by omega)] at this; rw [this, hiq]
        clear hat x1 x2 x3 hcells hnn HAT hiq
        go_wp2_with fail
        refine HCx.out.mono ?_
        rintro e w2 ⟨rfl, b2⟩
        have HB2 := Lib.hid (HBr.out.trans (b2.mono HBr.out.size))
        clear b2 y1 y2 y3
        go_wp2_with fail
        go_ret
        subst hzi
        exact ⟨rfl, HB2.out⟩
      | false =>
        rw [hpx] at HCx hat
        have hiq : i ≠ q := fun e => by have := hat.2 e; cases this
        clear hat x1 x2 x3 hcells hnn HAT
        go_wp2_with fail
        refine HCx.out.mono ?_
        rintro e w2 ⟨rfl, b2⟩
        have HB2 := Lib.hid (HBr.out.trans (b2.mono HBr.out.size))
        clear b2 y1 y2 y3
        go_wp2_with fail
        go_roundw
        case rel => exact ⟨i + 1, by omega, by omega, by go_num, HB2⟩
        case measure => simp [intOf]; omega
    · obtain rfl : i = n := by omega
      have hle := HLE.out
      have hzi : z = -1 := by have := HZ.out; rw [if_neg (by omega)] at this; exact this
      clear hle
      go_wp2_with fail
      go_ret
      subst hzi
      exact ⟨rfl, HBr.out⟩
set_option maxRecDepth 20000 in
set_option maxHeartbeats 1000000 in
theorem conB_any (bk : Nat) (v : Value) (l : List Lk) (p : Lk → Bool) (w : World) (hv : LksB w v l) (hl : l.length ≤ 1000000000) (HC : ∀ x ∈ l, ∀ w', Below w.heap.size w w' → Calls Try.prog 35 #[.pointer (some ⟨bk, 0, none⟩), .agg #[.int .u64 x.o.toNat, .bool x.s, .int .i64 x.u]] w' fun e w'' => e = .returned (.bool (p x)) ∧ Below w'.heap.size w' w'') :
    Calls Try.prog 26 #[v, .func (.func 35) #[.pointer (some ⟨bk, 0, none⟩)] #[]] w fun e w' => e = .returned (.bool (l.any p)) ∧ Below w.heap.size w w' := by
  have HI := Lib.hid (ixB_any bk v l p w hv hl HC)
  rw [anyP_ix]
  unfold ixI at HI
  obtain ⟨A, c, rfl, h2, h3, h4⟩ := hv
  obtain ⟨n, hn⟩ : ∃ n, n = l.length := ⟨_, rfl⟩
  rw [← hn] at HI ⊢
  clear hn h2 h3 h4 HC hl
  generalize ixP l p = q at *
  by_cases hq : q < n
  · rw [if_pos hq] at HI
    rw [show decide (q < n) = true by simpa using hq]
    have hq0 : (0 : Int) ≤ (q : Int) := by omega
    go_enter Try.func26, Try.ntmps26
    go_wp2_with fail
    refine HI.out.mono ?_
    rintro e w' ⟨rfl, b1⟩
    go_wp2
    go_ret
    exact ⟨rfl, b1⟩
  · rw [if_neg hq] at HI
    rw [show decide (q < n) = false by simpa using hq]
    clear hq
    go_enter Try.func26, Try.ntmps26
    go_wp2_with fail
    refine HI.out.mono ?_
    rintro e w' ⟨rfl, b1⟩
    go_wp2
    go_ret
    exact ⟨rfl, b1⟩
set_option maxRecDepth 20000 in
set_option maxHeartbeats 2000000 in
theorem ixP_any (bk : Nat) (v : Value) (l : List Lk) (p : Lk → Bool) (w : World) (hv : LksB w v l) (hl : l.length ≤ 1000000000) (HC : ∀ x ∈ l, ∀ w', Below w.heap.size w w' → Calls Try.prog 31 #[.agg #[.int .u64 x.o.toNat, .bool x.s, .int .i64 x.u], .pointer (some ⟨bk, 0, none⟩)] w' fun e w'' => e = .returned (.bool (p x)) ∧ Below w'.heap.size w' w'') :
    Calls Try.prog 45 #[v, .func (.func 31) #[] #[.pointer (some ⟨bk, 0, none⟩)]] w fun e w' => e = .returned (.int .i64 (ixI l p)) ∧ Below w.heap.size w w' := by
  have HC' := Lib.hid HC
  obtain ⟨A, c, rfl, h2, h3, h4⟩ := hv
  have hc9 : c ≤ 9223372036854775807 := by unfold maxLen at h3; omega
  have HB := Lib.hid h4
  have HAT := Lib.hid (ixP_at l p)
  have HLE := Lib.hid (ixP_le l p)
  obtain ⟨q, hq⟩ : ∃ q, q = ixP l p := ⟨_, rfl⟩
  obtain ⟨z, hz⟩ : ∃ z, z = ixI l p := ⟨_, rfl⟩
  have HZ := Lib.hid hz
  unfold ixI at HZ
  rw [← hz]
  rw [← hq] at HAT HLE HZ
  obtain ⟨n, hn⟩ : ∃ n, n = l.length := ⟨_, rfl⟩
  have HN := Lib.hid hn
  rw [← hn] at hl h2 HLE HZ ⊢
  clear hn h3 h4 hq hz HC
  go_enter Try.func45, Try.ntmps45
  go_wp2_with fail
  go_loopw [8] (fun a wr => ∃ i : Nat, i ≤ q ∧ i ≤ n ∧ a = .int .i64 i ∧ Hid (Below w.heap.size w wr)) (fun a _ => n - (intOf a).toNat)
  case atStart => exact ⟨0, Nat.zero_le _, Nat.zero_le _, rfl, Below.refl _ _⟩
  case round =>
    obtain ⟨i, hi, hin, rfl, HBr⟩ := hrel
    by_cases hlt : i < n
    · have hlt' : (i : Int) < (n : Int) := by omega
      have hnn := HN.out
      obtain ⟨b, off, rfl, hblt, hcells⟩ := HB.out (by omega)
      have hml : i < l.length := by omega
      obtain ⟨x1, x2, x3⟩ := hcells i hml
      have y1 := (HBr.out.cell (p := ⟨b, off + i * 3, none⟩) hblt).trans x1
      have y2 := (HBr.out.cell (p := ⟨b, off + i * 3 + 1, none⟩) hblt).trans x2
      have y3 := (HBr.out.cell (p := ⟨b, off + i * 3 + 2, none⟩) hblt).trans x3
      have HCx := Lib.hid (HC'.out l[i] (List.getElem_mem hml) _ HBr.out)
      have hat := HAT.out i hml hi
      generalize l[i] = x at *
      have hm0 : (0 : Int) ≤ (i : Int) := by omega
      cases hpx : p x with
      | true =>
        rw [hpx] at HCx hat
        have hiq : i = q := hat.1 rfl
        have hzi : z = (i : Int) := by have := HZ.out; rw [if_pos (by omega)] at this; rw [this, hiq]
        clear hat x1 x2 x3 hcells hnn HAT hiq
        go_wp2_with fail
        refine HCx.out.mono ?_
        rintro e w2 ⟨rfl, b2⟩
        have HB2 := Lib.hid (HBr.out.trans (b2.mono HBr.out.size))
        clear b2 y1 y2 y3
        go_wp2_with fail
        go_ret
        subst hzi
        exact ⟨rfl, HB2.out⟩
      | false =>
        rw [hpx] at HCx hat
        have hiq : i ≠ q := fun e => by have := hat.2 e; cases this
        clear hat x1 x2 x3 hcells hnn HAT
        go_wp2_with fail
        refine HCx.out.mono ?_
        rintro e w2 ⟨rfl, b2⟩
        have HB2 := Lib.hid (HBr.out.trans (b2.mono HBr.out.size))
        clear b2 y1 y2 y3
        go_wp2_with fail
        go_roundw
        case rel => exact ⟨i + 1, by omega, by omega, by go_num, HB2⟩
        case measure => simp [intOf]; omega
    · obtain rfl : i = n := by omega
      have hle := HLE.out
      have hzi : z = -1 := by have := HZ.out; rw [if_neg (by omega)] at this; exact this
      clear hle
      go_wp2_with fail
      go_ret
      subst hzi
      exact ⟨rfl, HBr.out⟩
theorem wpList_append_lN {w : World} {ops : Array Oper} {rest : List Oper} {o : Oper} {a : Act} {Q : Exit → Act → World → Prop} (hgd : o.guard = none) (s x : Operand)
    (ho : o.op = .call { callee := .builtin .append, args := #[s, x], argTypes := #[25, 25] })
    (base : Nat) (v : Value) (hs : a.eval s = v) (l0 : List Lk) (hown : OwnL w base v l0.length (lkC l0)) (ad : Addr) (n c : Nat) (l : List Lk) (hx : a.eval x = .slice (some ad) n c) (hn : l.length = n) (hc : ∀ j u, (lkC l)[j]? = some u → w.cell? (ad.add j) = some u) (hl : l0.length + n ≤ 1000000000) (hbase : base ≤ w.heap.size)
    (h : ∀ v' w', OwnL w' base v' (l0 ++ l).length (lkC (l0 ++ l)) → w.grownBy w' v.ownBlock → wpList Try.prog ops Q rest (a.put o.dst v') w') : wpList Try.prog ops Q (o :: rest) a w := by
  obtain ⟨i0, hi, hz0, hz1, hz2⟩ := info_parts lkInfo
  refine wpList_append_own_at w hgd s x 25 ho base 62 i0 (.agg #[.int .u64 0, .bool false, .int .i64 0]) 3 24 Try.underlying25 hi hz0 hz1 hz2 rfl (by decide) v l0.length (lkC l0) hs hown ad n c (lkC l) hx (by rw [lkC_len, hn]) hc (lkC_one l) (by unfold maxLen; omega) (by omega) hbase ?_
  intro v' w' h1 h2 _ h4
  refine h v' w' ?_ h2
  rw [List.length_append, lkC_append, hn]
  exact h1
set_option maxRecDepth 20000 in
set_option maxHeartbeats 1000000 in
theorem cloneL_any (v : Value) (l : List Lk) (w : World) (h : LksN w v l) (hl : l.length ≤ 1000000000) : Calls Try.prog 30 #[v] w fun e w' => ∃ v', e = .returned v' ∧ OwnL w' w.heap.size v' l.length (lkC l) ∧ Below w.heap.size w w' := by
  obtain ⟨A, c, rfl, h2, h3, h4⟩ := h.1
  have H := Lib.hid h
  cases A with
  | none =>
    have hl0 : l = [] := by
      refine List.eq_nil_of_length_eq_zero ?_
      refine Decidable.byContradiction fun hh => ?_
      obtain ⟨b, off, e, _⟩ := h4 (by omega)
      cases e
    subst hl0
    obtain rfl := h.2 _ _ rfl
    have hnil : ∀ W, (binOp .eql 25 (.slice none 0 0) (.slice none 0 0)).run Try.prog W = .ok (.bool true) W := fun W => Lib.run_eql_slice_nil_nil W _ _ Try.underlying25
    clear h h2 h3 h4 hl
    go_enter Try.func30, Try.ntmps30
    go_wp2_with fail
    go_ret
    exact ⟨_, rfl, World.ownsRow_nil _ _ _ _, Below.refl _ _⟩
  | some ad =>
    have hnil : ∀ W, (binOp .eql 25 (.slice (some ad) l.length c) (.slice none 0 0)).run Try.prog W = .ok (.bool false) W := fun W => Lib.run_eql_slice_some_nil W _ _ _ Try.underlying25
    have HL := Lib.hid hl
    obtain ⟨n, hn⟩ : ∃ n, n = l.length := ⟨_, rfl⟩
    have HN := Lib.hid hn.symm
    rw [← hn] at hnil ⊢
    have hSRC : ∀ W, LksB W (.slice (some ad) l.length c) l → ∀ j u, (lkC l)[j]? = some u → W.cell? (ad.add j) = some u := fun W hW => hW.src ad rfl
    have HSRC := Lib.hid hSRC
    clear h h2 h3 h4 hl hn hSRC
    go_enter Try.func30, Try.ntmps30
    go_wp2_with (at_builtin; refine wpList_append_lN rfl _ _ rfl w.heap.size (.slice (some ⟨w.heap.size, 0, none⟩) 0 0) rfl [] (own_emptyL w) ad n c l rfl HN.out (HSRC.out _ (H.out.1.below ((Below.refl _ _).alloc (Nat.le_refl _) _) (Nat.le_refl _))) (by have := HL.out; have := HN.out; simp; omega) (by simp) ?_)
    intro v' w' h1 h2
    rw [HN.out] at h1
    have hb : Below w.heap.size w w' := ((Below.refl _ _).alloc (Nat.le_refl _) _).grown h2 (by simp) (fun k hk => by cases hk; exact Nat.le_refl _)
    have H1 := Lib.hid h1
    clear h2 h1
    go_wp2_with fail
    go_ret
    exact ⟨_, rfl, H1.out, hb⟩
end Go.Proofs.Ytffnkgfpbjmkbaa
