/- siloref46: ticking, place, Holds, Same, Owners at any locks. -/
import Derived.Test.YtffnkgfpbjmkbaaLkPass
namespace Go.Proofs.Ytffnkgfpbjmkbaa
open Go.RowKit
set_option linter.unusedVariables false
set_option linter.unusedSimpArgs false
set_option maxRecDepth 20000 in
set_option maxHeartbeats 1000000 in
theorem rtick_any (n : Int) (w : World) : Calls Try.prog 37 #[.int .i64 n] w fun e w' => e = .returned (.bool (tickB n)) ∧ w = w' := by
  unfold tickB
  by_cases h1 : 0 < n
  · have d1 : decide (1 ≤ n) = true := by simp; omega
    by_cases h2 : n ≤ 1000
    · have d2 : decide (n ≤ 1000) = true := by simpa using h2
      rw [show decide (0 < n ∧ n ≤ 1000) = true by simp; omega]
      go_enter Try.func37, Try.ntmps37
      go_wp2
      go_ret
      exact ⟨rfl, rfl⟩
    · have d2 : decide (n ≤ 1000) = false := by simpa using h2
      rw [show decide (0 < n ∧ n ≤ 1000) = false by simp; omega]
      go_enter Try.func37, Try.ntmps37
      go_wp2
      go_ret
      exact ⟨rfl, rfl⟩
  · have d1 : decide (1 ≤ n) = false := by simp; omega
    rw [show decide (0 < n ∧ n ≤ 1000) = false by simp; omega]
    go_enter Try.func37, Try.ntmps37
    go_wp2
    go_ret
    exact ⟨rfl, rfl⟩
theorem place_of {l : List Lk} {k : UInt64} (hr : RisO l) (j : Nat) (h : j < l.length) (e : l[j].o = k) : placeO l k = j ∧ hasO l k = true := by
  have hp : placeO l k = j := by
    have h1 : ¬ j < placeO l k := fun hh => by
      have := (placeO_lt l k hr j h).2 hh
      rw [e] at this; exact absurd this (UInt64.lt_irrefl k)
    refine Nat.le_antisymm (by omega) (Nat.le_of_not_lt fun hh => ?_)
    have hpl : placeO l k < l.length := by omega
    have h2 : ¬ l[placeO l k].o < k := fun h3 => by
      have := (placeO_lt l k hr _ hpl).1 h3
      exact absurd this (Nat.lt_irrefl _)
    have h3 := List.pairwise_iff_getElem.1 hr (placeO l k) j hpl h hh
    rw [e] at h3
    exact h2 h3
  refine ⟨hp, ?_⟩
  unfold hasO
  rw [hp, List.getElem?_eq_getElem h]
  simpa using e
theorem hasO_at {l : List Lk} {k : UInt64} (hh : hasO l k = true) : (l[placeO l k]'(hasO_lt hh)).o = k := by
  have hlt := hasO_lt hh
  unfold hasO at hh
  rw [List.getElem?_eq_getElem hlt] at hh
  simpa using hh
theorem hasO_no {l : List Lk} {k : UInt64} (h : ∀ j (h : j < l.length), l[j].o ≠ k) : hasO l k = false := by
  cases hh : hasO l k with
  | false => rfl
  | true => exact absurd (hasO_at hh) (h _ _)
def plI (l : List Lk) (k : UInt64) : Int := if hasO l k = true then (placeO l k : Nat) else -1
set_option maxRecDepth 20000 in
set_option maxHeartbeats 2000000 in
theorem rplace_any (now : Int) (v : Value) (l : List Lk) (k : UInt64) (w : World) (hv : LksB w v l) (hr : RisO l) (hl : l.length ≤ 1000000) :
    Calls Try.prog 38 #[Lc now v, .int .u64 k.toNat] w fun e w' => e = .returned (.int .i64 (plI l k)) ∧ Below w.heap.size w w' := by
  have HR := Lib.hid hr
  obtain ⟨A, c, rfl, h2, h3, h4⟩ := hv
  have hc9 : c ≤ 9223372036854775807 := by unfold maxLen at h3; omega
  have HC := Lib.hid h4
  obtain ⟨n, hn⟩ : ∃ n, n = l.length := ⟨_, rfl⟩
  have HN := Lib.hid hn
  rw [← hn] at h2 hl
  unfold Lc
  rw [← hn]
  obtain ⟨z, hz⟩ : ∃ z, z = plI l k := ⟨_, rfl⟩
  have HZ := Lib.hid hz
  rw [← hz]
  clear hn h3 h4 hr hz
  have HB1 : Hid (Below w.heap.size w (w.alloc (.cells #[.int .i64 now, .slice A n c] 27))) := (Below.refl _ _).alloc (Nat.le_refl _) _
  have hX1 : (w.alloc (.cells #[.int .i64 now, .slice A n c] 27)).cell? ⟨w.heap.size, 1, none⟩ = some (.slice A n c) := by simp
  have HX1 := Lib.hid hX1
  have HSZ : Hid (w.heap.size < (w.alloc (.cells #[.int .i64 now, .slice A n c] 27)).heap.size) := by unfold Hid; simp
  clear hX1
  go_enter Try.func38, Try.ntmps38
  go_wp2_with fail
  go_loopw [5] (fun a wr => ∃ j : Nat, j ≤ n ∧ a = .int .i64 j ∧ Hid (∀ t (h : t < l.length), t < j → l[t].o ≠ k) ∧ Hid (Below (w.alloc (.cells #[.int .i64 now, .slice A n c] 27)).heap.size (w.alloc (.cells #[.int .i64 now, .slice A n c] 27)) wr)) (fun a _ => n - (intOf a).toNat)
  case atStart => exact ⟨0, Nat.zero_le _, rfl, (fun t _ h => absurd h (by omega)), Below.refl _ _⟩
  case round =>
    obtain ⟨j, hj, rfl, HK, HBr⟩ := hrel
    have x1 := (HBr.out.cell (p := ⟨w.heap.size, 1, none⟩) HSZ.out).trans HX1.out
    have HBW : Hid (Below w.heap.size w wr) := HB1.out.trans (HBr.out.mono HB1.out.size)
    by_cases hlt : j < n
    · have hlt' : (j : Int) < (n : Int) := by omega
      have hnn := HN.out
      have hjl : j < l.length := by omega
      obtain ⟨b, off, rfl, hblt, hcells⟩ := HC.out (by omega)
      have y1 := (HBW.out.cell (p := ⟨b, off + j * 3, none⟩) hblt).trans (hcells j hjl).1
      have hj0 : (0 : Int) ≤ (j : Int) := by omega
      have HPO := Lib.hid (place_of (k := k) HR.out j hjl)
      have HK2 : Hid (l[j].o ≠ k → ∀ t (h : t < l.length), t < j + 1 → l[t].o ≠ k) := by
        intro hne t h h'
        by_cases e : t = j
        · subst e; exact hne
        · exact HK.out t h (by omega)
      generalize l[j].o = x at *
      clear hcells hnn HK
      by_cases hq : x = k
      · have hz : z = (j : Int) := by
          obtain ⟨p1, p2⟩ := HPO.out hq
          rw [HZ.out]; unfold plI; rw [p2, p1, if_pos rfl]
        have he : ((x.toNat : Int) == (k.toNat : Int)) = true := by rw [hq]; simp
        have he2 : (x.toNat == k.toNat) = true := by rw [hq]; simp
        subst hz
        clear hq
        go_wp2_with fail
        go_ret
        exact ⟨rfl, HBW.out⟩
      · have he0 : x.toNat ≠ k.toNat := fun e => hq (UInt64.toNat_inj.1 e)
        have he : ((x.toNat : Int) == (k.toNat : Int)) = false := by rw [beq_eq_false_iff_ne]; omega
        have he2 : (x.toNat == k.toNat) = false := by rw [beq_eq_false_iff_ne]; exact he0
        have HK3 := Lib.hid (HK2.out hq)
        clear hq he0
        go_wp2_with fail
        go_roundw
        case rel => exact ⟨j + 1, by omega, by go_num, HK3, HBr⟩
        case measure => simp [intOf]; omega
    · obtain rfl : j = n := by omega
      have hz : z = -1 := by
        rw [HZ.out]; unfold plI
        rw [hasO_no (fun t h => HK.out t h (by have := HN.out; omega))]
        rfl
      subst hz
      go_wp2_with fail
      go_ret
      exact ⟨rfl, HBW.out⟩
set_option maxRecDepth 20000 in
set_option maxHeartbeats 2000000 in
theorem rholds_any (now : Int) (v : Value) (l : List Lk) (k : UInt64) (w : World) (hv : LksB w v l) (hr : RisO l) (hl : l.length ≤ 1000000) :
    Calls Try.prog 23 #[Lc now v, .int .u64 k.toNat] w fun e w' => e = .returned (.tuple #[.bool (hasO l k), .bool (hasO l k && !(l[placeO l k]?.map Lk.s).getD false)]) ∧ Below w.heap.size w w' := by
  have HP := Lib.hid (fun w' (b : Below w.heap.size w w') => rplace_any now v l k w' (hv.below b (Nat.le_refl _)) hr hl)
  have HLT := Lib.hid (@hasO_lt l k)
  obtain ⟨A, c, rfl, h2, h3, h4⟩ := hv
  have hc9 : c ≤ 9223372036854775807 := by unfold maxLen at h3; omega
  unfold Lc at HP ⊢
  have HB1 : Hid (Below w.heap.size w (w.alloc (.cells #[.int .i64 now, .slice A l.length c] 27))) := (Below.refl _ _).alloc (Nat.le_refl _) _
  have hX1 : (w.alloc (.cells #[.int .i64 now, .slice A l.length c] 27)).cell? ⟨w.heap.size, 1, none⟩ = some (.slice A l.length c) := by simp
  have hsz : w.heap.size < (w.alloc (.cells #[.int .i64 now, .slice A l.length c] 27)).heap.size := by simp
  unfold plI at HP
  cases hh : hasO l k with
  | false =>
    rw [hh, if_neg (by decide)] at HP
    rw [Bool.false_and]
    obtain ⟨n, hn⟩ : ∃ n, n = l.length := ⟨_, rfl⟩
    rw [← hn] at HP HB1
    rw [← hn]
    clear hn h2 h3 h4 hl hh HLT hX1 hsz
    go_enter Try.func23, Try.ntmps23
    go_wp2_with fail
    refine (HP.out _ HB1.out).mono ?_
    rintro e w1 ⟨rfl, b1⟩
    have HB2 := Lib.hid (HB1.out.trans (b1.mono HB1.out.size))
    clear b1
    go_wp2_with fail
    go_ret2
    exact ⟨rfl, HB2.out⟩
  | true =>
    have hpl := HLT.out hh
    rw [hh, if_pos rfl] at HP
    rw [Bool.true_and, List.getElem?_eq_getElem hpl]
    obtain ⟨b, off, rfl, hblt, hcells⟩ := h4 (by omega)
    have x2 := (hcells _ hpl).2.1
    simp only [Option.map_some, Option.getD_some]
    generalize hxs : (l[placeO l k]'hpl).s = s at *
    have hpn : (placeO l k : Int) < (l.length : Int) := by omega
    generalize placeO l k = i at *
    obtain ⟨n, hn⟩ : ∃ n, n = l.length := ⟨_, rfl⟩
    rw [← hn] at HP HB1 hpn h2 hX1 hsz
    rw [← hn]
    clear hn h3 h4 hl hxs hcells hpl hh HLT
    have hi0 : (0 : Int) ≤ (i : Int) := by omega
    go_enter Try.func23, Try.ntmps23
    go_wp2_with fail
    refine (HP.out _ HB1.out).mono ?_
    rintro e w1 ⟨rfl, b1⟩
    have HB2 := Lib.hid (HB1.out.trans (b1.mono HB1.out.size))
    have X1 := (b1.cell (p := ⟨w.heap.size, 1, none⟩) hsz).trans hX1
    have h5' := (HB2.out.cell (p := ⟨b, off + i * 3 + 1, none⟩) hblt).trans x2
    clear b1 hX1 hsz x2
    go_wp2_with fail
    go_quiet (fail)
    go_wp2_with fail
    go_ret2
    exact ⟨rfl, Below.drewN HB2.out _⟩
set_option maxRecDepth 20000 in
set_option maxHeartbeats 2000000 in
theorem rowners_any (va vb : Value) (l : List UInt64) (w : World) (ha : UsB w va l) (hb : UsB w vb l) :
    Calls Try.prog 24 #[va, vb] w fun e w' => e = .returned (.bool true) ∧ Below w.heap.size w w' := by
  obtain ⟨A, ca, rfl, a2, a3, a4⟩ := ha
  obtain ⟨A2, cb, rfl, b2, b3, b4⟩ := hb
  have hc9 : ca ≤ 9223372036854775807 := by unfold maxLen at a3; omega
  have hc8 : cb ≤ 9223372036854775807 := by unfold maxLen at b3; omega
  have HA := Lib.hid a4
  have HB := Lib.hid b4
  obtain ⟨n, hn⟩ : ∃ n, n = l.length := ⟨_, rfl⟩
  have HN := Lib.hid hn
  rw [← hn] at a2 b2
  rw [← hn]
  clear hn a3 a4 b3 b4
  have hne : ((n : Int) != (n : Int)) = false := by simp
  go_enter Try.func24, Try.ntmps24
  go_wp2_with fail
  clear hne
  go_loopw [5] (fun a wr => ∃ j : Nat, j ≤ n ∧ a = .int .i64 j ∧ Hid (Below w.heap.size w wr)) (fun a _ => n - (intOf a).toNat)
  case atStart => exact ⟨0, Nat.zero_le _, rfl, Below.refl _ _⟩
  case round =>
    obtain ⟨j, hj, rfl, HBr⟩ := hrel
    by_cases hlt : j < n
    · have hlt' : (j : Int) < (n : Int) := by omega
      have hnn := HN.out
      have hjl : j < l.length := by omega
      obtain ⟨b, off, rfl, hblt, hcells⟩ := HA.out (by omega)
      obtain ⟨b', off', rfl, hblt', hcells'⟩ := HB.out (by omega)
      have y1 := (HBr.out.cell (p := ⟨b, off + j, none⟩) hblt).trans (hcells j hjl)
      have y2 := (HBr.out.cell (p := ⟨b', off' + j, none⟩) hblt').trans (hcells' j hjl)
      have hj0 : (0 : Int) ≤ (j : Int) := by omega
      generalize l[j] = x at *
      have hx : ((x.toNat : Int) != (x.toNat : Int)) = false := by simp
      have hx2 : (x.toNat != x.toNat) = false := by simp
      clear hcells hcells' hnn
      go_wp2_with fail
      go_quiet (fail)
      go_wp2_with fail
      go_roundw
      case rel => exact ⟨j + 1, by omega, by go_num, Below.drewN HBr.out _⟩
      case measure => simp [intOf]; omega
    · obtain rfl : j = n := by omega
      go_wp2_with fail
      go_ret
      exact ⟨rfl, HBr.out⟩
set_option maxRecDepth 20000 in
set_option maxHeartbeats 3000000 in
theorem rsame_any (na nb : Int) (va vb : Value) (la lb : List Lk) (w : World) (ha : LksB w va la) (hb : LksB w vb lb) :
    Calls Try.prog 12 #[Lc na va, Lc nb vb] w fun e w' => e = .returned (.bool (sameL na la nb lb)) ∧ Below w.heap.size w w' := by
  obtain ⟨A, ca, rfl, a2, h3, h4⟩ := ha
  obtain ⟨A2, cb, rfl, b2, g3, g4⟩ := hb
  have hc9 : ca ≤ 9223372036854775807 := by unfold maxLen at h3; omega
  have hc8 : cb ≤ 9223372036854775807 := by unfold maxLen at g3; omega
  have HA := Lib.hid h4
  have HB := Lib.hid g4
  unfold sameL Lc
  obtain ⟨n, hn⟩ : ∃ n, n = la.length := ⟨_, rfl⟩
  obtain ⟨m, hm⟩ : ∃ m, m = lb.length := ⟨_, rfl⟩
  have HN := Lib.hid hn
  have HM := Lib.hid hm
  obtain ⟨r, hr⟩ : ∃ r, r = lksEq la lb := ⟨_, rfl⟩
  have HR := Lib.hid hr
  rw [← hr]
  rw [← hn] at a2
  rw [← hm] at b2
  rw [← hn, ← hm]
  have HB2 : Hid (Below w.heap.size w ((w.alloc (.cells #[.int .i64 na, .slice A n ca] 27)).alloc (.cells #[.int .i64 nb, .slice A2 m cb] 27))) := ((Below.refl _ _).alloc (Nat.le_refl _) _).alloc (by simp) _
  have HX := Lib.hid (two2w w (.int .i64 na) (.slice A n ca) 27 (.int .i64 nb) (.slice A2 m cb) 27)
  have HSZ : Hid (((w.alloc (.cells #[.int .i64 na, .slice A n ca] 27)).alloc (.cells #[.int .i64 nb, .slice A2 m cb] 27)).heap.size = w.heap.size + 2) := by unfold Hid; simp
  by_cases hq : na = nb
  · subst hq
    rw [show decide (na = na) = true by simp, Bool.true_and]
    by_cases hnm : n = m
    · clear hn hm h3 h4 g3 g4 hr
      have hne : ((n : Int) != (m : Int)) = false := by simp; omega
      have HNM := Lib.hid hnm
      clear hnm
      have hne2 : ((na : Int) != na) = false := by simp
      go_enter Try.func12, Try.ntmps12
      go_wp2_with fail
      clear hne hne2
      go_loopw [5] (fun a wr => ∃ i : Nat, i ≤ n ∧ a = .int .i64 i ∧ Hid (∀ j (h1 : j < la.length) (h2 : j < lb.length), j < i → lkEq la[j] lb[j] = true) ∧ Hid (Below ((w.alloc (.cells #[.int .i64 na, .slice A n ca] 27)).alloc (.cells #[.int .i64 na, .slice A2 m cb] 27)).heap.size ((w.alloc (.cells #[.int .i64 na, .slice A n ca] 27)).alloc (.cells #[.int .i64 na, .slice A2 m cb] 27)) wr)) (fun a _ => n - (intOf a).toNat)
      case atStart => exact ⟨0, Nat.zero_le _, rfl, (fun j _ _ h => absurd h (by omega)), Below.refl _ _⟩
      case round =>
        obtain ⟨i, hi, rfl, HK, HBr⟩ := hrel
        have hx1 : w.heap.size < ((w.alloc (.cells #[.int .i64 na, .slice A n ca] 27)).alloc (.cells #[.int .i64 na, .slice A2 m cb] 27)).heap.size := by rw [HSZ.out]; omega
        have hx2 : w.heap.size + 1 < ((w.alloc (.cells #[.int .i64 na, .slice A n ca] 27)).alloc (.cells #[.int .i64 na, .slice A2 m cb] 27)).heap.size := by rw [HSZ.out]; omega
        obtain ⟨_, X1, _, K1⟩ := HX.out
        have w1 := (HBr.out.cell (p := ⟨w.heap.size, 1, none⟩) hx1).trans X1
        have w2 := (HBr.out.cell (p := ⟨w.heap.size + 1, 1, none⟩) hx2).trans K1
        clear X1 K1 hx1 hx2
        have HBW : Hid (Below w.heap.size w wr) := HB2.out.trans (HBr.out.mono HB2.out.size)
        by_cases hlt : i < n
        · have hlt' : (i : Int) < (n : Int) := by omega
          have hlm' : (i : Int) < (m : Int) := by have := HNM.out; omega
          have hnn := HN.out
          have hmm := HM.out
          obtain ⟨b, off, rfl, hblt, hcells⟩ := HA.out (by omega)
          obtain ⟨b2, off2, rfl, hblt2, hcells2⟩ := HB.out (by have := HNM.out; omega)
          have hml : i < la.length := by omega
          have hml2 : i < lb.length := by have := HNM.out; omega
          obtain ⟨x1, x2, x3⟩ := hcells i hml
          obtain ⟨z1, z2, z3⟩ := hcells2 i hml2
          have y1 := (HBW.out.cell (p := ⟨b, off + i * 3, none⟩) hblt).trans x1
          have y2 := (HBW.out.cell (p := ⟨b, off + i * 3 + 1, none⟩) hblt).trans x2
          have y3 := (HBW.out.cell (p := ⟨b, off + i * 3 + 2, none⟩) hblt).trans x3
          have v1 := (HBW.out.cell (p := ⟨b2, off2 + i * 3, none⟩) hblt2).trans z1
          have v2 := (HBW.out.cell (p := ⟨b2, off2 + i * 3 + 1, none⟩) hblt2).trans z2
          have v3 := (HBW.out.cell (p := ⟨b2, off2 + i * 3 + 2, none⟩) hblt2).trans z3
          have HNE := Lib.hid (fun hq => lksEq_ne i hml hml2 hq)
          have HK2 : Hid (lkEq la[i] lb[i] = true → ∀ j (h1 : j < la.length) (h2 : j < lb.length), j < i + 1 → lkEq la[j] lb[j] = true) := by
            intro hq j h1 h2 hj
            by_cases e : j = i
            · subst e; exact hq
            · exact HK.out j h1 h2 (by omega)
          generalize la[i] = x at *
          generalize lb[i] = y at *
          have hm0 : (0 : Int) ≤ (i : Int) := by omega
          have hng := fun W => lk_neq x y W
          have hgd := fun op p q W => lk_guard op p q x y W
          clear x1 x2 x3 z1 z2 z3 hcells hcells2 hnn hmm HK
          cases hq : lkEq x y with
          | true =>
            rw [hq] at hng
            have HK3 := Lib.hid (HK2.out hq)
            clear hq
            go_wp2_with fail
            go_quiet (fail)
            go_wp2_with fail
            go_roundw
            case rel => exact ⟨i + 1, by omega, by go_num, HK3, Below.drewN HBr.out _⟩
            case measure => simp [intOf]; omega
          | false =>
            rw [hq] at hng
            have hrf : r = false := by rw [HR.out]; exact HNE.out hq
            subst hrf
            clear hq
            go_wp2_with fail
            go_quiet (fail)
            go_wp2_with fail
            go_ret
            exact ⟨rfl, Below.drewN HBW.out _⟩
        · obtain rfl : i = n := by omega
          have hrt : r = true := by
            rw [HR.out]
            have h1 := HN.out
            have h2 := HM.out
            have h3 := HNM.out
            exact lksEq_get (by omega) (fun j h1 h2 => HK.out j h1 h2 (by omega))
          subst hrt
          go_wp2_with fail
          go_ret
          exact ⟨rfl, HBW.out⟩
    · have hrf : r = false := by
        rw [hr]; unfold lksEq
        rw [show decide (la.length = lb.length) = false by simp; omega]; rfl
      subst hrf
      clear hn hm h3 h4 g3 g4 hr
      have hne : ((n : Int) != (m : Int)) = true := by simp; omega
      have hne2 : ((na : Int) != na) = false := by simp
      go_enter Try.func12, Try.ntmps12
      go_wp2_with fail
      go_ret
      exact ⟨rfl, HB2.out⟩
  · have he : ((na : Int) != nb) = true := by simpa using hq
    rw [show decide (na = nb) = false by simpa using hq, Bool.false_and]
    clear hn hm h3 h4 g3 g4 hr
    go_enter Try.func12, Try.ntmps12
    go_wp2_with fail
    go_ret
    exact ⟨rfl, HB2.out⟩
end Go.Proofs.Ytffnkgfpbjmkbaa
