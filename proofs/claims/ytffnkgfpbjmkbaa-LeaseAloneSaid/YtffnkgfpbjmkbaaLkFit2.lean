/- lease: Fit and Holds at any locks. -/
import Derived.Test.YtffnkgfpbjmkbaaLkFit
namespace Go.Proofs.Ytffnkgfpbjmkbaa
open Go.RowKit
set_option linter.unusedVariables false
set_option linter.unusedSimpArgs false
def FitP (now : Int) (l : List Lk) : Prop := 0 ≤ now ∧ now ≤ 274877906944 ∧ l.length ≤ 16 ∧ RisO l ∧ ∀ x ∈ l, badB now l.length x = false
theorem ris_of {l : List Lk} (h : ∀ i (h : i + 1 < l.length), l[i].o < l[i + 1].o) : RisO l := by
  refine List.pairwise_iff_getElem.2 fun i j hi hj hij => ?_
  have : ∀ d i (hi : i + d + 1 < l.length), l[i].o < l[i + d + 1].o := by
    intro d
    induction d with
    | zero => intro i hi; exact h i (by omega)
    | succ d ih =>
      intro i hi
      have h1 := ih i (by omega)
      have h2 := h (i + d + 1) (by omega)
      exact UInt64.lt_trans h1 h2
  obtain ⟨d, rfl⟩ : ∃ d, j = i + d + 1 := ⟨j - i - 1, by omega⟩
  exact this d i hj
theorem ris_at {l : List Lk} (h : RisO l) (i : Nat) (hi : i + 1 < l.length) : l[i].o < l[i + 1].o := List.pairwise_iff_getElem.1 h i (i + 1) (by omega) hi (by omega)
theorem two2w (w : World) (a b : Value) (t : TypeId) (c d : Value) (t2 : TypeId) :
    ((w.alloc (.cells #[a, b] t)).alloc (.cells #[c, d] t2)).cell? ⟨w.heap.size, 0, none⟩ = some a ∧ ((w.alloc (.cells #[a, b] t)).alloc (.cells #[c, d] t2)).cell? ⟨w.heap.size, 1, none⟩ = some b ∧
    ((w.alloc (.cells #[a, b] t)).alloc (.cells #[c, d] t2)).cell? ⟨w.heap.size + 1, 0, none⟩ = some c ∧ ((w.alloc (.cells #[a, b] t)).alloc (.cells #[c, d] t2)).cell? ⟨w.heap.size + 1, 1, none⟩ = some d := by
  have h2 : ((w.alloc (.cells #[a, b] t)).alloc (.cells #[c, d] t2)).heap[w.heap.size + 1]? = some (.cells #[c, d] t2) := by
    have := heap_alloc_new (w.alloc (.cells #[a, b] t)) (.cells #[c, d] t2)
    simpa using this
  have h1 : ((w.alloc (.cells #[a, b] t)).alloc (.cells #[c, d] t2)).heap[w.heap.size]? = some (.cells #[a, b] t) := by
    rw [heap_alloc_old _ _ (by simp)]
    exact heap_alloc_new _ _
  generalize (w.alloc (.cells #[a, b] t)).alloc (.cells #[c, d] t2) = W at *
  refine ⟨?_, ?_, ?_, ?_⟩
  · unfold World.cell?; simp [h1]
  · unfold World.cell?; simp [h1]
  · unfold World.cell?; simp [h2]
  · unfold World.cell?; simp [h2]
set_option maxRecDepth 20000 in
set_option maxHeartbeats 3000000 in
theorem fitL_any (now : Int) (v : Value) (l : List Lk) (w : World) (hv : LksB w v l) :
    Calls Try.prog 14 #[Lc now v] w fun e w' => ∃ b : Bool, e = .returned (.bool b) ∧ (b = true ↔ FitP now l) ∧ Below w.heap.size w w' := by
  have HV := Lib.hid hv
  obtain ⟨A, c, rfl, h2, h3, h4⟩ := hv
  have hc9 : c ≤ 9223372036854775807 := by unfold maxLen at h3; omega
  have HC := Lib.hid h4
  obtain ⟨n, hn⟩ : ∃ n, n = l.length := ⟨_, rfl⟩
  have HN := Lib.hid hn
  rw [← hn] at h2 HV ⊢
  clear hn h3 h4
  unfold Lc
  have HB2 : Hid (Below w.heap.size w ((w.alloc (.cells #[.int .i64 now, .slice A n c] 27)).alloc (.cells #[.int .i64 now, .slice A n c] 57))) := ((Below.refl _ _).alloc (Nat.le_refl _) _).alloc (by simp) _
  have HSZ : Hid (((w.alloc (.cells #[.int .i64 now, .slice A n c] 27)).alloc (.cells #[.int .i64 now, .slice A n c] 57)).heap.size = w.heap.size + 2) := by unfold Hid; simp
  have HX := Lib.hid (two2w w (.int .i64 now) (.slice A n c) 27 (.int .i64 now) (.slice A n c) 57)
  obtain ⟨X0, X1, K0, K1⟩ := HX.out
  by_cases q1 : now < 0
  · have d1 : decide (now < 0) = true := by simpa using q1
    have hf : ¬ FitP now l := fun h => by have := h.1; omega
    clear q1
    go_enter Try.func14, Try.ntmps14
    go_wp2_with fail
    go_ret
    exact ⟨_, rfl, ⟨(fun h => by cases h), fun h => absurd h hf⟩, HB2.out⟩
  have d1 : decide (now < 0) = false := by simpa using q1
  by_cases q2 : (274877906944 : Int) < now
  · have d2 : decide ((274877906944 : Int) < now) = true := by simpa using q2
    have hf : ¬ FitP now l := fun h => by have := h.2.1; omega
    clear q1 q2
    go_enter Try.func14, Try.ntmps14
    go_wp2_with fail
    go_ret
    exact ⟨_, rfl, ⟨(fun h => by cases h), fun h => absurd h hf⟩, HB2.out⟩
  have d2 : decide ((274877906944 : Int) < now) = false := by simpa using q2
  by_cases q3 : 16 < n
  · have d3 : decide ((16 : Int) < (n : Int)) = true := by simp; omega
    have hf : ¬ FitP now l := fun h => by have := h.2.2.1; have := HN.out; omega
    clear q1 q2 q3
    go_enter Try.func14, Try.ntmps14
    go_wp2_with fail
    go_ret
    exact ⟨_, rfl, ⟨(fun h => by cases h), fun h => absurd h hf⟩, HB2.out⟩
  have d3 : decide ((16 : Int) < (n : Int)) = false := by simp; omega
  have HQ : Hid (0 ≤ now ∧ now ≤ 274877906944 ∧ n ≤ 16) := ⟨by omega, by omega, by omega⟩
  have HCB := Lib.hid (fun w1 (h : LksB w1 (.slice A n c) l) (k0 : w1.cell? ⟨w.heap.size + 1, 0, none⟩ = some (.int .i64 now)) (k1 : w1.cell? ⟨w.heap.size + 1, 1, none⟩ = some (.slice A n c)) (hk : w.heap.size + 1 < w1.heap.size) => conB_any (w.heap.size + 1) (.slice A n c) l (badB now n) w1 h (by have := HN.out; omega) (fun x _ w2 b2 => bad_any (w.heap.size + 1) x now A n c w2 (by have := HQ.out; omega) (by have := HQ.out; omega) ((b2.cell (p := ⟨w.heap.size + 1, 0, none⟩) hk).trans k0) ((b2.cell (p := ⟨w.heap.size + 1, 1, none⟩) hk).trans k1) (Nat.lt_of_lt_of_le hk b2.size)))
  clear q1 q2 q3
  go_enter Try.func14, Try.ntmps14
  go_wp2_with fail
  clear X0 X1 K0 K1
  go_loopw [4] (fun a wr => ∃ i : Nat, 1 ≤ i ∧ Hid (i ≤ n ∨ i = 1) ∧ a = .int .i64 i ∧ Hid (∀ j (h : j + 1 < l.length), j + 1 < i → l[j].o < l[j + 1].o) ∧ Hid (Below ((w.alloc (.cells #[.int .i64 now, .slice A n c] 27)).alloc (.cells #[.int .i64 now, .slice A n c] 57)).heap.size ((w.alloc (.cells #[.int .i64 now, .slice A n c] 27)).alloc (.cells #[.int .i64 now, .slice A n c] 57)) wr)) (fun a _ => n - (intOf a).toNat)
  case atStart => exact ⟨1, Nat.le_refl _, Or.inr rfl, rfl, (fun j _ h => absurd h (by omega)), Below.refl _ _⟩
  case round =>
    obtain ⟨i, hi1, hin, rfl, HK, HBr⟩ := hrel
    have hx1 : w.heap.size < ((w.alloc (.cells #[.int .i64 now, .slice A n c] 27)).alloc (.cells #[.int .i64 now, .slice A n c] 57)).heap.size := by rw [HSZ.out]; omega
    have hx2 : w.heap.size + 1 < ((w.alloc (.cells #[.int .i64 now, .slice A n c] 27)).alloc (.cells #[.int .i64 now, .slice A n c] 57)).heap.size := by rw [HSZ.out]; omega
    obtain ⟨X0, X1, K0, K1⟩ := HX.out
    have x0 := (HBr.out.cell (p := ⟨w.heap.size, 0, none⟩) hx1).trans X0
    have x1 := (HBr.out.cell (p := ⟨w.heap.size, 1, none⟩) hx1).trans X1
    have k0 := (HBr.out.cell (p := ⟨w.heap.size + 1, 0, none⟩) hx2).trans K0
    have k1 := (HBr.out.cell (p := ⟨w.heap.size + 1, 1, none⟩) hx2).trans K1
    have hkr : w.heap.size + 1 < wr.heap.size := Nat.lt_of_lt_of_le hx2 HBr.out.size
    clear X0 X1 K0 K1 hx1 hx2
    have HBW : Hid (Below w.heap.size w wr) := HB2.out.trans (HBr.out.mono HB2.out.size)
    by_cases hlt : i < n
    · have hlt' : (i : Int) < (n : Int) := by omega
      obtain ⟨j, hj⟩ : ∃ j, i = j + 1 := ⟨i - 1, by omega⟩
      have HJ := Lib.hid hj
      have hjn : (j : Int) < (n : Int) := by omega
      have hj1 : (i : Int) - 1 = (j : Int) := by omega
      have hj0 : (0 : Int) ≤ (j : Int) := by omega
      have hi0 : (0 : Int) ≤ (i : Int) := by omega
      have hnn := HN.out
      obtain ⟨b, off, rfl, hblt, hcells⟩ := HC.out (by omega)
      have hml : j < l.length := by omega
      have hml2 : i < l.length := by omega
      have y1 := (HBW.out.cell (p := ⟨b, off + j * 3, none⟩) hblt).trans (hcells j hml).1
      have y2 := (HBW.out.cell (p := ⟨b, off + i * 3, none⟩) hblt).trans (hcells i hml2).1
      have HK2 : Hid (l[j].o < l[i].o → ∀ t (h : t + 1 < l.length), t + 1 < i + 1 → l[t].o < l[t + 1].o) := by
        intro hq t h1 h2
        by_cases e : t = j
        · subst e; subst hj; exact hq
        · exact HK.out t h1 (by omega)
      have HNF : Hid (¬ l[j].o < l[i].o → ¬ FitP now l) := fun hq hf => by
        subst hj
        exact hq (ris_at hf.2.2.2.1 j hml2)
      generalize hxe : l[j].o = x at *
      generalize hye : l[i].o = y at *
      clear hcells hnn hxe hye HK hj
      by_cases hq : x < y
      · have hq' : x.toNat < y.toNat := hq
        have dq : decide ((y.toNat : Int) ≤ (x.toNat : Int)) = false := by simp; omega
        have dq' : decide (y.toNat ≤ x.toNat) = false := by simp; omega
        have HK3 := Lib.hid (HK2.out hq)
        clear hq hq'
        go_wp2_with fail
        go_quiet (fail)
        go_wp2_with fail
        go_roundw
        case rel => exact ⟨i + 1, by omega, Or.inl (by omega), by go_num, HK3, Below.drewN HBr.out _⟩
        case measure => simp [intOf]; omega
      · have hq' : ¬ x.toNat < y.toNat := hq
        have dq : decide ((y.toNat : Int) ≤ (x.toNat : Int)) = true := by simp; omega
        have dq' : decide (y.toNat ≤ x.toNat) = true := by simp; omega
        have hf := HNF.out hq
        clear hq hq'
        go_wp2_with fail
        go_quiet (fail)
        go_wp2_with fail
        go_ret
        exact ⟨_, rfl, ⟨(fun h => by cases h), fun h => absurd h hf⟩, Below.drewN HBW.out _⟩
    · have hRis : Hid (RisO l) := ris_of fun j h => HK.out j h (by have := HN.out; omega)
      have hlt' : ¬ (i : Int) < (n : Int) := by omega
      go_wp2_with fail
      refine (HCB.out _ (HV.out.below HBW.out (Nat.le_refl _)) k0 k1 hkr).mono ?_
      rintro e w3 ⟨rfl, b3⟩
      have HB3 := Lib.hid (HBW.out.trans (b3.mono HBW.out.size))
      have HIF : Hid ((!(l.any (badB now n))) = true ↔ FitP now l) := by
        have h1 := HQ.out
        have h2 := HN.out
        have h3 := hRis.out
        unfold Hid FitP
        rw [← h2]
        constructor
        · intro h
          refine ⟨h1.1, h1.2.1, h1.2.2, h3, fun x hx => ?_⟩
          cases hb : badB now n x with
          | false => rfl
          | true =>
            have : l.any (badB now n) = true := List.any_eq_true.2 ⟨x, hx, hb⟩
            rw [this] at h; cases h
        · rintro ⟨_, _, _, _, h⟩
          cases ha : l.any (badB now n) with
          | false => rfl
          | true =>
            obtain ⟨x, hx, hb⟩ := List.any_eq_true.1 ha
            rw [h x hx] at hb; cases hb
      generalize l.any (badB now n) = r at *
      clear x0 x1 k0 k1 b3
      go_wp2_with fail
      go_ret
      exact ⟨_, rfl, HIF.out, HB3.out⟩
set_option maxRecDepth 20000 in
set_option maxHeartbeats 2000000 in
theorem holdsL_any (now : Int) (v : Value) (l : List Lk) (owner : UInt64) (w : World) (hv : LksB w v l) (hr : RisO l) (hl : l.length ≤ 1000000000) :
    Calls Try.prog 9 #[Lc now v, .int .u64 owner.toNat] w fun e w' => e = .returned (.tuple #[.bool (hasO l owner), .bool (hasO l owner && !(l[placeO l owner]?.map Lk.s).getD false)]) ∧ Below w.heap.size w w' := by
  have HAT := Lib.hid (fun p w' (b : Below w.heap.size w w') => atL_any p v l owner w' (hv.below b (Nat.le_refl _)) hr hl)
  have hq : hasO l owner = true → placeO l owner < l.length := by
    intro h
    unfold hasO at h
    cases hx : l[placeO l owner]? with
    | none => rw [hx] at h; cases h
    | some x => exact (List.getElem?_eq_some_iff.1 hx).1
  obtain ⟨A, c, rfl, h2, h3, h4⟩ := hv
  have hc9 : c ≤ 9223372036854775807 := by unfold maxLen at h3; omega
  have HC := Lib.hid h4
  unfold Lc
  have HB2 : Hid (Below w.heap.size w ((w.alloc (.cells #[.int .i64 now, .slice A l.length c] 27)).alloc (.cells #[.int .i64 now, .slice A l.length c] 57))) := ((Below.refl _ _).alloc (Nat.le_refl _) _).alloc (by simp) _
  have H2 := two2w w (.int .i64 now) (.slice A l.length c) 27 (.int .i64 now) (.slice A l.length c) 57
  cases hh : hasO l owner with
  | false =>
    rw [hh] at HAT
    rw [Bool.false_and]
    generalize placeO l owner = i at *
    obtain ⟨n, hn⟩ : ∃ n, n = l.length := ⟨_, rfl⟩
    rw [← hn] at HAT HB2 H2
    rw [← hn]
    clear hn h2 h3 h4 hl HC hq
    go_enter Try.func9, Try.ntmps9
    go_wp2_with fail
    refine Calls.mono (HAT.out _ _ HB2.out H2.2.2.2) ?_
    rintro e w1 ⟨rfl, b1⟩
    have HB1 : Hid (Below w.heap.size w w1) := HB2.out.trans (b1.mono HB2.out.size)
    clear b1 H2 HB2 HAT
    go_wp2_with fail
    go_quiet (fail)
    go_wp2_with fail
    go_ret2
    exact ⟨rfl, Below.drewN HB1.out _⟩
  | true =>
    have hpl := hq hh
    rw [hh] at HAT
    rw [Bool.true_and, List.getElem?_eq_getElem hpl]
    obtain ⟨b, off, rfl, hblt, hcells⟩ := h4 (by omega)
    obtain ⟨x1, x2, x3⟩ := hcells _ hpl
    simp only [Option.map_some, Option.getD_some]
    generalize hxs : (l[placeO l owner]'hpl).s = s at *
    have hpn : (placeO l owner : Int) < (l.length : Int) := by omega
    generalize placeO l owner = i at *
    obtain ⟨n, hn⟩ : ∃ n, n = l.length := ⟨_, rfl⟩
    rw [← hn] at HAT HB2 H2 hpn h2
    rw [← hn]
    clear hn h3 h4 hl HC hq hxs hcells x1 x3 hpl
    go_enter Try.func9, Try.ntmps9
    go_wp2_with fail
    refine Calls.mono (HAT.out _ _ HB2.out H2.2.2.2) ?_
    rintro e w1 ⟨rfl, b1⟩
    have HB1 : Hid (Below w.heap.size w w1) := HB2.out.trans (b1.mono HB2.out.size)
    have X1 := (b1.cell (p := ⟨w.heap.size, 1, none⟩) (by simp; omega)).trans H2.2.1
    have h5' := (HB1.out.cell (p := ⟨b, off + i * 3 + 1, none⟩) hblt).trans x2
    have hi0 : (0 : Int) ≤ (i : Int) := by omega
    clear b1 H2 HB2 HAT x2
    go_wp2_with fail
    go_quiet (fail)
    go_wp2_with fail
    go_ret2
    exact ⟨rfl, Below.drewN HB1.out _⟩
end Go.Proofs.Ytffnkgfpbjmkbaa
