/- Walks: chapter 33's reader: part. -/
import Derived.Test.YtlkpgefapcfdbaaDeltaM2
namespace Go.Proofs.Ytlkpgefapcfdbaa
open Go.RowKit
set_option linter.unusedVariables false
set_option linter.unusedSimpArgs false
/-- a part, as the program's struct -/
def partA : Part → Value
  | .lit b => .agg #[.bool false, .int .u64 (b.length : Nat), .int .u64 0, .string ⟨b.toArray⟩]
  | .cop n k => .agg #[.bool true, .int .u64 (n : Nat), .int .u64 (k : Nat), .string ⟨#[]⟩]
theorem and1u64 (a : Nat) (ha : a < 18446744073709551616) : bits .and .u64 (a : Int) (1 : Int) = ((a % 2 : Nat) : Int) := by
  rw [u64_and _ _ (by omega) (by omega) (by omega) (by omega)]
  show ((a &&& 1 : Nat) : Int) = _
  rw [Nat.and_one_is_mod]
theorem cells4 {w : World} {n : Nat} {a b c d : Value} {T : TypeId} (h : w.heap[n]? = some (.cells #[a, b, c, d] T (0, 0))) :
    w.cell? ⟨n, 0, none⟩ = some a ∧ w.cell? ⟨n, 1, none⟩ = some b ∧ w.cell? ⟨n, 2, none⟩ = some c ∧ w.cell? ⟨n, 3, none⟩ = some d ∧
    w.frozen? ⟨n, 0, none⟩ = false ∧ w.frozen? ⟨n, 1, none⟩ = false ∧ w.frozen? ⟨n, 2, none⟩ = false ∧ w.frozen? ⟨n, 3, none⟩ = false := by
  refine ⟨?_, ?_, ?_, ?_, Lib.frozen_of_heap h 0, Lib.frozen_of_heap h 1, Lib.frozen_of_heap h 2, Lib.frozen_of_heap h 3⟩ <;> (rw [Lib.cell_of_heap h]; rfl)
theorem gr4 {w : World} {b n : Nat} (x y z u : Value) (h : w.heap.size ≤ n) {w' : World} (hg : w.grownBy w' (some b)) : w.grownBy ((((w'.setCell ⟨n, 0, none⟩ x).setCell ⟨n, 1, none⟩ y).setCell ⟨n, 2, none⟩ z).setCell ⟨n, 3, none⟩ u) (some b) :=
  gr_then (gr_then (gr_then (gr_then hg (gr_set _ _ 0 _) h) (gr_set _ _ 1 _) h) (gr_set _ _ 2 _) h) (gr_set _ _ 3 _) h
theorem rd4 {w : World} {b n : Nat} {s : ByteArray} (x y z u : Value) (h : b ≠ n) (hr : RdAt w b s) : RdAt ((((w.setCell ⟨n, 0, none⟩ x).setCell ⟨n, 1, none⟩ y).setCell ⟨n, 2, none⟩ z).setCell ⟨n, 3, none⟩ u) b s :=
  (((hr.grown (gr_set _ _ 0 _) h).grown (gr_set _ _ 1 _) h).grown (gr_set _ _ 2 _) h).grown (gr_set _ _ 3 _) h
theorem rCut_bad2 (b n : Nat) (s : ByteArray) (w : World) (h : RdAt w b s) (hs : s.size ≤ 1000000) (he : s.size < n) :
    Calls Try.prog 49 #[.pointer (some ⟨b, 0, none⟩), .int .u64 (n : Nat)] w fun e w' => e = thrownE 2 ∧ w.grownBy w' (some b) :=
  (rCut_bad b n s w h hs he).mono fun e w' ⟨a, c⟩ => ⟨a, c ▸ World.grownBy.refl w (some b)⟩
set_option maxHeartbeats 2000000 in
theorem rPart_any (b : Nat) (s : ByteArray) (w : World) (h : RdAt w b s) (hs : s.size ≤ 1000000) :
    Calls Try.prog 34 #[.pointer (some ⟨b, 0, none⟩)] w fun e w' => (match rdPart s.data.toList with
      | none => e = thrownE 2 ∧ w.grownBy w' (some b)
      | some (p, rest) => e = .returned (partA p) ∧ RdAt w' b ⟨rest.toArray⟩ ∧ w.grownBy w' (some b)) := by
  have hl : s.data.toList.length = s.size := by simp
  have hle := vTake_le s.data.toList
  have hlt := vTake_lt s.data.toList
  have h1 := fun w (h : RdAt w b s) => rNum_ok b s w h hs
  have h1b := fun w (h : RdAt w b s) => rNum_bad b s w h hs
  unfold rdPart
  generalize vTake s.data.toList = r at *
  obtain ⟨n, k, e⟩ := r
  dsimp only at *
  have hb := h.lt
  have HA := Lib.hid (fun o => h.alloc (w := w) (b := b) (s := s) o)
  have hx0 : ∀ (w : World) o, (w.alloc o).heap[w.heap.size]? = some o := fun w o => (MapKept.heap_alloc w o).1
  have HX := Lib.hid hx0
  have hne : b ≠ w.heap.size := by omega
  clear hx0 h
  by_cases he : e = 0
  · obtain ⟨hk, hk1⟩ := hle he
    rw [hl] at hk
    have H1 := Lib.hid (fun w h => h1 w h he)
    clear h1 h1b hle
    by_cases hn : n < 2
    · have HM := Lib.hid (fun w => must_bad 2 w)
      rw [if_pos (.inr hn)]
      dsimp only
      have hd : decide (1 < n) = false := by simp; omega
      have hd2 : decide ((1 : Int) < (n : Int)) = false := by simp; omega
      go_enter Try.func34, Try.ntmps34
      go_wp2_with fail
      refine (H1.out _ (HA.out _)).mono ?_
      rintro e w1 ⟨rfl, r1, b1⟩
      have B1 := Lib.hid ((World.grownBy_alloc w _ (some b)).trans b1)
      clear r1 b1
      go_wp2_with fail
      refine (HM.out _).mono ?_
      rintro e w1 ⟨rfl, rfl⟩
      unfold thrownE
      go_wp2_with fail
      exact ⟨rfl, rfl, B1.out⟩
    · have HM := Lib.hid (fun w => must_ok 2 w)
      rw [if_neg (by omega)]
      have hd : decide (1 < n) = true := by simp; omega
      have hd2 : decide ((1 : Int) < (n : Int)) = true := by simp; omega
      have hand := and1u64 n hlt.1
      have hsz : (s.extract k s.size).size ≤ 1000000 := by rw [ByteArray.size_extract]; omega
      rw [show s.data.toList.drop k = (s.extract k s.size).data.toList by rw [from_list]]
      generalize s.extract k s.size = t at *
      have htl : t.data.toList.length = t.size := by simp
      by_cases ho : n % 2 = 1
      · rw [if_pos ho]
        rw [ho] at hand
        have hle2 := vTake_le t.data.toList
        have h2 := fun w (h : RdAt w b t) => rNum_ok b t w h hsz
        have h2b := fun w (h : RdAt w b t) => rNum_bad b t w h hsz
        generalize vTake t.data.toList = r at *
        obtain ⟨n2, k2, e2⟩ := r
        dsimp only at *
        by_cases he2 : e2 = 0
        · rw [if_neg (by omega)]
          have H2 := Lib.hid (fun w h => h2 w h he2)
          clear h2 h2b hle2
          dsimp only
          rw [← from_list t k2]
          generalize t.extract k2 t.size = u at *
          go_enter Try.func34, Try.ntmps34
          go_wp2_with fail
          refine (H1.out _ (HA.out _)).mono ?_
          rintro e w1 ⟨rfl, r1, b1⟩
          have R1 := Lib.hid r1
          have B1 := Lib.hid ((World.grownBy_alloc w _ (some b)).trans b1)
          have HN := Lib.hid ((b1.block w.heap.size (by simp) (by simp; omega)).trans (HX.out _ _))
          have hN := b1.size
          simp only [World.alloc, Array.size_push] at hN
          have hN1 : w.heap.size ≠ w1.heap.size := by omega
          have hN2 : w1.heap.size ≠ w.heap.size := by omega
          have hbN : b ≠ w1.heap.size := by omega
          have HA1 := Lib.hid (fun o => RdAt.alloc r1 o)
          clear r1 b1
          go_wp2_with fail
          refine (HM.out _).mono ?_
          rintro e w1 ⟨rfl, rfl⟩
          go_wp2_with fail
          refine (H2.out _ (HA1.out _)).mono ?_
          rintro e w2 ⟨rfl, r2, b2⟩
          have B2 := Lib.hid (B1.out.trans ((World.grownBy_alloc w1 _ (some b)).trans b2))
          have R2 := Lib.hid r2
          have K1 := cells4 ((b2.block w1.heap.size (by simp) (by simp; omega)).trans (HX.out _ _))
          have K0 := cells4 ((b2.block w.heap.size (by simp; omega) (by simp; omega)).trans ((Lib.alloc_old w1 _ _ hN).trans HN.out))
          clear r2 b2
          obtain ⟨p0, p1, p2, p3, z0, z1, z2, z3⟩ := K0
          obtain ⟨q0, q1, q2, q3, y0, y1, y2, y3⟩ := K1
          go_wp2_with fail
          refine bodyPost_cell1 (V := .agg #[.bool true, .int .u64 ((n : Int) / 2), .int .u64 (n2 : Nat), .string ⟨#[]⟩]) rfl rfl ?_ rfl ?_
          · go_simp
          · refine ⟨?_, rd4 _ _ _ _ hne (R2.out.grown (gr_set _ _ 2 _) hbN), gr4 _ _ _ _ (Nat.le_refl _) (gr_then B2.out (gr_set _ _ 2 _) (by omega))⟩
            first | rfl | (simp only [partA]; rw [show ((n / 2 : Nat) : Int) = (n : Int) / 2 by omega])
        · rw [if_pos he2]
          have H2 := Lib.hid (fun w h => h2b w h he2)
          clear h2 h2b hle2
          dsimp only
          go_enter Try.func34, Try.ntmps34
          go_wp2_with fail
          refine (H1.out _ (HA.out _)).mono ?_
          rintro e w1 ⟨rfl, r1, b1⟩
          have R1 := Lib.hid r1
          have B1 := Lib.hid ((World.grownBy_alloc w _ (some b)).trans b1)
          have HN := Lib.hid ((b1.block w.heap.size (by simp) (by simp; omega)).trans (HX.out _ _))
          have hN := b1.size
          simp only [World.alloc, Array.size_push] at hN
          have hN1 : w.heap.size ≠ w1.heap.size := by omega
          have hN2 : w1.heap.size ≠ w.heap.size := by omega
          have hbN : b ≠ w1.heap.size := by omega
          have HA1 := Lib.hid (fun o => RdAt.alloc r1 o)
          clear r1 b1
          go_wp2_with fail
          refine (HM.out _).mono ?_
          rintro e w1 ⟨rfl, rfl⟩
          go_wp2_with fail
          refine (H2.out _ (HA1.out _)).mono ?_
          rintro e w2 ⟨rfl, b2⟩
          have B2 := Lib.hid (B1.out.trans ((World.grownBy_alloc w1 _ (some b)).trans b2))
          clear b2
          unfold thrownE
          go_wp2_with fail
          exact ⟨rfl, rfl, B2.out⟩
      · rw [if_neg ho]
        rw [show n % 2 = 0 by omega] at hand
        rw [htl]
        have hdiv : (n : Int) / 2 = ((n / 2 : Nat) : Int) := by omega
        by_cases hc : t.size < n / 2
        · rw [if_pos hc]
          have h2 := fun w h => rCut_bad2 b (n / 2) t w h hsz hc
          rw [← hdiv] at h2
          have H2 := Lib.hid h2
          clear h2 hdiv hc ho
          dsimp only
          go_enter Try.func34, Try.ntmps34
          go_wp2_with fail
          refine (H1.out _ (HA.out _)).mono ?_
          rintro e w1 ⟨rfl, r1, b1⟩
          have R1 := Lib.hid r1
          have B1 := Lib.hid ((World.grownBy_alloc w _ (some b)).trans b1)
          have HN := Lib.hid ((b1.block w.heap.size (by simp) (by simp; omega)).trans (HX.out _ _))
          have hN := b1.size
          simp only [World.alloc, Array.size_push] at hN
          have hN1 : w.heap.size ≠ w1.heap.size := by omega
          have hN2 : w1.heap.size ≠ w.heap.size := by omega
          have hbN : b ≠ w1.heap.size := by omega
          have HA1 := Lib.hid (fun o => RdAt.alloc r1 o)
          clear r1 b1
          go_wp2_with fail
          refine (HM.out _).mono ?_
          rintro e w1 ⟨rfl, rfl⟩
          go_wp2_with fail
          refine (H2.out _ (HA1.out _)).mono ?_
          rintro e w2 ⟨rfl, b2⟩
          have B2 := Lib.hid (B1.out.trans ((World.grownBy_alloc w1 _ (some b)).trans b2))
          clear b2
          unfold thrownE
          go_wp2_with fail
          exact ⟨rfl, rfl, B2.out⟩
        · rw [if_neg hc]
          have h2 := fun w h => rCut_ok b (n / 2) t w h hsz (by omega)
          rw [← hdiv] at h2
          have H2 := Lib.hid h2
          have hlen : ((List.take (n / 2) t.data.toList).length : Int) = (n : Int) / 2 := by rw [List.length_take, htl]; omega
          clear h2 hdiv hc ho
          dsimp only
          rw [← from_list t (n / 2)]
          have HPA : Hid (partA (.lit (t.data.toList.take (n / 2))) = .agg #[.bool false, .int .u64 ((n : Int) / 2), .int .u64 0, .string (t.extract 0 (n / 2))]) := by
            unfold Hid
            simp only [partA]
            rw [hlen, to_list]
          rw [HPA.out]
          clear hlen HPA
          generalize t.extract 0 (n / 2) = v at *
          generalize t.extract (n / 2) t.size = u at *
          go_enter Try.func34, Try.ntmps34
          go_wp2_with fail
          refine (H1.out _ (HA.out _)).mono ?_
          rintro e w1 ⟨rfl, r1, b1⟩
          have R1 := Lib.hid r1
          have B1 := Lib.hid ((World.grownBy_alloc w _ (some b)).trans b1)
          have HN := Lib.hid ((b1.block w.heap.size (by simp) (by simp; omega)).trans (HX.out _ _))
          have hN := b1.size
          simp only [World.alloc, Array.size_push] at hN
          have hN1 : w.heap.size ≠ w1.heap.size := by omega
          have hN2 : w1.heap.size ≠ w.heap.size := by omega
          have hbN : b ≠ w1.heap.size := by omega
          have HA1 := Lib.hid (fun o => RdAt.alloc r1 o)
          clear r1 b1
          go_wp2_with fail
          refine (HM.out _).mono ?_
          rintro e w1 ⟨rfl, rfl⟩
          go_wp2_with fail
          refine (H2.out _ (HA1.out _)).mono ?_
          rintro e w2 ⟨rfl, r2, b2⟩
          have B2 := Lib.hid (B1.out.trans ((World.grownBy_alloc w1 _ (some b)).trans b2))
          have R2 := Lib.hid r2
          have K1 := cells4 ((b2.block w1.heap.size (by simp) (by simp; omega)).trans (HX.out _ _))
          have K0 := cells4 ((b2.block w.heap.size (by simp; omega) (by simp; omega)).trans ((Lib.alloc_old w1 _ _ hN).trans HN.out))
          clear r2 b2
          obtain ⟨p0, p1, p2, p3, z0, z1, z2, z3⟩ := K0
          obtain ⟨q0, q1, q2, q3, y0, y1, y2, y3⟩ := K1
          go_wp2_with fail
          refine bodyPost_cell1 (V := .agg #[.bool false, .int .u64 ((n : Int) / 2), .int .u64 0, .string v]) rfl rfl ?_ rfl ?_
          · go_simp
          · refine ⟨?_, rd4 _ _ _ _ hne (R2.out.grown (gr_set _ _ 3 _) hbN), gr4 _ _ _ _ (Nat.le_refl _) (gr_then B2.out (gr_set _ _ 3 _) (by omega))⟩
            first | rfl | (simp only [partA]; rw [show ((n / 2 : Nat) : Int) = (n : Int) / 2 by omega])
  · have H1 := Lib.hid (fun w h => h1b w h he)
    rw [if_pos (.inl he)]
    clear h1 h1b hle hl
    dsimp only
    go_enter Try.func34, Try.ntmps34
    go_wp2_with fail
    refine (H1.out _ (HA.out _)).mono ?_
    rintro e w1 ⟨rfl, b1⟩
    have B1 := Lib.hid ((World.grownBy_alloc w _ (some b)).trans b1)
    clear b1
    unfold thrownE
    go_wp2_with fail
    exact ⟨rfl, rfl, B1.out⟩
/-- a part in a block of its own -/
def PtAt (w : World) (n : Nat) (p : Part) : Prop := match p with
  | .lit b => w.heap[n]? = some (.cells #[.bool false, .int .u64 (b.length : Nat), .int .u64 0, .string ⟨b.toArray⟩] 73 (0, 0))
  | .cop m k => w.heap[n]? = some (.cells #[.bool true, .int .u64 (m : Nat), .int .u64 (k : Nat), .string ⟨#[]⟩] 73 (0, 0))
set_option maxHeartbeats 2000000 in
theorem pText_lit (l : List UInt8) (base : ByteArray) (w : World) :
    Calls Try.prog 46 #[partA (.lit l), .string base] w fun e w' => e = .returned (.string ⟨l.toArray⟩) ∧ Below w.heap.size w w' := by
  unfold partA
  go_enter Try.func46, Try.ntmps46
  go_wp2_with fail
  go_ret
  exact ⟨rfl, (Below.refl _ _).alloc (Nat.le_refl _) _⟩
set_option maxHeartbeats 2000000 in
theorem pText_ok (n k : Nat) (base : ByteArray) (w : World) (h : k + n ≤ base.size) (hb : base.size ≤ 1000000) :
    Calls Try.prog 46 #[partA (.cop n k), .string base] w fun e w' => e = .returned (.string (base.extract k (k + n))) ∧ Below w.heap.size w w' := by
  have HM := Lib.hid (fun w => must_ok 4 w)
  have h1 : (k : Int) ≤ (base.size : Int) := by omega
  have h2 : (n : Int) ≤ (base.size : Int) - (k : Int) := by omega
  have h3 : k ≤ base.size := by omega
  unfold partA
  go_enter Try.func46, Try.ntmps46
  go_wp2_with fail
  refine (HM.out _).mono ?_
  rintro e w1 ⟨rfl, rfl⟩
  go_wp2_with fail
  go_ret
  exact ⟨rfl, (Below.refl _ _).alloc (Nat.le_refl _) _⟩
set_option maxHeartbeats 2000000 in
theorem pText_bad (n k : Nat) (base : ByteArray) (w : World) (h : base.size < k ∨ base.size - k < n) (hb : base.size ≤ 1000000) (hn : n < 18446744073709551616) (hk : k < 18446744073709551616) :
    Calls Try.prog 46 #[partA (.cop n k), .string base] w fun e w' => e = thrownE 4 ∧ Below w.heap.size w w' := by
  have HM := Lib.hid (fun w => must_bad 4 w)
  unfold partA
  by_cases h3 : base.size < k
  · have h1 : (base.size : Int) < (k : Int) := by omega
    have hd : decide (k ≤ base.size) = false := by simp; omega
    clear h
    go_enter Try.func46, Try.ntmps46
    go_wp2_with fail
    refine (HM.out _).mono ?_
    rintro e w1 ⟨rfl, rfl⟩
    unfold thrownE
    go_wp2_with fail
    exact ⟨rfl, rfl, (Below.refl _ _).alloc (Nat.le_refl _) _⟩
  · have h1 : (k : Int) ≤ (base.size : Int) := by omega
    have h2 : (base.size : Int) - (k : Int) < (n : Int) := by omega
    have hd : decide (k ≤ base.size) = true := by simp; omega
    have hd2 : decide ((n : Int) ≤ (base.size : Int) - (k : Int)) = false := by simp; omega
    clear h
    go_enter Try.func46, Try.ntmps46
    go_wp2_with fail
    refine (HM.out _).mono ?_
    rintro e w1 ⟨rfl, rfl⟩
    unfold thrownE
    go_wp2_with fail
    exact ⟨rfl, rfl, (Below.refl _ _).alloc (Nat.le_refl _) _⟩
end Go.Proofs.Ytlkpgefapcfdbaa
