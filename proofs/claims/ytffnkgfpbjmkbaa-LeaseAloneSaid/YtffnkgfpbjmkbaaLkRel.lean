/- lease: Release at any locks. -/
import Derived.Test.YtffnkgfpbjmkbaaLkDelF
namespace Go.Proofs.Ytffnkgfpbjmkbaa
open Go.RowKit
set_option linter.unusedVariables false
set_option linter.unusedSimpArgs false
theorem RowL.set_other {w : World} {g n c b j : Nat} {u : Value} {l : List Lk} (h : RowL w g n c l) (hne : g ≠ b) : RowL (w.setCell ⟨b, j, none⟩ u) g n c l := by
  obtain ⟨h1, h2, h3, cur, h4, h5⟩ := h
  exact ⟨h1, h2, h3, cur, (heap_setCell_other _ _ g _ (by dsimp only; omega)).trans h4, h5⟩
theorem RowL.n {w : World} {g n c : Nat} {l : List Lk} (h : RowL w g n c l) : LksN w (.slice (some ⟨g, 0, none⟩) n c) l := by
  have := LksN.of_owns (h.own (B := 0) (Nat.zero_le _))
  rw [← h.1] at this
  exact this
theorem RowL.lt {w : World} {g n c : Nat} {l : List Lk} (h : RowL w g n c l) : g < w.heap.size := by
  obtain ⟨_, _, _, cur, h4, _⟩ := h
  exact (Array.getElem?_eq_some_iff.1 h4).1
theorem RowL.below {w w' : World} {g n c B : Nat} {l : List Lk} (h : RowL w g n c l) (hb : Below B w w') (hB : g < B) : RowL w' g n c l := by
  obtain ⟨h1, h2, h3, cur, h4, h5⟩ := h
  exact ⟨h1, h2, h3, cur, (hb.block g hB).trans h4, h5⟩
theorem hasO_lt {l : List Lk} {k : UInt64} (h : hasO l k = true) : placeO l k < l.length := by
  unfold hasO at h
  cases hx : l[placeO l k]? with
  | none => rw [hx] at h; cases h
  | some x => exact (List.getElem?_eq_some_iff.1 hx).1
def relP (l : List Lk) (owner : UInt64) : List Lk × Int := if hasO l owner = true then (l.eraseIdx (placeO l owner), 0) else (l, 5)
set_option maxRecDepth 20000 in
set_option maxHeartbeats 3000000 in
theorem release_any (now : Int) (v : Value) (l : List Lk) (owner : UInt64) (w : World) (hv : LksN w v l) (hr : RisO l) (hl : l.length ≤ 1000000) :
    Calls Try.prog 18 #[Lc now v, .int .u64 owner.toNat] w fun e w' => ∃ v', e = .returned (.tuple #[Lc now v', .int .i64 (relP l owner).2]) ∧ LksN w' v' (relP l owner).1 ∧ Below w.heap.size w w' := by
  have HV := Lib.hid hv
  have HAT := Lib.hid (fun p w' (b : Below w.heap.size w w') => atL_any p v l owner w' (hv.1.below b (Nat.le_refl _)) hr (by omega))
  have HCL := Lib.hid (fun w' (b : Below w.heap.size w w') => cloneL_any v l w' (hv.below b (Nat.le_refl _)) (by omega))
  obtain ⟨A, c, rfl, h2, h3, h4⟩ := hv.1
  have hc9 : c ≤ 9223372036854775807 := by unfold maxLen at h3; omega
  have HPL := Lib.hid (@hasO_lt l owner)
  unfold relP
  unfold Lc
  have HB3 : Hid (Below w.heap.size w (((w.alloc (.cells #[.int .i64 now, .slice A l.length c] 27)).alloc (.cells #[.int .i64 0, .slice none 0 0] 27)).alloc (.cells #[.int .i64 now, .slice A l.length c] 57))) := (((Below.refl _ _).alloc (Nat.le_refl _) _).alloc (by simp) _).alloc (by simp; omega) _
  have H3 := two3 w (.int .i64 now) (.slice A l.length c) 27 (.int .i64 0) (.slice none 0 0) 27 (.int .i64 now) (.slice A l.length c) 57
  obtain ⟨n, hn⟩ : ∃ n, n = l.length := ⟨_, rfl⟩
  have HN := Lib.hid hn
  obtain ⟨i, hi⟩ : ∃ i, i = placeO l owner := ⟨_, rfl⟩
  rw [← hi] at HPL HAT ⊢
  rw [← hn] at HAT HCL HB3 H3 HPL HV
  have hln : n ≤ 1000000 := by omega
  rw [← hn]
  clear hn hi h2 h3 h4 hv hl
  cases hh : hasO l owner with
  | false =>
    rw [hh] at HAT
    rw [if_neg (by decide)]
    clear hh HPL HCL
    go_enter Try.func18, Try.ntmps18
    go_wp2_with fail
    refine Calls.mono (HAT.out _ _ HB3.out H3.2.2.2.2.1) ?_
    rintro e w1 ⟨rfl, b1⟩
    have HB1 : Hid (Below w.heap.size w w1) := HB3.out.trans (b1.mono HB3.out.size)
    have X0 := (b1.cell (p := ⟨w.heap.size, 0, none⟩) (by simp; omega)).trans H3.1
    have X1 := (b1.cell (p := ⟨w.heap.size, 1, none⟩) (by simp; omega)).trans H3.2.1
    have R0 := (b1.cell (p := ⟨w.heap.size + 1, 0, none⟩) (by simp)).trans H3.2.2.1
    have R1 := (b1.cell (p := ⟨w.heap.size + 1, 1, none⟩) (by simp)).trans H3.2.2.2.1
    have FR0 := (b1.frozen (p := ⟨w.heap.size + 1, 0, none⟩) (by simp)).trans (H3.2.2.2.2.2.2.1 0)
    have FR1 := (b1.frozen (p := ⟨w.heap.size + 1, 1, none⟩) (by simp)).trans (H3.2.2.2.2.2.2.1 1)
    have HBf : Hid (Below w.heap.size w ((w1.setCell ⟨w.heap.size + 1, 0, none⟩ (.int .i64 now)).setCell ⟨w.heap.size + 1, 1, none⟩ (.slice A n c))) := (HB1.out.setCell (p := ⟨w.heap.size + 1, 0, none⟩) (by dsimp only; omega) _).setCell (p := ⟨w.heap.size + 1, 1, none⟩) (by dsimp only; omega) _
    clear b1 H3 HB3 HAT
    go_wp2_with fail
    (try simp only [Exit.inBlock, Exit.then])
    refine bodyPost_cell (V := .agg #[.int .i64 now, .slice A n c]) rfl rfl ?_ rfl ?_
    · go_simp
    · exact ⟨_, rfl, HV.out.below HBf.out (Nat.le_refl _), HBf.out⟩
  | true =>
    have hin := HPL.out hh
    rw [hh] at HAT
    rw [if_pos rfl]
    clear hh HPL
    go_enter Try.func18, Try.ntmps18
    go_wp2_with fail
    refine Calls.mono (HAT.out _ _ HB3.out H3.2.2.2.2.1) ?_
    rintro e w1 ⟨rfl, b1⟩
    have HB1 : Hid (Below w.heap.size w w1) := HB3.out.trans (b1.mono HB3.out.size)
    have HSZ : Hid (w.heap.size + 3 ≤ w1.heap.size) := by unfold Hid; have := b1.size; simp at this; omega
    have X1 := (b1.cell (p := ⟨w.heap.size, 1, none⟩) (by simp; omega)).trans H3.2.1
    have HBOX : Hid (w1.cell? ⟨w.heap.size + 1, 0, none⟩ = some (.int .i64 0) ∧ w1.cell? ⟨w.heap.size + 1, 1, none⟩ = some (.slice none 0 0) ∧ w1.cell? ⟨w.heap.size + 1 + 1, 0, none⟩ = some (.int .i64 now) ∧ w1.cell? ⟨w.heap.size + 1 + 1, 1, none⟩ = some (.slice A n c) ∧ (∀ j, w1.frozen? ⟨w.heap.size + 1, j, none⟩ = false) ∧ ∀ j, w1.frozen? ⟨w.heap.size + 1 + 1, j, none⟩ = false) :=
      ⟨(b1.cell (p := ⟨w.heap.size + 1, 0, none⟩) (by simp)).trans H3.2.2.1, (b1.cell (p := ⟨w.heap.size + 1, 1, none⟩) (by simp)).trans H3.2.2.2.1, (b1.cell (p := ⟨w.heap.size + 1 + 1, 0, none⟩) (by simp)).trans H3.2.2.2.2.2.1, (b1.cell (p := ⟨w.heap.size + 1 + 1, 1, none⟩) (by simp)).trans H3.2.2.2.2.1, fun j => (b1.frozen (p := ⟨w.heap.size + 1, j, none⟩) (by simp)).trans (H3.2.2.2.2.2.2.1 j), fun j => (b1.frozen (p := ⟨w.heap.size + 1 + 1, j, none⟩) (by simp)).trans (H3.2.2.2.2.2.2.2 j)⟩
    clear b1 H3 HB3 HAT
    go_wp2_with fail
    refine (HCL.out _ HB1.out).mono ?_
    rintro e w2 ⟨vc, rfl, ho, b2⟩
    have hrow := OwnL.row (by rw [← HN.out]; exact ho : OwnL w2 w1.heap.size vc l.length (lkC l))
    rw [← HN.out] at hrow
    rcases hrow with ⟨_, hl0⟩ | ⟨gc, cc, rfl, hgc, hrow⟩
    · have := HN.out; rw [hl0] at this; simp at this; omega
    have HDE := Lib.hid (delete_any gc n cc i l w2 hrow hin)
    have HBOX2 : Hid (w2.cell? ⟨w.heap.size + 1, 0, none⟩ = some (.int .i64 0) ∧ w2.cell? ⟨w.heap.size + 1, 1, none⟩ = some (.slice none 0 0) ∧ w2.cell? ⟨w.heap.size + 1 + 1, 0, none⟩ = some (.int .i64 now) ∧ w2.cell? ⟨w.heap.size + 1 + 1, 1, none⟩ = some (.slice A n c) ∧ (∀ j, w2.frozen? ⟨w.heap.size + 1, j, none⟩ = false) ∧ ∀ j, w2.frozen? ⟨w.heap.size + 1 + 1, j, none⟩ = false) := by
      have hs := HSZ.out
      obtain ⟨y0, y1, y2, y3, y4, y5⟩ := HBOX.out
      exact ⟨(b2.cell (p := ⟨w.heap.size + 1, 0, none⟩) (by dsimp only; omega)).trans y0, (b2.cell (p := ⟨w.heap.size + 1, 1, none⟩) (by dsimp only; omega)).trans y1, (b2.cell (p := ⟨w.heap.size + 1 + 1, 0, none⟩) (by dsimp only; omega)).trans y2, (b2.cell (p := ⟨w.heap.size + 1 + 1, 1, none⟩) (by dsimp only; omega)).trans y3, fun j => (b2.frozen (p := ⟨w.heap.size + 1, j, none⟩) (by dsimp only; omega)).trans (y4 j), fun j => (b2.frozen (p := ⟨w.heap.size + 1 + 1, j, none⟩) (by dsimp only; omega)).trans (y5 j)⟩
    have HB2 : Hid (Below w.heap.size w w2) := HB1.out.trans (b2.mono HB1.out.size)
    have HSZ2 : Hid (w.heap.size + 3 ≤ w2.heap.size) := Nat.le_trans HSZ.out b2.size
    have HGC : Hid (w.heap.size + 3 ≤ gc) := Nat.le_trans HSZ.out hgc
    clear b2 hgc ho hrow HBOX HB1 HSZ HCL X1
    have hi1 : IntKind.i64.wrap ((i : Int) + 1) = (i : Int) + 1 := by rw [IntKind.wrap_i64]; omega
    go_wp2_with fail
    refine HDE.out.mono ?_
    rintro e w3 ⟨rfl, hrow3, hgr⟩
    have hs2 := HSZ2.out
    have hg3 := HGC.out
    obtain ⟨y0, y1, y2, y3, y4, y5⟩ := HBOX2.out
    have hb1 := hgr.block (w.heap.size + 1) (by omega) (by simp; omega)
    have hb2 := hgr.block (w.heap.size + 1 + 1) (by omega) (by simp; omega)
    have R0 := (World.cell?_of_block (a := ⟨w.heap.size + 1, 0, none⟩) hb1).trans y0
    have R1 := (World.cell?_of_block (a := ⟨w.heap.size + 1, 1, none⟩) hb1).trans y1
    have K0 := (World.cell?_of_block (a := ⟨w.heap.size + 1 + 1, 0, none⟩) hb2).trans y2
    have K1 := (World.cell?_of_block (a := ⟨w.heap.size + 1 + 1, 1, none⟩) hb2).trans y3
    have FR0 := (World.frozen?_of_block (a := ⟨w.heap.size + 1, 0, none⟩) hb1).trans (y4 0)
    have FR1 := (World.frozen?_of_block (a := ⟨w.heap.size + 1, 1, none⟩) hb1).trans (y4 1)
    have FK1 := (World.frozen?_of_block (a := ⟨w.heap.size + 1 + 1, 1, none⟩) hb2).trans (y5 1)
    have HB3 : Hid (Below w.heap.size w w3) := ⟨hgr.os.trans HB2.out.os, hgr.tape.trans HB2.out.tape, hgr.output.trans HB2.out.output, Nat.le_trans HB2.out.size hgr.size, fun k hk => (hgr.block k (by omega) (by simp; omega)).trans (HB2.out.block k hk)⟩
    have HEND : Hid (LksN (((w3.setCell ⟨w.heap.size + 1 + 1, 1, none⟩ (.slice (some ⟨gc, 0, none⟩) (n - 1) cc)).setCell ⟨w.heap.size + 1, 0, none⟩ (.int .i64 now)).setCell ⟨w.heap.size + 1, 1, none⟩ (.slice (some ⟨gc, 0, none⟩) (n - 1) cc)) (.slice (some ⟨gc, 0, none⟩) (n - 1) cc) (l.eraseIdx i) ∧ Below w.heap.size w (((w3.setCell ⟨w.heap.size + 1 + 1, 1, none⟩ (.slice (some ⟨gc, 0, none⟩) (n - 1) cc)).setCell ⟨w.heap.size + 1, 0, none⟩ (.int .i64 now)).setCell ⟨w.heap.size + 1, 1, none⟩ (.slice (some ⟨gc, 0, none⟩) (n - 1) cc))) :=
      ⟨(((hrow3.set_other (by omega)).set_other (by omega)).set_other (by omega)).n, ((HB3.out.setCell (p := ⟨w.heap.size + 1 + 1, 1, none⟩) (by dsimp only; omega) _).setCell (p := ⟨w.heap.size + 1, 0, none⟩) (by dsimp only; omega) _).setCell (p := ⟨w.heap.size + 1, 1, none⟩) (by dsimp only; omega) _⟩
    clear hb1 hb2 y0 y1 y2 y3 y4 y5 hgr hrow3 hs2 hg3 HDE HBOX2
    go_wp2_with fail
    (try simp only [Exit.inBlock, Exit.then])
    refine bodyPost_cell (V := .agg #[.int .i64 now, .slice (some ⟨gc, 0, none⟩) (n - 1) cc]) rfl rfl ?_ rfl ?_
    · go_simp
    · exact ⟨_, rfl, HEND.out.1, HEND.out.2⟩
end Go.Proofs.Ytffnkgfpbjmkbaa
