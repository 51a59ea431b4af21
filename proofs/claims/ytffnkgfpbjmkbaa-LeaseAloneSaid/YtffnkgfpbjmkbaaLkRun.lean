/- silolaw46.run: one thing that is asked for. -/
import Derived.Test.YtffnkgfpbjmkbaaLkPlain2
import Derived.Deep.QuietTactic
import Derived.Deep.DeepCutAuto
import Derived.Test.YtffnkgfpbjmkbaaLkLaw
namespace Go.Proofs.Ytffnkgfpbjmkbaa
open Go.RowKit
set_option linter.unusedVariables false
set_option linter.unusedSimpArgs false
theorem LksN.set_box {w : World} {v : Value} {l : List Lk} {r j : Nat} {a : Int} {S : Option Addr} {sn sc : Nat} {t : TypeId} {fz : Nat × Nat} {u : Value} (h : LksN w v l) (hr : w.heap[r]? = some (.cells #[.int .i64 a, .slice S sn sc] t fz)) : LksN (w.setCell ⟨r, j, none⟩ u) v l := by
  obtain ⟨⟨A, c, h1, h2, h3, h4⟩, h5⟩ := h
  refine ⟨⟨A, c, h1, h2, h3, fun hl => ?_⟩, h5⟩
  obtain ⟨b, off, e1, e2, e3⟩ := h4 hl
  have hb : b ≠ r := by
    intro e
    subst e
    have := (e3 0 hl).1
    simp only [World.cell?, hr] at this
    match h9 : off + 0 * 3, this with
    | 0, this => simp at this
    | 1, this => simp at this
    | k + 2, this => simp at this
  refine ⟨b, off, e1, by rw [World.size_setCell]; exact e2, fun i hi => ?_⟩
  obtain ⟨g1, g2, g3⟩ := e3 i hi
  exact ⟨(World.cell?_setCell_other _ _ _ _ (by intro e; injection e with e _; exact hb e.symm)).trans g1, (World.cell?_setCell_other _ _ _ _ (by intro e; injection e with e _; exact hb e.symm)).trans g2, (World.cell?_setCell_other _ _ _ _ (by intro e; injection e with e _; exact hb e.symm)).trans g3⟩
def ow5 (b : UInt8) : UInt64 := UInt64.ofNat (b.toNat % 5)
theorem ow5_nat (b : UInt8) : (ow5 b).toNat = b.toNat % 5 := by
  unfold ow5
  rw [UInt64.toNat_ofNat']
  omega
set_option maxRecDepth 20000 in
set_option maxHeartbeats 4000000 in
theorem run_any (now : Int) (v : Value) (l : List Lk) (ob kb : UInt8) (shared : Bool) (t : Int) (w : World) (hv : LksN w v l) (hf : FitP now l) (ht : -32768 ≤ t ∧ t ≤ 32767) :
    Calls Try.prog 11 #[Lc now v, .agg #[.int .u8 ob.toNat, .int .u8 kb.toNat, .bool shared, .int .i16 t]] w fun e w' => ∃ v', e = .returned (.tuple #[Lc (runP now l (ow5 ob) (kb.toNat % 5) shared t).1 v', .int .i64 (runP now l (ow5 ob) (kb.toNat % 5) shared t).2.2]) ∧ LksN w' v' (runP now l (ow5 ob) (kb.toNat % 5) shared t).2.1 ∧ Below w.heap.size w w' := by
  have HV := Lib.hid hv
  have HFit := Lib.hid hf
  have hl9 : l.length ≤ 16 := hf.2.2.1
  have hnow0 := hf.1
  have hnow1 : now ≤ 1000000000000 := by have := hf.2.1; omega
  have hris := hf.2.2.2.1
  have C0 := Lib.hid (fun (o : UInt64) la ea (hA : askP now l o shared t = (la, ea)) w' (b : Below w.heap.size w w') => RetL.of (ask_any now v l o shared t w' (hv.below b (Nat.le_refl _)) hris (by omega) hnow0 hnow1) hA)
  have C1 := Lib.hid (fun (o : UInt64) la ea (hA : renP now l o t = (la, ea)) w' (b : Below w.heap.size w w') => RetL.of (renew_any now v l o t w' (hv.below b (Nat.le_refl _)) hris (by omega) hnow0 hnow1) hA)
  have C2 := Lib.hid (fun (o : UInt64) la ea (hA : relP l o = (la, ea)) w' (b : Below w.heap.size w w') => RetL.of (release_any now v l o w' (hv.below b (Nat.le_refl _)) hris (by omega)) hA)
  have C3 := Lib.hid (fun (o : UInt64) la ea (hA : turnP l o shared = (la, ea)) w' (b : Below w.heap.size w w') => RetL.of (turn_any now v l o shared w' (hv.below b (Nat.le_refl _)) hris (by omega)) hA)
  have C4 := Lib.hid (fun w' (b : Below w.heap.size w w') => RetU.of (pass_any now v l t w' (hv.below b (Nat.le_refl _)) (by omega) hnow0 hnow1))
  obtain ⟨A, c, rfl, h2, h3, h4⟩ := hv.1
  have hc9 : c ≤ 9223372036854775807 := by unfold maxLen at h3; omega
  unfold Lc at C0 C1 C2 C3 C4 ⊢
  obtain ⟨n, hn⟩ : ∃ n, n = l.length := ⟨_, rfl⟩
  rw [← hn] at C0 C1 C2 C3 C4
  rw [← hn]
  have ho : ((ob.toNat : Int)).tmod 5 = ((ow5 ob).toNat : Int) := by rw [ow5_nat, Int.tmod_eq_emod_of_nonneg (by omega)]; omega
  have hk : ((kb.toNat : Int)).tmod 5 = ((kb.toNat % 5 : Nat) : Int) := by rw [Int.tmod_eq_emod_of_nonneg (by omega)]; omega
  obtain ⟨ht0, ht1⟩ := ht
  have ho5 : (ow5 ob).toNat < 5 := by rw [ow5_nat]; omega
  have hk5 : kb.toNat % 5 < 5 := by omega
  generalize ow5 ob = o at *
  generalize kb.toNat % 5 = k at *
  clear hn h2 h3 h4 hv hf hl9 hnow0 hnow1 hris
  have HB3 : Hid (Below w.heap.size w (((w.alloc (.cells #[.int .i64 now, .slice A n c] 27)).alloc (.cells #[.int .u8 ob.toNat, .int .u8 kb.toNat, .bool shared, .int .i16 t] 41)).alloc (.cells #[.int .i64 0, .slice none 0 0] 27))) := (((Below.refl _ _).alloc (Nat.le_refl _) _).alloc (by simp) _).alloc (by simp; omega) _
  have HSZ : Hid ((((w.alloc (.cells #[.int .i64 now, .slice A n c] 27)).alloc (.cells #[.int .u8 ob.toNat, .int .u8 kb.toNat, .bool shared, .int .i16 t] 41)).alloc (.cells #[.int .i64 0, .slice none 0 0] 27)).heap.size = w.heap.size + 3) := by unfold Hid; simp
  have q3 : (((w.alloc (.cells #[.int .i64 now, .slice A n c] 27)).alloc (.cells #[.int .u8 ob.toNat, .int .u8 kb.toNat, .bool shared, .int .i16 t] 41)).alloc (.cells #[.int .i64 0, .slice none 0 0] 27)).heap[w.heap.size + 1 + 1]? = some (.cells #[.int .i64 0, .slice none 0 0] 27) := by
    have := heap_alloc_new ((w.alloc (.cells #[.int .i64 now, .slice A n c] 27)).alloc (.cells #[.int .u8 ob.toNat, .int .u8 kb.toNat, .bool shared, .int .i16 t] 41)) (.cells #[.int .i64 0, .slice none 0 0] 27)
    simpa using this
  have q2 : (((w.alloc (.cells #[.int .i64 now, .slice A n c] 27)).alloc (.cells #[.int .u8 ob.toNat, .int .u8 kb.toNat, .bool shared, .int .i16 t] 41)).alloc (.cells #[.int .i64 0, .slice none 0 0] 27)).heap[w.heap.size + 1]? = some (.cells #[.int .u8 ob.toNat, .int .u8 kb.toNat, .bool shared, .int .i16 t] 41) := by
    rw [heap_alloc_old _ _ (by simp)]
    have := heap_alloc_new (w.alloc (.cells #[.int .i64 now, .slice A n c] 27)) (.cells #[.int .u8 ob.toNat, .int .u8 kb.toNat, .bool shared, .int .i16 t] 41)
    simpa using this
  have q1 : (((w.alloc (.cells #[.int .i64 now, .slice A n c] 27)).alloc (.cells #[.int .u8 ob.toNat, .int .u8 kb.toNat, .bool shared, .int .i16 t] 41)).alloc (.cells #[.int .i64 0, .slice none 0 0] 27)).heap[w.heap.size]? = some (.cells #[.int .i64 now, .slice A n c] 27) := by
    rw [heap_alloc_old _ _ (by simp; omega), heap_alloc_old _ _ (by simp)]
    exact heap_alloc_new _ _
  obtain ⟨wE, hwE⟩ : ∃ wE, wE = (((w.alloc (.cells #[.int .i64 now, .slice A n c] 27)).alloc (.cells #[.int .u8 ob.toNat, .int .u8 kb.toNat, .bool shared, .int .i16 t] 41)).alloc (.cells #[.int .i64 0, .slice none 0 0] 27)) := ⟨_, rfl⟩
  rw [← hwE] at HB3 HSZ q1 q2 q3
  have HWE := Lib.hid hwE.symm
  clear hwE
  have e1 := cells2 q1
  have D0 : wE.cell? ⟨w.heap.size + 1, 0, none⟩ = some (.int .u8 ob.toNat) := by unfold World.cell?; simp [q2]
  have D1 : wE.cell? ⟨w.heap.size + 1, 1, none⟩ = some (.int .u8 kb.toNat) := by unfold World.cell?; simp [q2]
  have D2 : wE.cell? ⟨w.heap.size + 1, 2, none⟩ = some (.bool shared) := by unfold World.cell?; simp [q2]
  have D3 : wE.cell? ⟨w.heap.size + 1, 3, none⟩ = some (.int .i16 t) := by unfold World.cell?; simp [q2]
  have X0 := e1.1
  have X1 := e1.2.1
  have HQ3 := Lib.hid q3
  clear q1 q2 q3 e1
  have hk9 : k = 0 ∨ k = 1 ∨ k = 2 ∨ k = 3 ∨ k = 4 := by omega
  rcases hk9 with rfl | rfl | rfl | rfl | rfl
  · have hrun : runP now l o 0 shared t = (now, askP now l o shared t) := rfl
    rw [hrun]
    clear hrun hk5
    obtain ⟨la, ea, hA⟩ : ∃ la ea, askP now l o shared t = (la, ea) := ⟨_, _, rfl⟩
    rw [hA]
    have CX := Lib.hid (C0.out o la ea hA)
    clear hA C0 C1 C2 C3 C4
    dsimp only
    go_enter Try.func11, Try.ntmps11
    go_wp2_with fail
    rw [HWE.out]
    go_quiet (fail)
    go_wp2_with fail
    refine (CX.out _ (Below.drewN HB3.out _)).mono ?_
    rintro e w2 ⟨Aa, ca, rfl, hL, b2⟩
    have hq3 : w2.heap[w.heap.size + 1 + 1]? = some (.cells #[.int .i64 0, .slice none 0 0] 27) := (b2.block _ (Nat.lt_of_lt_of_le (show w.heap.size + 1 + 1 < wE.heap.size by have := HSZ.out; omega) (Below.drewN (Below.refl wE.heap.size wE) nq).size)).trans HQ3.out
    have R0 := (cells2 hq3).1
    have R1 := (cells2 hq3).2.1
    have FR0 := (cells2 hq3).2.2 0
    have FR1 := (cells2 hq3).2.2 1
    have HBW : Hid (Below w.heap.size w w2) := (Below.drewN HB3.out _).trans (b2.mono (Below.drewN HB3.out nq).size)
    have hq4 : (w2.setCell ⟨w.heap.size + 1 + 1, 0, none⟩ (.int .i64 now)).heap[w.heap.size + 1 + 1]? = some (.cells #[.int .i64 now, .slice none 0 0] 27) := by
      have := heap_set w2 (w.heap.size + 1 + 1) 0 _ _ _ (.int .i64 now) hq3
      simpa using this
    have HEND : Hid (LksN ((w2.setCell ⟨w.heap.size + 1 + 1, 0, none⟩ (.int .i64 now)).setCell ⟨w.heap.size + 1 + 1, 1, none⟩ (.slice Aa la.length ca)) (.slice Aa la.length ca) la ∧ Below w.heap.size w ((w2.setCell ⟨w.heap.size + 1 + 1, 0, none⟩ (.int .i64 now)).setCell ⟨w.heap.size + 1 + 1, 1, none⟩ (.slice Aa la.length ca))) :=
      ⟨(hL.set_box hq3).set_box hq4, (HBW.out.setCell (p := ⟨w.heap.size + 1 + 1, 0, none⟩) (by dsimp only; omega) _).setCell (p := ⟨w.heap.size + 1 + 1, 1, none⟩) (by dsimp only; omega) _⟩
    clear hq3 hq4 hL b2 HBW
    go_wp2_with fail
    (try simp only [Exit.inBlock, Exit.then])
    refine bodyPost_cell (V := .agg #[.int .i64 now, .slice Aa la.length ca]) rfl rfl ?_ rfl ?_
    · go_simp
    · exact ⟨_, rfl, HEND.out.1, HEND.out.2⟩
  · have hrun : runP now l o 1 shared t = (now, renP now l o t) := rfl
    rw [hrun]
    clear hrun hk5
    obtain ⟨la, ea, hA⟩ : ∃ la ea, renP now l o t = (la, ea) := ⟨_, _, rfl⟩
    rw [hA]
    have CX := Lib.hid (C1.out o la ea hA)
    clear hA C0 C1 C2 C3 C4
    dsimp only
    go_enter Try.func11, Try.ntmps11
    go_wp2_with fail
    rw [HWE.out]
    go_quiet (fail)
    go_wp2_with fail
    refine (CX.out _ (Below.drewN HB3.out _)).mono ?_
    rintro e w2 ⟨Aa, ca, rfl, hL, b2⟩
    have hq3 : w2.heap[w.heap.size + 1 + 1]? = some (.cells #[.int .i64 0, .slice none 0 0] 27) := (b2.block _ (Nat.lt_of_lt_of_le (show w.heap.size + 1 + 1 < wE.heap.size by have := HSZ.out; omega) (Below.drewN (Below.refl wE.heap.size wE) nq).size)).trans HQ3.out
    have R0 := (cells2 hq3).1
    have R1 := (cells2 hq3).2.1
    have FR0 := (cells2 hq3).2.2 0
    have FR1 := (cells2 hq3).2.2 1
    have HBW : Hid (Below w.heap.size w w2) := (Below.drewN HB3.out _).trans (b2.mono (Below.drewN HB3.out nq).size)
    have hq4 : (w2.setCell ⟨w.heap.size + 1 + 1, 0, none⟩ (.int .i64 now)).heap[w.heap.size + 1 + 1]? = some (.cells #[.int .i64 now, .slice none 0 0] 27) := by
      have := heap_set w2 (w.heap.size + 1 + 1) 0 _ _ _ (.int .i64 now) hq3
      simpa using this
    have HEND : Hid (LksN ((w2.setCell ⟨w.heap.size + 1 + 1, 0, none⟩ (.int .i64 now)).setCell ⟨w.heap.size + 1 + 1, 1, none⟩ (.slice Aa la.length ca)) (.slice Aa la.length ca) la ∧ Below w.heap.size w ((w2.setCell ⟨w.heap.size + 1 + 1, 0, none⟩ (.int .i64 now)).setCell ⟨w.heap.size + 1 + 1, 1, none⟩ (.slice Aa la.length ca))) :=
      ⟨(hL.set_box hq3).set_box hq4, (HBW.out.setCell (p := ⟨w.heap.size + 1 + 1, 0, none⟩) (by dsimp only; omega) _).setCell (p := ⟨w.heap.size + 1 + 1, 1, none⟩) (by dsimp only; omega) _⟩
    clear hq3 hq4 hL b2 HBW
    go_wp2_with fail
    (try simp only [Exit.inBlock, Exit.then])
    refine bodyPost_cell (V := .agg #[.int .i64 now, .slice Aa la.length ca]) rfl rfl ?_ rfl ?_
    · go_simp
    · exact ⟨_, rfl, HEND.out.1, HEND.out.2⟩
  · have hrun : runP now l o 2 shared t = (now, relP l o) := rfl
    rw [hrun]
    clear hrun hk5
    obtain ⟨la, ea, hA⟩ : ∃ la ea, relP l o = (la, ea) := ⟨_, _, rfl⟩
    rw [hA]
    have CX := Lib.hid (C2.out o la ea hA)
    clear hA C0 C1 C2 C3 C4
    dsimp only
    go_enter Try.func11, Try.ntmps11
    go_wp2_with fail
    rw [HWE.out]
    go_quiet (fail)
    go_wp2_with fail
    refine (CX.out _ (Below.drewN HB3.out _)).mono ?_
    rintro e w2 ⟨Aa, ca, rfl, hL, b2⟩
    have hq3 : w2.heap[w.heap.size + 1 + 1]? = some (.cells #[.int .i64 0, .slice none 0 0] 27) := (b2.block _ (Nat.lt_of_lt_of_le (show w.heap.size + 1 + 1 < wE.heap.size by have := HSZ.out; omega) (Below.drewN (Below.refl wE.heap.size wE) nq).size)).trans HQ3.out
    have R0 := (cells2 hq3).1
    have R1 := (cells2 hq3).2.1
    have FR0 := (cells2 hq3).2.2 0
    have FR1 := (cells2 hq3).2.2 1
    have HBW : Hid (Below w.heap.size w w2) := (Below.drewN HB3.out _).trans (b2.mono (Below.drewN HB3.out nq).size)
    have hq4 : (w2.setCell ⟨w.heap.size + 1 + 1, 0, none⟩ (.int .i64 now)).heap[w.heap.size + 1 + 1]? = some (.cells #[.int .i64 now, .slice none 0 0] 27) := by
      have := heap_set w2 (w.heap.size + 1 + 1) 0 _ _ _ (.int .i64 now) hq3
      simpa using this
    have HEND : Hid (LksN ((w2.setCell ⟨w.heap.size + 1 + 1, 0, none⟩ (.int .i64 now)).setCell ⟨w.heap.size + 1 + 1, 1, none⟩ (.slice Aa la.length ca)) (.slice Aa la.length ca) la ∧ Below w.heap.size w ((w2.setCell ⟨w.heap.size + 1 + 1, 0, none⟩ (.int .i64 now)).setCell ⟨w.heap.size + 1 + 1, 1, none⟩ (.slice Aa la.length ca))) :=
      ⟨(hL.set_box hq3).set_box hq4, (HBW.out.setCell (p := ⟨w.heap.size + 1 + 1, 0, none⟩) (by dsimp only; omega) _).setCell (p := ⟨w.heap.size + 1 + 1, 1, none⟩) (by dsimp only; omega) _⟩
    clear hq3 hq4 hL b2 HBW
    go_wp2_with fail
    (try simp only [Exit.inBlock, Exit.then])
    refine bodyPost_cell (V := .agg #[.int .i64 now, .slice Aa la.length ca]) rfl rfl ?_ rfl ?_
    · go_simp
    · exact ⟨_, rfl, HEND.out.1, HEND.out.2⟩
  · have hrun : runP now l o 3 shared t = (now, turnP l o shared) := rfl
    rw [hrun]
    clear hrun hk5
    obtain ⟨la, ea, hA⟩ : ∃ la ea, turnP l o shared = (la, ea) := ⟨_, _, rfl⟩
    rw [hA]
    have CX := Lib.hid (C3.out o la ea hA)
    clear hA C0 C1 C2 C3 C4
    dsimp only
    go_enter Try.func11, Try.ntmps11
    go_wp2_with fail
    rw [HWE.out]
    go_quiet (fail)
    go_wp2_with fail
    refine (CX.out _ (Below.drewN HB3.out _)).mono ?_
    rintro e w2 ⟨Aa, ca, rfl, hL, b2⟩
    have hq3 : w2.heap[w.heap.size + 1 + 1]? = some (.cells #[.int .i64 0, .slice none 0 0] 27) := (b2.block _ (Nat.lt_of_lt_of_le (show w.heap.size + 1 + 1 < wE.heap.size by have := HSZ.out; omega) (Below.drewN (Below.refl wE.heap.size wE) nq).size)).trans HQ3.out
    have R0 := (cells2 hq3).1
    have R1 := (cells2 hq3).2.1
    have FR0 := (cells2 hq3).2.2 0
    have FR1 := (cells2 hq3).2.2 1
    have HBW : Hid (Below w.heap.size w w2) := (Below.drewN HB3.out _).trans (b2.mono (Below.drewN HB3.out nq).size)
    have hq4 : (w2.setCell ⟨w.heap.size + 1 + 1, 0, none⟩ (.int .i64 now)).heap[w.heap.size + 1 + 1]? = some (.cells #[.int .i64 now, .slice none 0 0] 27) := by
      have := heap_set w2 (w.heap.size + 1 + 1) 0 _ _ _ (.int .i64 now) hq3
      simpa using this
    have HEND : Hid (LksN ((w2.setCell ⟨w.heap.size + 1 + 1, 0, none⟩ (.int .i64 now)).setCell ⟨w.heap.size + 1 + 1, 1, none⟩ (.slice Aa la.length ca)) (.slice Aa la.length ca) la ∧ Below w.heap.size w ((w2.setCell ⟨w.heap.size + 1 + 1, 0, none⟩ (.int .i64 now)).setCell ⟨w.heap.size + 1 + 1, 1, none⟩ (.slice Aa la.length ca))) :=
      ⟨(hL.set_box hq3).set_box hq4, (HBW.out.setCell (p := ⟨w.heap.size + 1 + 1, 0, none⟩) (by dsimp only; omega) _).setCell (p := ⟨w.heap.size + 1 + 1, 1, none⟩) (by dsimp only; omega) _⟩
    clear hq3 hq4 hL b2 HBW
    go_wp2_with fail
    (try simp only [Exit.inBlock, Exit.then])
    refine bodyPost_cell (V := .agg #[.int .i64 now, .slice Aa la.length ca]) rfl rfl ?_ rfl ?_
    · go_simp
    · exact ⟨_, rfl, HEND.out.1, HEND.out.2⟩
  · have hrun : runP now l o 4 shared t = (passN now t, keepL l (overB (passN now t)), 0) := rfl
    rw [hrun]
    clear hrun hk5
    obtain ⟨now2, hp⟩ : ∃ now2, now2 = passN now t := ⟨_, rfl⟩
    rw [← hp] at C4
    rw [← hp]
    obtain ⟨lp, hlp⟩ : ∃ lp, lp = keepL l (overB now2) := ⟨_, rfl⟩
    rw [← hlp] at C4
    rw [← hlp]
    clear hp hlp C0 C1 C2 C3
    dsimp only
    go_enter Try.func11, Try.ntmps11
    go_wp2_with fail
    rw [HWE.out]
    go_quiet (fail)
    go_wp2_with fail
    refine (C4.out _ (Below.drewN HB3.out _)).mono ?_
    rintro e w8 ⟨Aa, ca, Au, cu, rfl, hL8, _, b8⟩
    obtain ⟨w2, hw2⟩ : ∃ w2, w2 = w8.alloc (.cells #[.int .i64 now2, .slice Aa lp.length ca] 27) := ⟨_, rfl⟩
    have hal : Below w8.heap.size w8 w2 := by rw [hw2]; exact (Below.refl _ _).alloc (Nat.le_refl _) _
    have hnb : BoxL w2 w8.heap.size now2 (.slice Aa lp.length ca) := by rw [hw2]; exact BoxL.new _ _ _
    have b2 := b8.trans (hal.mono b8.size)
    have hL := hL8.below hal (Nat.le_refl _)
    have HW2 := Lib.hid hw2.symm
    obtain ⟨z0, z1, zl⟩ := hnb
    obtain ⟨bz, hbz⟩ : ∃ bz, bz = w8.heap.size := ⟨_, rfl⟩
    have HBZ := Lib.hid hbz.symm
    rw [← hbz] at z0 z1 zl
    clear hw2 hal hL8 b8 hbz
    have hq3 : w2.heap[w.heap.size + 1 + 1]? = some (.cells #[.int .i64 0, .slice none 0 0] 27) := (b2.block _ (Nat.lt_of_lt_of_le (show w.heap.size + 1 + 1 < wE.heap.size by have := HSZ.out; omega) (Below.drewN (Below.refl wE.heap.size wE) nq).size)).trans HQ3.out
    have R0 := (cells2 hq3).1
    have R1 := (cells2 hq3).2.1
    have FR0 := (cells2 hq3).2.2 0
    have FR1 := (cells2 hq3).2.2 1
    have HBW : Hid (Below w.heap.size w w2) := (Below.drewN HB3.out _).trans (b2.mono (Below.drewN HB3.out nq).size)
    have hq4 : (w2.setCell ⟨w.heap.size + 1 + 1, 0, none⟩ (.int .i64 now2)).heap[w.heap.size + 1 + 1]? = some (.cells #[.int .i64 now2, .slice none 0 0] 27) := by
      have := heap_set w2 (w.heap.size + 1 + 1) 0 _ _ _ (.int .i64 now2) hq3
      simpa using this
    have HEND : Hid (LksN ((w2.setCell ⟨w.heap.size + 1 + 1, 0, none⟩ (.int .i64 now2)).setCell ⟨w.heap.size + 1 + 1, 1, none⟩ (.slice Aa lp.length ca)) (.slice Aa lp.length ca) lp ∧ Below w.heap.size w ((w2.setCell ⟨w.heap.size + 1 + 1, 0, none⟩ (.int .i64 now2)).setCell ⟨w.heap.size + 1 + 1, 1, none⟩ (.slice Aa lp.length ca))) :=
      ⟨(hL.set_box hq3).set_box hq4, (HBW.out.setCell (p := ⟨w.heap.size + 1 + 1, 0, none⟩) (by dsimp only; omega) _).setCell (p := ⟨w.heap.size + 1 + 1, 1, none⟩) (by dsimp only; omega) _⟩
    clear hq3 hq4 hL b2 HBW
    go_upto_region 12 with fail
    rw [HW2.out, HBZ.out]
    go_wp2_with fail
    (try simp only [Exit.inBlock, Exit.then])
    refine bodyPost_cell (V := .agg #[.int .i64 now2, .slice Aa lp.length ca]) rfl rfl ?_ rfl ?_
    · go_simp
    · exact ⟨_, rfl, HEND.out.1, HEND.out.2⟩
end Go.Proofs.Ytffnkgfpbjmkbaa
