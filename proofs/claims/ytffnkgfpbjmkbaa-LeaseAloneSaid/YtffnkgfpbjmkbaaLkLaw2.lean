/- LeaseAlone: the law. -/
import Derived.Test.YtffnkgfpbjmkbaaLkRun
namespace Go.Proofs.Ytffnkgfpbjmkbaa
open Go.RowKit
set_option linter.unusedVariables false
set_option linter.unusedSimpArgs false
theorem opens_i16 {H : Type} {enc : TypeId × Value → H} {P : Program} {w : World} {t : TypeId} (ht : P.underlying t = some (.int .i16)) : Opens enc P w t (EInt .i16) (fun n => -32768 ≤ n ∧ n ≤ 32767) := by
  intro fuel cs y h
  obtain ⟨n, rfl, _, hw⟩ := DataW.trod_int ht h
  refine ⟨n, rfl, ?_⟩
  simp [Lit.wf, IntKind.min, IntKind.max, IntKind.signed, IntKind.bits] at hw
  exact hw
abbrev Do4 := UInt8 × UInt8 × Bool × Int
theorem do_get (l : List Do4) (i : Nat) (h : i < l.length) : (l.flatMap (ES4 EU8 EU8 EBool (EInt .i16)))[i * 4]? = some (.int .u8 l[i].1.toNat) ∧ (l.flatMap (ES4 EU8 EU8 EBool (EInt .i16)))[i * 4 + 1]? = some (.int .u8 l[i].2.1.toNat) ∧ (l.flatMap (ES4 EU8 EU8 EBool (EInt .i16)))[i * 4 + 2]? = some (.bool l[i].2.2.1) ∧ (l.flatMap (ES4 EU8 EU8 EBool (EInt .i16)))[i * 4 + 3]? = some (.int .i16 l[i].2.2.2) := by
  induction l generalizing i with
  | nil => simp at h
  | cons o l ih =>
    have hc : (o :: l).flatMap (ES4 EU8 EU8 EBool (EInt .i16)) = Value.int .u8 o.1.toNat :: .int .u8 o.2.1.toNat :: .bool o.2.2.1 :: .int .i16 o.2.2.2 :: l.flatMap (ES4 EU8 EU8 EBool (EInt .i16)) := by
      simp [List.flatMap_cons, ES4, EU8, EBool, EInt]
    rw [hc]
    cases i with
    | zero => exact ⟨rfl, rfl, rfl, rfl⟩
    | succ i =>
      have := ih i (by simpa using h)
      have e : (i + 1) * 4 = i * 4 + 1 + 1 + 1 + 1 := by omega
      rw [e]
      exact this
/-- the locks between two things that are asked for -/
def AInv (b0 : Nat) (W w : World) : Prop := ∃ now A c l, w.heap[b0]? = some (.cells #[.int .i64 now, .slice A (List.length l) c] 27 (0, 0)) ∧ LksN w (.slice A (List.length l) c) l ∧ FitP now l ∧ Few5 l ∧ Below W.heap.size W w
theorem place_le9 (l : List Lk) (k : UInt64) {now : Int} (h : FitP now l) : placeO l k ≤ 16 := Nat.le_trans (placeO_le l k) h.2.2.1
theorem fit_nil : FitP 0 [] := ⟨by omega, by omega, by simp, List.Pairwise.nil, fun x hx => by simp at hx⟩
theorem lksN_nil (w : World) : LksN w (.slice none 0 0) [] := ⟨⟨none, 0, rfl, by simp, by unfold maxLen; simp, fun h => absurd h (by simp)⟩, fun n c e => by cases e; rfl⟩
set_option maxRecDepth 40000 in
set_option maxHeartbeats 20000000 in
theorem alone_main (W : World) (A : Option Addr) (n c : Nat) (ds : List Do4) (hn : n = ds.length) (hnc : n ≤ c) (hcm : c ≤ maxLen) (hcells : 0 < n → ∃ b off, A = some ⟨b, off, none⟩ ∧ b < W.heap.size ∧ ∀ j (h : j < ds.length), W.cell? ⟨b, off + j * 4, none⟩ = some (.int .u8 ds[j].1.toNat) ∧ W.cell? ⟨b, off + j * 4 + 1, none⟩ = some (.int .u8 ds[j].2.1.toNat) ∧ W.cell? ⟨b, off + j * 4 + 2, none⟩ = some (.bool ds[j].2.2.1) ∧ W.cell? ⟨b, off + j * 4 + 3, none⟩ = some (.int .i16 ds[j].2.2.2))
    (hb : ∀ d ∈ ds, -32768 ≤ d.2.2.2 ∧ d.2.2.2 ≤ 32767) :
    Calls Try.prog 4 #[.slice A n c] W fun e w' => e = .returned (.bool true) ∧ Below W.heap.size W w' := by
  have HA := Lib.hid leaAwake_any
  have hc9 : c ≤ 9223372036854775807 := by unfold maxLen at hcm; omega
  have HN := Lib.hid hn
  have HC := Lib.hid hcells
  have HBD := Lib.hid hb
  clear hn hcells hb hcm
  by_cases h60 : 60 < n
  · have d1 : decide ((60 : Int) < (n : Int)) = true := by simp; omega
    go_enter Try.func4, Try.ntmps4
    go_wp2_with fail
    refine (HA.out _).mono ?_
    rintro e w2 ⟨rfl, b2⟩
    go_wp2_with fail
    go_ret
    exact ⟨rfl, b2⟩
  have d1 : decide ((60 : Int) < (n : Int)) = false := by simp; omega
  have h60' : n ≤ 60 := by omega
  clear h60
  obtain ⟨wE, hwE⟩ : ∃ wE, wE = W.alloc (.cells #[.int .i64 0, .slice none 0 0] 27) := ⟨_, rfl⟩
  have q0 : wE.heap[W.heap.size]? = some (.cells #[.int .i64 0, .slice none 0 0] 27 (0, 0)) := by rw [hwE]; exact heap_alloc_new _ _
  have hbE : Below W.heap.size W wE := by rw [hwE]; exact (Below.refl _ _).alloc (Nat.le_refl _) _
  have HI0 : Hid (AInv W.heap.size W wE) := ⟨0, none, 0, [], q0, lksN_nil _, fit_nil, (fun x hx => by simp at hx), hbE⟩
  have HWE := Lib.hid hwE.symm
  clear hwE q0 hbE
  go_enter Try.func4, Try.ntmps4
  go_wp2_with fail
  rw [HWE.out]
  clear HWE d1
  go_loopw [21] (fun a wr => ∃ j : Nat, j ≤ n ∧ a = .int .i64 j ∧ Hid (AInv W.heap.size W wr)) (fun a _ => n - (RowKit.intOf a).toNat)
  case atStart => exact ⟨0, Nat.zero_le _, rfl, HI0⟩
  case round =>
    obtain ⟨j, hj, rfl, HI⟩ := hrel
    obtain ⟨now, Al, cl, l, hbx, hk, hfit, hfew, hbw⟩ := HI.out
    by_cases hlt : j < n
    · have hlt' : (j : Int) < (n : Int) := by omega
      have hj0 : (0 : Int) ≤ (j : Int) := by omega
      have hnn := HN.out
      obtain ⟨b, off, rfl, hblt, hcells⟩ := HC.out (by omega)
      have hml : j < ds.length := by omega
      obtain ⟨x0, x1, x2, x3⟩ := hcells j hml
      have y0 := (hbw.cell (p := ⟨b, off + j * 4, none⟩) hblt).trans x0
      have y1 := (hbw.cell (p := ⟨b, off + j * 4 + 1, none⟩) hblt).trans x1
      have y2 := (hbw.cell (p := ⟨b, off + j * 4 + 2, none⟩) hblt).trans x2
      have y3 := (hbw.cell (p := ⟨b, off + j * 4 + 3, none⟩) hblt).trans x3
      have hbd := HBD.out ds[j] (List.getElem_mem hml)
      generalize ds[j] = d at *
      obtain ⟨ob, kb, sh, t⟩ := d
      dsimp only at y0 y1 y2 y3 hbd
      have hl0 := cells2 hbx
      have L0 := hl0.1
      have L1 := hl0.2.1
      have hlr : W.heap.size < wr.heap.size := (Array.getElem?_eq_some_iff.1 hbx).1
      have HBX := Lib.hid hbx
      have HBW := Lib.hid hbw
      have HF := Lib.hid hfit
      have HK := Lib.hid hk
      obtain ⟨now2, l2, ea, hR⟩ : ∃ now2 l2 ea, runP now l (ow5 ob) (kb.toNat % 5) sh t = (now2, l2, ea) := ⟨_, _, _, rfl⟩
      have HFit2 : Hid (FitP now2 l2) := by have := run_fit now l (ow5 ob) (kb.toNat % 5) sh t hfit; rw [hR] at this; exact this
      have HNow : Hid (now ≤ now2) := by have := run_now now l (ow5 ob) (kb.toNat % 5) sh t hfit; rw [hR] at this; exact this
      have ho5 : (ow5 ob).toNat < 5 := by rw [ow5_nat]; omega
      have HFew2 : Hid (Few5 l2) := by have := run_few now l (ow5 ob) (kb.toNat % 5) sh t hfew (show (ow5 ob).toNat < 5 from ho5); rw [hR] at this; exact this
      have HErr : Hid (ea ≠ 0 → now2 = now ∧ l2 = l) := by have := run_err now l (ow5 ob) (kb.toNat % 5) sh t; rw [hR] at this; exact this
      have HHold : Hid (ea = 0 → (kb.toNat % 5 = 0 ∨ kb.toNat % 5 = 1 → hasO l2 (ow5 ob) = true) ∧ (kb.toNat % 5 = 2 → hasO l2 (ow5 ob) = false)) := by have := run_holds now l (ow5 ob) (kb.toNat % 5) sh t hfit; rw [hR] at this; exact this
      have HRun := Lib.hid (fun w' (bb : Below wr.heap.size wr w') => run_any now _ l ob kb sh t w' (HK.out.below bb (Nat.le_refl _)) HF.out hbd)
      rw [hR] at HRun
      dsimp only at HRun
      unfold Lc at HRun
      clear hR hbx hk hfit hfew hbw hl0 hcells x0 x1 x2 x3 hnn HI
      obtain ⟨w1, hw1⟩ : ∃ w1, w1 = wr.alloc (.cells #[.int .u8 ob.toNat, .int .u8 kb.toNat, .bool sh, .int .i16 t] 41) := ⟨_, rfl⟩
      have hb1 : Below wr.heap.size wr w1 := by rw [hw1]; exact (Below.refl _ _).alloc (Nat.le_refl _) _
      have qd : w1.heap[wr.heap.size]? = some (.cells #[.int .u8 ob.toNat, .int .u8 kb.toNat, .bool sh, .int .i16 t] 41) := by rw [hw1]; exact heap_alloc_new _ _
      obtain ⟨bd, hbdd⟩ : ∃ bd, bd = wr.heap.size := ⟨_, rfl⟩
      have HB1 := Lib.hid hb1
      have HBD1 := Lib.hid hbdd.symm
      have HW1 := Lib.hid hw1.symm
      rw [← hbdd] at qd
      have hbd1 : bd < w1.heap.size := (Array.getElem?_eq_some_iff.1 qd).1
      have HQD := Lib.hid qd
      clear hw1 hb1 hbdd qd
      go_wp2_with fail
      rw [HW1.out, HBD1.out]
      refine (HRun.out _ HB1.out).mono ?_
      rintro e w2 ⟨v2, rfl, hk2, bb2⟩
      obtain ⟨A2, c2, rfl, _⟩ := hk2.1
      have HK2 := Lib.hid hk2
      have hQD2 := (bb2.block _ hbd1).trans HQD.out
      have HQD2 := Lib.hid hQD2
      have hBX2 := ((HB1.out.trans (bb2.mono HB1.out.size)).block _ hlr).trans HBX.out
      have HBX2 := Lib.hid hBX2
      have HBW2 : Hid (Below W.heap.size W w2) := HBW.out.trans ((HB1.out.trans (bb2.mono HB1.out.size)).mono HBW.out.size)
      have HBr2 : Hid (Below wr.heap.size wr w2) := HB1.out.trans (bb2.mono HB1.out.size)
      clear hQD2 hBX2 y0 y1 y2 y3 L0 L1 hk2 HRun HQD HBX HW1 HBD1
      have HKl := HK.out.below HBr2.out (Nat.le_refl _)
      have HKl := Lib.hid HKl
      have HKm := HK2
      have HBX := HBX2
      have HQD := HQD2
      have HBB := HBW2
      clear HK HK2 HBX2 HQD2 HBW2 HBr2 HF HBW HB1 hlr hbd1 hbd
      have hoo : ((ob.toNat : Int)).tmod 5 = ((ow5 ob).toNat : Int) := by rw [ow5_nat, Int.tmod_eq_emod_of_nonneg (by omega)]; omega
      by_cases hea : ea = 0
      · subst hea
        clear HErr
        have hz1 : ((0 : Int) != 0) = false := by decide
        have hz2 : ((0 : Int) == 0) = true := by decide
        have l0 := (cells2 HBX.out).1
        have l1 := (cells2 HBX.out).2.1
        have ll := (Array.getElem?_eq_some_iff.1 HBX.out).1
        go_wp2_with fail
        clear l0 l1 ll
        obtain ⟨w3, hw3⟩ : ∃ w3, w3 = w2.alloc (.cells #[.int .i64 now2, .slice A2 (List.length l2) c2] 27) := ⟨_, rfl⟩
        have hal : Below w2.heap.size w2 w3 := by rw [hw3]; exact (Below.refl _ _).alloc (Nat.le_refl _) _
        have hnb : w3.heap[w2.heap.size]? = some (.cells #[.int .i64 now2, .slice A2 (List.length l2) c2] 27) := by rw [hw3]; exact heap_alloc_new _ _
        obtain ⟨bm, hbm⟩ : ∃ bm, bm = w2.heap.size := ⟨_, rfl⟩
        rw [← hbm] at hnb
        rw [← hw3, ← hbm]
        have HMB := Lib.hid hnb
        have HBX : Hid (w3.heap[W.heap.size]? = some (.cells #[.int .i64 now, .slice Al (List.length l) cl] 27 (0, 0))) := (hal.block _ (Array.getElem?_eq_some_iff.1 HBX.out).1).trans HBX.out
        have HQD : Hid (w3.heap[bd]? = some (.cells #[.int .u8 ob.toNat, .int .u8 kb.toNat, .bool sh, .int .i16 t] 41)) := (hal.block _ (Array.getElem?_eq_some_iff.1 HQD.out).1).trans HQD.out
        have HKl : Hid (LksN w3 (.slice Al (List.length l) cl) l) := HKl.out.below hal (Nat.le_refl _)
        have HKm : Hid (LksN w3 (.slice A2 (List.length l2) c2) l2) := HKm.out.below hal (Nat.le_refl _)
        have HBB : Hid (Below W.heap.size W w3) := HBB.out.trans (hal.mono HBB.out.size)
        clear hw3 hal hnb hbm
        refine (fit_calls (fb := true) (rfit_any now2 _ l2 _ HKm.out.1) ⟨fun _ => HFit2.out, fun _ => rfl⟩).mono ?_
        rintro e w5 ⟨rfl, b5⟩
        have HBX : Hid (w5.heap[W.heap.size]? = some (.cells #[.int .i64 now, .slice Al (List.length l) cl] 27 (0, 0))) := (b5.block _ (Array.getElem?_eq_some_iff.1 HBX.out).1).trans HBX.out
        have HQD : Hid (w5.heap[bd]? = some (.cells #[.int .u8 ob.toNat, .int .u8 kb.toNat, .bool sh, .int .i16 t] 41)) := (b5.block _ (Array.getElem?_eq_some_iff.1 HQD.out).1).trans HQD.out
        have HMB : Hid (w5.heap[bm]? = some (.cells #[.int .i64 now2, .slice A2 (List.length l2) c2] 27)) := (b5.block _ (Array.getElem?_eq_some_iff.1 HMB.out).1).trans HMB.out
        have HKl : Hid (LksN w5 (.slice Al (List.length l) cl) l) := HKl.out.below b5 (Nat.le_refl _)
        have HKm : Hid (LksN w5 (.slice A2 (List.length l2) c2) l2) := HKm.out.below b5 (Nat.le_refl _)
        have HBB : Hid (Below W.heap.size W w5) := HBB.out.trans (b5.mono HBB.out.size)
        clear b5
        have hnow := HNow.out
        have z1 : decide (now2 < now) = false := by first | (simp; done) | (simp; omega)
        clear hnow
        have m0 := (cells2 HMB.out).1
        have m1 := (cells2 HMB.out).2.1
        have ml := (Array.getElem?_eq_some_iff.1 HMB.out).1
        have l0 := (cells2 HBX.out).1
        have l1 := (cells2 HBX.out).2.1
        have ll := (Array.getElem?_eq_some_iff.1 HBX.out).1
        go_wp2_with fail
        clear m0 m1 ml
        clear l0 l1 ll
        clear z1
        go_loopw [8, 9, 51] (fun u q a wr' => ∃ i : Nat, i ≤ 5 ∧ u = .int .i64 (placeO l2 (UInt64.ofNat i) : Nat) ∧ (∃ al : Bool, q = .bool al ∧ Hid (al = true → l2.length = 1)) ∧ a = .int .u64 i ∧ Hid (Below w5.heap.size w5 wr')) (fun _ _ a _ => 5 - (RowKit.intOf a).toNat)
        case atStart => exact ⟨0, by omega, by rw [place_zero]; rfl, ⟨false, rfl, fun h => by cases h⟩, rfl, Below.refl _ _⟩
        case round =>
          obtain ⟨i, hi, rfl, ⟨al, rfl, HAl⟩, rfl, HB5⟩ := hrel
          have HBX : Hid (wr.heap[W.heap.size]? = some (.cells #[.int .i64 now, .slice Al (List.length l) cl] 27 (0, 0))) := (HB5.out.block _ (Array.getElem?_eq_some_iff.1 HBX.out).1).trans HBX.out
          have HQD : Hid (wr.heap[bd]? = some (.cells #[.int .u8 ob.toNat, .int .u8 kb.toNat, .bool sh, .int .i16 t] 41)) := (HB5.out.block _ (Array.getElem?_eq_some_iff.1 HQD.out).1).trans HQD.out
          have HMB : Hid (wr.heap[bm]? = some (.cells #[.int .i64 now2, .slice A2 (List.length l2) c2] 27)) := (HB5.out.block _ (Array.getElem?_eq_some_iff.1 HMB.out).1).trans HMB.out
          have HKl : Hid (LksN wr (.slice Al (List.length l) cl) l) := HKl.out.below HB5.out (Nat.le_refl _)
          have HKm : Hid (LksN wr (.slice A2 (List.length l2) c2) l2) := HKm.out.below HB5.out (Nat.le_refl _)
          have HBB : Hid (Below W.heap.size W wr) := HBB.out.trans (HB5.out.mono HBB.out.size)
          by_cases hi5 : i < 5
          · have hi' : (i : Int) < 5 := by omega
            have hi0 : (0 : Int) ≤ (i : Int) := by omega
            have hin : (UInt64.ofNat i).toNat = i := by rw [UInt64.toNat_ofNat']; omega
            have HPS := Lib.hid (place_succ l2 HFit2.out.2.2.2.1 i hi5)
            have HPI := Lib.hid (place_le9 l2 (UInt64.ofNat i) HFit2.out)
            have hpi := HPI.out
            have HHo := Lib.hid (fun w' (h : LksB w' (.slice A2 (List.length l2) c2) l2) => holdsL_any now2 _ l2 (UInt64.ofNat i) w' h HFit2.out.2.2.2.1 (by have := HFit2.out.2.2.1; omega))
            have HAO := Lib.hid (alone_one now2 l2 (UInt64.ofNat i) HFit2.out)
            unfold Lc at HHo
            rw [hin] at HHo
            clear hin
            generalize (hasO l2 (UInt64.ofNat i) && !(l2[placeO l2 (UInt64.ofNat i)]?.map Lk.s).getD false) = aln at *
            generalize placeO l2 (UInt64.ofNat i) = pi at *
            cases hh : hasO l2 (UInt64.ofNat i) with
            | true =>
              rw [hh] at HHo HPS
              rw [if_pos rfl] at HPS
              clear hh
              cases al with
              | true =>
                have m0 := (cells2 HMB.out).1
                have m1 := (cells2 HMB.out).2.1
                have ml := (Array.getElem?_eq_some_iff.1 HMB.out).1
                go_wp2_with fail
                clear m0 m1 ml
                refine (HHo.out _ HKm.out.1).mono ?_
                rintro e w6 ⟨rfl, b6⟩
                have HB6 := Lib.hid (HB5.out.trans (b6.mono HB5.out.size))
                clear b6
                go_wp2_with fail
                go_roundw
                case rel => exact ⟨i + 1, by omega, by rw [HPS.out]; go_num, ⟨true, rfl, fun _ => by first | exact HAl.out trivial | exact HAl.out rfl⟩, by go_num, HB6⟩
                case measure => simp [RowKit.intOf]; omega
              | false =>
                have m0 := (cells2 HMB.out).1
                have m1 := (cells2 HMB.out).2.1
                have ml := (Array.getElem?_eq_some_iff.1 HMB.out).1
                go_wp2_with fail
                clear m0 m1 ml
                refine (HHo.out _ HKm.out.1).mono ?_
                rintro e w6 ⟨rfl, b6⟩
                have HB6 := Lib.hid (HB5.out.trans (b6.mono HB5.out.size))
                clear b6
                go_wp2_with fail
                go_roundw
                case rel => exact ⟨i + 1, by omega, by rw [HPS.out]; go_num, ⟨aln, rfl, HAO⟩, by go_num, HB6⟩
                case measure => simp [RowKit.intOf]; omega
            | false =>
              rw [hh] at HHo HPS
              rw [if_neg (by decide), Nat.add_zero] at HPS
              clear hh
              cases al with
              | true =>
                have m0 := (cells2 HMB.out).1
                have m1 := (cells2 HMB.out).2.1
                have ml := (Array.getElem?_eq_some_iff.1 HMB.out).1
                go_wp2_with fail
                clear m0 m1 ml
                refine (HHo.out _ HKm.out.1).mono ?_
                rintro e w6 ⟨rfl, b6⟩
                have HB6 := Lib.hid (HB5.out.trans (b6.mono HB5.out.size))
                clear b6
                go_wp2_with fail
                go_roundw
                case rel => exact ⟨i + 1, by omega, by rw [HPS.out]; go_num, ⟨true, rfl, fun _ => by first | exact HAl.out trivial | exact HAl.out rfl⟩, by go_num, HB6⟩
                case measure => simp [RowKit.intOf]; omega
              | false =>
                have m0 := (cells2 HMB.out).1
                have m1 := (cells2 HMB.out).2.1
                have ml := (Array.getElem?_eq_some_iff.1 HMB.out).1
                go_wp2_with fail
                clear m0 m1 ml
                refine (HHo.out _ HKm.out.1).mono ?_
                rintro e w6 ⟨rfl, b6⟩
                have HB6 := Lib.hid (HB5.out.trans (b6.mono HB5.out.size))
                clear b6
                go_wp2_with fail
                go_roundw
                case rel => exact ⟨i + 1, by omega, by rw [HPS.out]; go_num, ⟨aln, rfl, HAO⟩, by go_num, HB6⟩
                case measure => simp [RowKit.intOf]; omega
          · obtain rfl : i = 5 := by omega
            have hp5 := place_five l2 HFew2.out
            rw [hp5]
            clear hp5
            have HALX := HAl
            cases al with
            | true =>
              have hl1 := HAl.out rfl
              have z2 : (((List.length l2 : Nat) : Int) != ((List.length l2 : Nat) : Int)) = false := by simp
              have z3 : (((List.length l2 : Nat) : Int) != 1) = false := by rw [hl1]; rfl
              have z4 : (List.length l2 != 1) = false := by rw [hl1]; rfl
              clear hl1
              have m0 := (cells2 HMB.out).1
              have m1 := (cells2 HMB.out).2.1
              have ml := (Array.getElem?_eq_some_iff.1 HMB.out).1
              have dd0 : wr.cell? ⟨bd, 0, none⟩ = some (.int .u8 ob.toNat) := by unfold World.cell?; rw [HQD.out]; rfl
              have dl := (Array.getElem?_eq_some_iff.1 HQD.out).1
              go_wp2_with fail
              clear m0 m1 ml
              clear dd0 dl
              have hho := holdsL_any now2 _ l2 (ow5 ob) wr HKm.out.1 HFit2.out.2.2.2.1 (by have := HFit2.out.2.2.1; omega)
              unfold Lc at hho
              generalize (hasO l2 (ow5 ob) && !(l2[placeO l2 (ow5 ob)]?.map Lk.s).getD false) = aln at *
              generalize hasO l2 (ow5 ob) = hd at *
              refine hho.mono ?_
              rintro e w7 ⟨rfl, b7⟩
              have HBX : Hid (w7.heap[W.heap.size]? = some (.cells #[.int .i64 now, .slice Al (List.length l) cl] 27 (0, 0))) := (b7.block _ (Array.getElem?_eq_some_iff.1 HBX.out).1).trans HBX.out
              have HQD : Hid (w7.heap[bd]? = some (.cells #[.int .u8 ob.toNat, .int .u8 kb.toNat, .bool sh, .int .i16 t] 41)) := (b7.block _ (Array.getElem?_eq_some_iff.1 HQD.out).1).trans HQD.out
              have HMB : Hid (w7.heap[bm]? = some (.cells #[.int .i64 now2, .slice A2 (List.length l2) c2] 27)) := (b7.block _ (Array.getElem?_eq_some_iff.1 HMB.out).1).trans HMB.out
              have HKl : Hid (LksN w7 (.slice Al (List.length l) cl) l) := HKl.out.below b7 (Nat.le_refl _)
              have HKm : Hid (LksN w7 (.slice A2 (List.length l2) c2) l2) := HKm.out.below b7 (Nat.le_refl _)
              have HBB : Hid (Below W.heap.size W w7) := HBB.out.trans (b7.mono HBB.out.size)
              clear b7 hho
              have dd1 : w7.cell? ⟨bd, 1, none⟩ = some (.int .u8 kb.toNat) := by unfold World.cell?; rw [HQD.out]; rfl
              have m0 := (cells2 HMB.out).1
              have m1 := (cells2 HMB.out).2.1
              have ml := (Array.getElem?_eq_some_iff.1 HMB.out).1
              have l0 := (cells2 HBX.out).1
              have l1 := (cells2 HBX.out).2.1
              have ll := (Array.getElem?_eq_some_iff.1 HBX.out).1
              have lf0 := (cells2 HBX.out).2.2 0
              have lf1 := (cells2 HBX.out).2.2 1
              have HEND : Hid (AInv W.heap.size W ((w7.setCell ⟨W.heap.size, 0, none⟩ (.int .i64 now2)).setCell ⟨W.heap.size, 1, none⟩ (.slice A2 (List.length l2) c2))) := by
                have g1 : (w7.setCell ⟨W.heap.size, 0, none⟩ (.int .i64 now2)).heap[W.heap.size]? = some (.cells #[.int .i64 now2, .slice Al (List.length l) cl] 27 (0, 0)) := by
                  have := heap_set w7 W.heap.size 0 _ _ _ (.int .i64 now2) HBX.out
                  simpa using this
                have g2 : ((w7.setCell ⟨W.heap.size, 0, none⟩ (.int .i64 now2)).setCell ⟨W.heap.size, 1, none⟩ (.slice A2 (List.length l2) c2)).heap[W.heap.size]? = some (.cells #[.int .i64 now2, .slice A2 (List.length l2) c2] 27 (0, 0)) := by
                  have := heap_set (w7.setCell ⟨W.heap.size, 0, none⟩ (.int .i64 now2)) W.heap.size 1 _ _ _ (.slice A2 (List.length l2) c2) g1
                  simpa using this
                exact ⟨now2, A2, c2, l2, g2, (HKm.out.set_box HBX.out).set_box g1, HFit2.out, HFew2.out, (HBB.out.setCell (p := ⟨W.heap.size, 0, none⟩) (Nat.le_refl _) _).setCell (p := ⟨W.heap.size, 1, none⟩) (Nat.le_refl _) _⟩
              obtain ⟨hk01, hk2'⟩ : (kb.toNat % 5 = 0 ∨ kb.toNat % 5 = 1 → hd = true) ∧ (kb.toNat % 5 = 2 → hd = false) := by first | exact HHold.out trivial | exact HHold.out rfl
              have hkk : ((kb.toNat : Int)).tmod 5 = ((kb.toNat % 5 : Nat) : Int) := by rw [Int.tmod_eq_emod_of_nonneg (by omega)]; omega
              generalize kb.toNat % 5 = kk at *
              by_cases hc1 : kk = 0 ∨ kk = 1
              · obtain rfl := hk01 hc1
                have r1 : decide ((kk : Int) < 2) = true := by simp; omega
                have r1' : decide (kk < 2) = true := by simp; omega
                have r2 : ((kk : Int) == 2) = false := by rw [beq_eq_false_iff_ne]; omega
                have r2' : (kk == 2) = false := by rw [beq_eq_false_iff_ne]; omega
                clear hk01 hk2' hc1
                go_wp2_with fail
                go_roundw
                case rel => exact ⟨j + 1, by omega, by go_num, HEND⟩
                case measure => simp [RowKit.intOf]; omega
              · have r1 : decide ((kk : Int) < 2) = false := by simp; omega
                have r1' : decide (kk < 2) = false := by simp; omega
                by_cases hc2 : kk = 2
                · obtain rfl := hk2' hc2
                  have r2 : ((kk : Int) == 2) = true := by rw [hc2]; rfl
                  have r2' : (kk == 2) = true := by rw [hc2]; rfl
                  clear hk01 hk2' hc1 hc2
                  go_wp2_with fail
                  go_roundw
                  case rel => exact ⟨j + 1, by omega, by go_num, HEND⟩
                  case measure => simp [RowKit.intOf]; omega
                · have r2 : ((kk : Int) == 2) = false := by rw [beq_eq_false_iff_ne]; omega
                  have r2' : (kk == 2) = false := by rw [beq_eq_false_iff_ne]; exact hc2
                  clear hk01 hk2' hc1 hc2
                  go_wp2_with fail
                  go_roundw
                  case rel => exact ⟨j + 1, by omega, by go_num, HEND⟩
                  case measure => simp [RowKit.intOf]; omega
            | false =>
              have z2 : (((List.length l2 : Nat) : Int) != ((List.length l2 : Nat) : Int)) = false := by simp
              have m0 := (cells2 HMB.out).1
              have m1 := (cells2 HMB.out).2.1
              have ml := (Array.getElem?_eq_some_iff.1 HMB.out).1
              have dd0 : wr.cell? ⟨bd, 0, none⟩ = some (.int .u8 ob.toNat) := by unfold World.cell?; rw [HQD.out]; rfl
              have dl := (Array.getElem?_eq_some_iff.1 HQD.out).1
              go_wp2_with fail
              clear m0 m1 ml
              clear dd0 dl
              have hho := holdsL_any now2 _ l2 (ow5 ob) wr HKm.out.1 HFit2.out.2.2.2.1 (by have := HFit2.out.2.2.1; omega)
              unfold Lc at hho
              generalize (hasO l2 (ow5 ob) && !(l2[placeO l2 (ow5 ob)]?.map Lk.s).getD false) = aln at *
              generalize hasO l2 (ow5 ob) = hd at *
              refine hho.mono ?_
              rintro e w7 ⟨rfl, b7⟩
              have HBX : Hid (w7.heap[W.heap.size]? = some (.cells #[.int .i64 now, .slice Al (List.length l) cl] 27 (0, 0))) := (b7.block _ (Array.getElem?_eq_some_iff.1 HBX.out).1).trans HBX.out
              have HQD : Hid (w7.heap[bd]? = some (.cells #[.int .u8 ob.toNat, .int .u8 kb.toNat, .bool sh, .int .i16 t] 41)) := (b7.block _ (Array.getElem?_eq_some_iff.1 HQD.out).1).trans HQD.out
              have HMB : Hid (w7.heap[bm]? = some (.cells #[.int .i64 now2, .slice A2 (List.length l2) c2] 27)) := (b7.block _ (Array.getElem?_eq_some_iff.1 HMB.out).1).trans HMB.out
              have HKl : Hid (LksN w7 (.slice Al (List.length l) cl) l) := HKl.out.below b7 (Nat.le_refl _)
              have HKm : Hid (LksN w7 (.slice A2 (List.length l2) c2) l2) := HKm.out.below b7 (Nat.le_refl _)
              have HBB : Hid (Below W.heap.size W w7) := HBB.out.trans (b7.mono HBB.out.size)
              clear b7 hho
              have dd1 : w7.cell? ⟨bd, 1, none⟩ = some (.int .u8 kb.toNat) := by unfold World.cell?; rw [HQD.out]; rfl
              have m0 := (cells2 HMB.out).1
              have m1 := (cells2 HMB.out).2.1
              have ml := (Array.getElem?_eq_some_iff.1 HMB.out).1
              have l0 := (cells2 HBX.out).1
              have l1 := (cells2 HBX.out).2.1
              have ll := (Array.getElem?_eq_some_iff.1 HBX.out).1
              have lf0 := (cells2 HBX.out).2.2 0
              have lf1 := (cells2 HBX.out).2.2 1
              have HEND : Hid (AInv W.heap.size W ((w7.setCell ⟨W.heap.size, 0, none⟩ (.int .i64 now2)).setCell ⟨W.heap.size, 1, none⟩ (.slice A2 (List.length l2) c2))) := by
                have g1 : (w7.setCell ⟨W.heap.size, 0, none⟩ (.int .i64 now2)).heap[W.heap.size]? = some (.cells #[.int .i64 now2, .slice Al (List.length l) cl] 27 (0, 0)) := by
                  have := heap_set w7 W.heap.size 0 _ _ _ (.int .i64 now2) HBX.out
                  simpa using this
                have g2 : ((w7.setCell ⟨W.heap.size, 0, none⟩ (.int .i64 now2)).setCell ⟨W.heap.size, 1, none⟩ (.slice A2 (List.length l2) c2)).heap[W.heap.size]? = some (.cells #[.int .i64 now2, .slice A2 (List.length l2) c2] 27 (0, 0)) := by
                  have := heap_set (w7.setCell ⟨W.heap.size, 0, none⟩ (.int .i64 now2)) W.heap.size 1 _ _ _ (.slice A2 (List.length l2) c2) g1
                  simpa using this
                exact ⟨now2, A2, c2, l2, g2, (HKm.out.set_box HBX.out).set_box g1, HFit2.out, HFew2.out, (HBB.out.setCell (p := ⟨W.heap.size, 0, none⟩) (Nat.le_refl _) _).setCell (p := ⟨W.heap.size, 1, none⟩) (Nat.le_refl _) _⟩
              obtain ⟨hk01, hk2'⟩ : (kb.toNat % 5 = 0 ∨ kb.toNat % 5 = 1 → hd = true) ∧ (kb.toNat % 5 = 2 → hd = false) := by first | exact HHold.out trivial | exact HHold.out rfl
              have hkk : ((kb.toNat : Int)).tmod 5 = ((kb.toNat % 5 : Nat) : Int) := by rw [Int.tmod_eq_emod_of_nonneg (by omega)]; omega
              generalize kb.toNat % 5 = kk at *
              by_cases hc1 : kk = 0 ∨ kk = 1
              · obtain rfl := hk01 hc1
                have r1 : decide ((kk : Int) < 2) = true := by simp; omega
                have r1' : decide (kk < 2) = true := by simp; omega
                have r2 : ((kk : Int) == 2) = false := by rw [beq_eq_false_iff_ne]; omega
                have r2' : (kk == 2) = false := by rw [beq_eq_false_iff_ne]; omega
                clear hk01 hk2' hc1
                go_wp2_with fail
                go_roundw
                case rel => exact ⟨j + 1, by omega, by go_num, HEND⟩
                case measure => simp [RowKit.intOf]; omega
              · have r1 : decide ((kk : Int) < 2) = false := by simp; omega
                have r1' : decide (kk < 2) = false := by simp; omega
                by_cases hc2 : kk = 2
                · obtain rfl := hk2' hc2
                  have r2 : ((kk : Int) == 2) = true := by rw [hc2]; rfl
                  have r2' : (kk == 2) = true := by rw [hc2]; rfl
                  clear hk01 hk2' hc1 hc2
                  go_wp2_with fail
                  go_roundw
                  case rel => exact ⟨j + 1, by omega, by go_num, HEND⟩
                  case measure => simp [RowKit.intOf]; omega
                · have r2 : ((kk : Int) == 2) = false := by rw [beq_eq_false_iff_ne]; omega
                  have r2' : (kk == 2) = false := by rw [beq_eq_false_iff_ne]; exact hc2
                  clear hk01 hk2' hc1 hc2
                  go_wp2_with fail
                  go_roundw
                  case rel => exact ⟨j + 1, by omega, by go_num, HEND⟩
                  case measure => simp [RowKit.intOf]; omega
      · clear HHold
        have hz1 : ((ea : Int) != 0) = true := by rw [bne_iff_ne]; exact hea
        have hz2 : ((ea : Int) == 0) = false := by rw [beq_eq_false_iff_ne]; exact hea
        obtain ⟨rfl, rfl⟩ := HErr.out hea
        have l0 := (cells2 HBX.out).1
        have l1 := (cells2 HBX.out).2.1
        have ll := (Array.getElem?_eq_some_iff.1 HBX.out).1
        go_wp2_with fail
        clear l0 l1 ll
        obtain ⟨w3, hw3⟩ : ∃ w3, w3 = w2.alloc (.cells #[.int .i64 now2, .slice A2 (List.length l2) c2] 27) := ⟨_, rfl⟩
        have hal : Below w2.heap.size w2 w3 := by rw [hw3]; exact (Below.refl _ _).alloc (Nat.le_refl _) _
        have hnb : w3.heap[w2.heap.size]? = some (.cells #[.int .i64 now2, .slice A2 (List.length l2) c2] 27) := by rw [hw3]; exact heap_alloc_new _ _
        obtain ⟨bm, hbm⟩ : ∃ bm, bm = w2.heap.size := ⟨_, rfl⟩
        rw [← hbm] at hnb
        rw [← hw3, ← hbm]
        have HMB := Lib.hid hnb
        have HBX : Hid (w3.heap[W.heap.size]? = some (.cells #[.int .i64 now2, .slice Al (List.length l2) cl] 27 (0, 0))) := (hal.block _ (Array.getElem?_eq_some_iff.1 HBX.out).1).trans HBX.out
        have HQD : Hid (w3.heap[bd]? = some (.cells #[.int .u8 ob.toNat, .int .u8 kb.toNat, .bool sh, .int .i16 t] 41)) := (hal.block _ (Array.getElem?_eq_some_iff.1 HQD.out).1).trans HQD.out
        have HKl : Hid (LksN w3 (.slice Al (List.length l2) cl) l2) := HKl.out.below hal (Nat.le_refl _)
        have HKm : Hid (LksN w3 (.slice A2 (List.length l2) c2) l2) := HKm.out.below hal (Nat.le_refl _)
        have HBB : Hid (Below W.heap.size W w3) := HBB.out.trans (hal.mono HBB.out.size)
        clear hw3 hal hnb hbm
        refine (sameT now2 HKm.out.1 HKl.out.1).mono ?_
        rintro e w4 ⟨rfl, b4⟩
        have HBX : Hid (w4.heap[W.heap.size]? = some (.cells #[.int .i64 now2, .slice Al (List.length l2) cl] 27 (0, 0))) := (b4.block _ (Array.getElem?_eq_some_iff.1 HBX.out).1).trans HBX.out
        have HQD : Hid (w4.heap[bd]? = some (.cells #[.int .u8 ob.toNat, .int .u8 kb.toNat, .bool sh, .int .i16 t] 41)) := (b4.block _ (Array.getElem?_eq_some_iff.1 HQD.out).1).trans HQD.out
        have HMB : Hid (w4.heap[bm]? = some (.cells #[.int .i64 now2, .slice A2 (List.length l2) c2] 27)) := (b4.block _ (Array.getElem?_eq_some_iff.1 HMB.out).1).trans HMB.out
        have HKl : Hid (LksN w4 (.slice Al (List.length l2) cl) l2) := HKl.out.below b4 (Nat.le_refl _)
        have HKm : Hid (LksN w4 (.slice A2 (List.length l2) c2) l2) := HKm.out.below b4 (Nat.le_refl _)
        have HBB : Hid (Below W.heap.size W w4) := HBB.out.trans (b4.mono HBB.out.size)
        clear b4
        have m0 := (cells2 HMB.out).1
        have m1 := (cells2 HMB.out).2.1
        have ml := (Array.getElem?_eq_some_iff.1 HMB.out).1
        go_wp2_with fail
        clear m0 m1 ml
        refine (fit_calls (fb := true) (rfit_any now2 _ l2 _ HKm.out.1) ⟨fun _ => HFit2.out, fun _ => rfl⟩).mono ?_
        rintro e w5 ⟨rfl, b5⟩
        have HBX : Hid (w5.heap[W.heap.size]? = some (.cells #[.int .i64 now2, .slice Al (List.length l2) cl] 27 (0, 0))) := (b5.block _ (Array.getElem?_eq_some_iff.1 HBX.out).1).trans HBX.out
        have HQD : Hid (w5.heap[bd]? = some (.cells #[.int .u8 ob.toNat, .int .u8 kb.toNat, .bool sh, .int .i16 t] 41)) := (b5.block _ (Array.getElem?_eq_some_iff.1 HQD.out).1).trans HQD.out
        have HMB : Hid (w5.heap[bm]? = some (.cells #[.int .i64 now2, .slice A2 (List.length l2) c2] 27)) := (b5.block _ (Array.getElem?_eq_some_iff.1 HMB.out).1).trans HMB.out
        have HKl : Hid (LksN w5 (.slice Al (List.length l2) cl) l2) := HKl.out.below b5 (Nat.le_refl _)
        have HKm : Hid (LksN w5 (.slice A2 (List.length l2) c2) l2) := HKm.out.below b5 (Nat.le_refl _)
        have HBB : Hid (Below W.heap.size W w5) := HBB.out.trans (b5.mono HBB.out.size)
        clear b5
        have hnow := HNow.out
        have z1 : decide (now2 < now2) = false := by first | (simp; done) | (simp; omega)
        clear hnow
        have m0 := (cells2 HMB.out).1
        have m1 := (cells2 HMB.out).2.1
        have ml := (Array.getElem?_eq_some_iff.1 HMB.out).1
        have l0 := (cells2 HBX.out).1
        have l1 := (cells2 HBX.out).2.1
        have ll := (Array.getElem?_eq_some_iff.1 HBX.out).1
        go_wp2_with fail
        clear m0 m1 ml
        clear l0 l1 ll
        clear z1
        go_loopw [8, 9, 51] (fun u q a wr' => ∃ i : Nat, i ≤ 5 ∧ u = .int .i64 (placeO l2 (UInt64.ofNat i) : Nat) ∧ (∃ al : Bool, q = .bool al ∧ Hid (al = true → l2.length = 1)) ∧ a = .int .u64 i ∧ Hid (Below w5.heap.size w5 wr')) (fun _ _ a _ => 5 - (RowKit.intOf a).toNat)
        case atStart => exact ⟨0, by omega, by rw [place_zero]; rfl, ⟨false, rfl, fun h => by cases h⟩, rfl, Below.refl _ _⟩
        case round =>
          obtain ⟨i, hi, rfl, ⟨al, rfl, HAl⟩, rfl, HB5⟩ := hrel
          have HBX : Hid (wr.heap[W.heap.size]? = some (.cells #[.int .i64 now2, .slice Al (List.length l2) cl] 27 (0, 0))) := (HB5.out.block _ (Array.getElem?_eq_some_iff.1 HBX.out).1).trans HBX.out
          have HQD : Hid (wr.heap[bd]? = some (.cells #[.int .u8 ob.toNat, .int .u8 kb.toNat, .bool sh, .int .i16 t] 41)) := (HB5.out.block _ (Array.getElem?_eq_some_iff.1 HQD.out).1).trans HQD.out
          have HMB : Hid (wr.heap[bm]? = some (.cells #[.int .i64 now2, .slice A2 (List.length l2) c2] 27)) := (HB5.out.block _ (Array.getElem?_eq_some_iff.1 HMB.out).1).trans HMB.out
          have HKl : Hid (LksN wr (.slice Al (List.length l2) cl) l2) := HKl.out.below HB5.out (Nat.le_refl _)
          have HKm : Hid (LksN wr (.slice A2 (List.length l2) c2) l2) := HKm.out.below HB5.out (Nat.le_refl _)
          have HBB : Hid (Below W.heap.size W wr) := HBB.out.trans (HB5.out.mono HBB.out.size)
          by_cases hi5 : i < 5
          · have hi' : (i : Int) < 5 := by omega
            have hi0 : (0 : Int) ≤ (i : Int) := by omega
            have hin : (UInt64.ofNat i).toNat = i := by rw [UInt64.toNat_ofNat']; omega
            have HPS := Lib.hid (place_succ l2 HFit2.out.2.2.2.1 i hi5)
            have HPI := Lib.hid (place_le9 l2 (UInt64.ofNat i) HFit2.out)
            have hpi := HPI.out
            have HHo := Lib.hid (fun w' (h : LksB w' (.slice A2 (List.length l2) c2) l2) => holdsL_any now2 _ l2 (UInt64.ofNat i) w' h HFit2.out.2.2.2.1 (by have := HFit2.out.2.2.1; omega))
            have HAO := Lib.hid (alone_one now2 l2 (UInt64.ofNat i) HFit2.out)
            unfold Lc at HHo
            rw [hin] at HHo
            clear hin
            generalize (hasO l2 (UInt64.ofNat i) && !(l2[placeO l2 (UInt64.ofNat i)]?.map Lk.s).getD false) = aln at *
            generalize placeO l2 (UInt64.ofNat i) = pi at *
            cases hh : hasO l2 (UInt64.ofNat i) with
            | true =>
              rw [hh] at HHo HPS
              rw [if_pos rfl] at HPS
              clear hh
              cases al with
              | true =>
                have m0 := (cells2 HMB.out).1
                have m1 := (cells2 HMB.out).2.1
                have ml := (Array.getElem?_eq_some_iff.1 HMB.out).1
                go_wp2_with fail
                clear m0 m1 ml
                refine (HHo.out _ HKm.out.1).mono ?_
                rintro e w6 ⟨rfl, b6⟩
                have HB6 := Lib.hid (HB5.out.trans (b6.mono HB5.out.size))
                clear b6
                go_wp2_with fail
                go_roundw
                case rel => exact ⟨i + 1, by omega, by rw [HPS.out]; go_num, ⟨true, rfl, fun _ => by first | exact HAl.out trivial | exact HAl.out rfl⟩, by go_num, HB6⟩
                case measure => simp [RowKit.intOf]; omega
              | false =>
                have m0 := (cells2 HMB.out).1
                have m1 := (cells2 HMB.out).2.1
                have ml := (Array.getElem?_eq_some_iff.1 HMB.out).1
                go_wp2_with fail
                clear m0 m1 ml
                refine (HHo.out _ HKm.out.1).mono ?_
                rintro e w6 ⟨rfl, b6⟩
                have HB6 := Lib.hid (HB5.out.trans (b6.mono HB5.out.size))
                clear b6
                go_wp2_with fail
                go_roundw
                case rel => exact ⟨i + 1, by omega, by rw [HPS.out]; go_num, ⟨aln, rfl, HAO⟩, by go_num, HB6⟩
                case measure => simp [RowKit.intOf]; omega
            | false =>
              rw [hh] at HHo HPS
              rw [if_neg (by decide), Nat.add_zero] at HPS
              clear hh
              cases al with
              | true =>
                have m0 := (cells2 HMB.out).1
                have m1 := (cells2 HMB.out).2.1
                have ml := (Array.getElem?_eq_some_iff.1 HMB.out).1
                go_wp2_with fail
                clear m0 m1 ml
                refine (HHo.out _ HKm.out.1).mono ?_
                rintro e w6 ⟨rfl, b6⟩
                have HB6 := Lib.hid (HB5.out.trans (b6.mono HB5.out.size))
                clear b6
                go_wp2_with fail
                go_roundw
                case rel => exact ⟨i + 1, by omega, by rw [HPS.out]; go_num, ⟨true, rfl, fun _ => by first | exact HAl.out trivial | exact HAl.out rfl⟩, by go_num, HB6⟩
                case measure => simp [RowKit.intOf]; omega
              | false =>
                have m0 := (cells2 HMB.out).1
                have m1 := (cells2 HMB.out).2.1
                have ml := (Array.getElem?_eq_some_iff.1 HMB.out).1
                go_wp2_with fail
                clear m0 m1 ml
                refine (HHo.out _ HKm.out.1).mono ?_
                rintro e w6 ⟨rfl, b6⟩
                have HB6 := Lib.hid (HB5.out.trans (b6.mono HB5.out.size))
                clear b6
                go_wp2_with fail
                go_roundw
                case rel => exact ⟨i + 1, by omega, by rw [HPS.out]; go_num, ⟨aln, rfl, HAO⟩, by go_num, HB6⟩
                case measure => simp [RowKit.intOf]; omega
          · obtain rfl : i = 5 := by omega
            have hp5 := place_five l2 HFew2.out
            rw [hp5]
            clear hp5
            have HALX := HAl
            cases al with
            | true =>
              have hl1 := HAl.out rfl
              have z2 : (((List.length l2 : Nat) : Int) != ((List.length l2 : Nat) : Int)) = false := by simp
              have z3 : (((List.length l2 : Nat) : Int) != 1) = false := by rw [hl1]; rfl
              have z4 : (List.length l2 != 1) = false := by rw [hl1]; rfl
              clear hl1
              have m0 := (cells2 HMB.out).1
              have m1 := (cells2 HMB.out).2.1
              have ml := (Array.getElem?_eq_some_iff.1 HMB.out).1
              have dd0 : wr.cell? ⟨bd, 0, none⟩ = some (.int .u8 ob.toNat) := by unfold World.cell?; rw [HQD.out]; rfl
              have dl := (Array.getElem?_eq_some_iff.1 HQD.out).1
              go_wp2_with fail
              clear m0 m1 ml
              clear dd0 dl
              have hho := holdsL_any now2 _ l2 (ow5 ob) wr HKm.out.1 HFit2.out.2.2.2.1 (by have := HFit2.out.2.2.1; omega)
              unfold Lc at hho
              generalize (hasO l2 (ow5 ob) && !(l2[placeO l2 (ow5 ob)]?.map Lk.s).getD false) = aln at *
              generalize hasO l2 (ow5 ob) = hd at *
              refine hho.mono ?_
              rintro e w7 ⟨rfl, b7⟩
              have HBX : Hid (w7.heap[W.heap.size]? = some (.cells #[.int .i64 now2, .slice Al (List.length l2) cl] 27 (0, 0))) := (b7.block _ (Array.getElem?_eq_some_iff.1 HBX.out).1).trans HBX.out
              have HQD : Hid (w7.heap[bd]? = some (.cells #[.int .u8 ob.toNat, .int .u8 kb.toNat, .bool sh, .int .i16 t] 41)) := (b7.block _ (Array.getElem?_eq_some_iff.1 HQD.out).1).trans HQD.out
              have HMB : Hid (w7.heap[bm]? = some (.cells #[.int .i64 now2, .slice A2 (List.length l2) c2] 27)) := (b7.block _ (Array.getElem?_eq_some_iff.1 HMB.out).1).trans HMB.out
              have HKl : Hid (LksN w7 (.slice Al (List.length l2) cl) l2) := HKl.out.below b7 (Nat.le_refl _)
              have HKm : Hid (LksN w7 (.slice A2 (List.length l2) c2) l2) := HKm.out.below b7 (Nat.le_refl _)
              have HBB : Hid (Below W.heap.size W w7) := HBB.out.trans (b7.mono HBB.out.size)
              clear b7 hho
              have dd1 : w7.cell? ⟨bd, 1, none⟩ = some (.int .u8 kb.toNat) := by unfold World.cell?; rw [HQD.out]; rfl
              have m0 := (cells2 HMB.out).1
              have m1 := (cells2 HMB.out).2.1
              have ml := (Array.getElem?_eq_some_iff.1 HMB.out).1
              have l0 := (cells2 HBX.out).1
              have l1 := (cells2 HBX.out).2.1
              have ll := (Array.getElem?_eq_some_iff.1 HBX.out).1
              have lf0 := (cells2 HBX.out).2.2 0
              have lf1 := (cells2 HBX.out).2.2 1
              have HEND : Hid (AInv W.heap.size W ((w7.setCell ⟨W.heap.size, 0, none⟩ (.int .i64 now2)).setCell ⟨W.heap.size, 1, none⟩ (.slice A2 (List.length l2) c2))) := by
                have g1 : (w7.setCell ⟨W.heap.size, 0, none⟩ (.int .i64 now2)).heap[W.heap.size]? = some (.cells #[.int .i64 now2, .slice Al (List.length l2) cl] 27 (0, 0)) := by
                  have := heap_set w7 W.heap.size 0 _ _ _ (.int .i64 now2) HBX.out
                  simpa using this
                have g2 : ((w7.setCell ⟨W.heap.size, 0, none⟩ (.int .i64 now2)).setCell ⟨W.heap.size, 1, none⟩ (.slice A2 (List.length l2) c2)).heap[W.heap.size]? = some (.cells #[.int .i64 now2, .slice A2 (List.length l2) c2] 27 (0, 0)) := by
                  have := heap_set (w7.setCell ⟨W.heap.size, 0, none⟩ (.int .i64 now2)) W.heap.size 1 _ _ _ (.slice A2 (List.length l2) c2) g1
                  simpa using this
                exact ⟨now2, A2, c2, l2, g2, (HKm.out.set_box HBX.out).set_box g1, HFit2.out, HFew2.out, (HBB.out.setCell (p := ⟨W.heap.size, 0, none⟩) (Nat.le_refl _) _).setCell (p := ⟨W.heap.size, 1, none⟩) (Nat.le_refl _) _⟩
              go_wp2_with fail
              go_roundw
              case rel => exact ⟨j + 1, by omega, by go_num, HEND⟩
              case measure => simp [RowKit.intOf]; omega
            | false =>
              have z2 : (((List.length l2 : Nat) : Int) != ((List.length l2 : Nat) : Int)) = false := by simp
              have m0 := (cells2 HMB.out).1
              have m1 := (cells2 HMB.out).2.1
              have ml := (Array.getElem?_eq_some_iff.1 HMB.out).1
              have dd0 : wr.cell? ⟨bd, 0, none⟩ = some (.int .u8 ob.toNat) := by unfold World.cell?; rw [HQD.out]; rfl
              have dl := (Array.getElem?_eq_some_iff.1 HQD.out).1
              go_wp2_with fail
              clear m0 m1 ml
              clear dd0 dl
              have hho := holdsL_any now2 _ l2 (ow5 ob) wr HKm.out.1 HFit2.out.2.2.2.1 (by have := HFit2.out.2.2.1; omega)
              unfold Lc at hho
              generalize (hasO l2 (ow5 ob) && !(l2[placeO l2 (ow5 ob)]?.map Lk.s).getD false) = aln at *
              generalize hasO l2 (ow5 ob) = hd at *
              refine hho.mono ?_
              rintro e w7 ⟨rfl, b7⟩
              have HBX : Hid (w7.heap[W.heap.size]? = some (.cells #[.int .i64 now2, .slice Al (List.length l2) cl] 27 (0, 0))) := (b7.block _ (Array.getElem?_eq_some_iff.1 HBX.out).1).trans HBX.out
              have HQD : Hid (w7.heap[bd]? = some (.cells #[.int .u8 ob.toNat, .int .u8 kb.toNat, .bool sh, .int .i16 t] 41)) := (b7.block _ (Array.getElem?_eq_some_iff.1 HQD.out).1).trans HQD.out
              have HMB : Hid (w7.heap[bm]? = some (.cells #[.int .i64 now2, .slice A2 (List.length l2) c2] 27)) := (b7.block _ (Array.getElem?_eq_some_iff.1 HMB.out).1).trans HMB.out
              have HKl : Hid (LksN w7 (.slice Al (List.length l2) cl) l2) := HKl.out.below b7 (Nat.le_refl _)
              have HKm : Hid (LksN w7 (.slice A2 (List.length l2) c2) l2) := HKm.out.below b7 (Nat.le_refl _)
              have HBB : Hid (Below W.heap.size W w7) := HBB.out.trans (b7.mono HBB.out.size)
              clear b7 hho
              have dd1 : w7.cell? ⟨bd, 1, none⟩ = some (.int .u8 kb.toNat) := by unfold World.cell?; rw [HQD.out]; rfl
              have m0 := (cells2 HMB.out).1
              have m1 := (cells2 HMB.out).2.1
              have ml := (Array.getElem?_eq_some_iff.1 HMB.out).1
              have l0 := (cells2 HBX.out).1
              have l1 := (cells2 HBX.out).2.1
              have ll := (Array.getElem?_eq_some_iff.1 HBX.out).1
              have lf0 := (cells2 HBX.out).2.2 0
              have lf1 := (cells2 HBX.out).2.2 1
              have HEND : Hid (AInv W.heap.size W ((w7.setCell ⟨W.heap.size, 0, none⟩ (.int .i64 now2)).setCell ⟨W.heap.size, 1, none⟩ (.slice A2 (List.length l2) c2))) := by
                have g1 : (w7.setCell ⟨W.heap.size, 0, none⟩ (.int .i64 now2)).heap[W.heap.size]? = some (.cells #[.int .i64 now2, .slice Al (List.length l2) cl] 27 (0, 0)) := by
                  have := heap_set w7 W.heap.size 0 _ _ _ (.int .i64 now2) HBX.out
                  simpa using this
                have g2 : ((w7.setCell ⟨W.heap.size, 0, none⟩ (.int .i64 now2)).setCell ⟨W.heap.size, 1, none⟩ (.slice A2 (List.length l2) c2)).heap[W.heap.size]? = some (.cells #[.int .i64 now2, .slice A2 (List.length l2) c2] 27 (0, 0)) := by
                  have := heap_set (w7.setCell ⟨W.heap.size, 0, none⟩ (.int .i64 now2)) W.heap.size 1 _ _ _ (.slice A2 (List.length l2) c2) g1
                  simpa using this
                exact ⟨now2, A2, c2, l2, g2, (HKm.out.set_box HBX.out).set_box g1, HFit2.out, HFew2.out, (HBB.out.setCell (p := ⟨W.heap.size, 0, none⟩) (Nat.le_refl _) _).setCell (p := ⟨W.heap.size, 1, none⟩) (Nat.le_refl _) _⟩
              go_wp2_with fail
              go_roundw
              case rel => exact ⟨j + 1, by omega, by go_num, HEND⟩
              case measure => simp [RowKit.intOf]; omega
    · obtain rfl : j = n := by omega
      have HBW := Lib.hid hbw
      clear hbx hk hfit hfew hbw
      go_wp2_with fail
      refine (HA.out _).mono ?_
      rintro e w2 ⟨rfl, b2⟩
      have HB3 := Lib.hid (HBW.out.trans (b2.mono HBW.out.size))
      go_wp2_with fail
      go_ret
      exact ⟨rfl, HB3.out⟩
theorem leaseAlone_ok (W : World) (A0 : Option Addr) (n0 c0 : Nat) (x0 : List (UInt8 × UInt8 × Bool × Int)) (w0 : Sl W A0 n0 c0 4 (x0.flatMap (ES4 EU8 EU8 EBool (EInt .i16))) ∧ x0.length = n0 ∧ (A0 = none → c0 = 0) ∧ ∀ y ∈ x0, True ∧ True ∧ True ∧ (-32768 ≤ y.2.2.2 ∧ y.2.2.2 ≤ 32767)) :
    Calls Try.prog 4 #[.slice A0 n0 c0] W fun e w' => e = .returned (.bool true) ∧ Below W.heap.size W w' := by
  obtain ⟨s, hl, _, hb⟩ := w0
  refine alone_main W A0 n0 c0 x0 hl.symm s.le s.cap (fun h => ?_) (fun d hd => (hb d hd).2.2.2)
  obtain ⟨b, off, e1, e2, e3⟩ := s.cells (by omega)
  refine ⟨b, off, e1, e2, fun i hi => ?_⟩
  obtain ⟨g1, g2, g3, g4⟩ := do_get x0 i hi
  exact ⟨(e3 (i * 4) (by omega)).trans g1, by rw [Nat.add_assoc]; exact (e3 (i * 4 + 1) (by omega)).trans g2, by rw [Nat.add_assoc]; exact (e3 (i * 4 + 2) (by omega)).trans g3, by rw [Nat.add_assoc]; exact (e3 (i * 4 + 3) (by omega)).trans g4⟩
end Go.Proofs.Ytffnkgfpbjmkbaa
