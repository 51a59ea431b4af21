/- siloref46: Renew, Turn, Ask, Release, Pass at any locks. -/
import Derived.Test.YtffnkgfpbjmkbaaLkR3
namespace Go.Proofs.Ytffnkgfpbjmkbaa
open Go.RowKit
set_option linter.unusedVariables false
set_option linter.unusedSimpArgs false
theorem withL_no (l : List Lk) (x : Lk) (h : hasO l x.o = false) : withL l x = insL l (placeO l x.o) x := by
  unfold withL insL hN
  rw [h]; simp
theorem withL_yes (l : List Lk) (x : Lk) (h : hasO l x.o = true) : withL l x = l.set (placeO l x.o) x := by
  have hlt := hasO_lt h
  unfold withL hN
  rw [if_pos h, List.set_eq_take_append_cons_drop, if_pos hlt]
  simp
set_option maxRecDepth 20000 in
set_option maxHeartbeats 4000000 in
theorem rrenew_any (now : Int) (v : Value) (l : List Lk) (owner : UInt64) (ticks : Int) (w : World) (hv : LksN w v l) (hr : RisO l) (hl : l.length ≤ 100000) (h0 : 0 ≤ now) (h1 : now ≤ 1000000000000) :
    Calls Try.prog 17 #[Lc now v, .int .u64 owner.toNat, .int .i64 ticks] w fun e w' => ∃ v', e = .returned (.tuple #[Lc now v', .int .i64 (renP now l owner ticks).2]) ∧ LksN w' v' (renP now l owner ticks).1 ∧ Below w.heap.size w w' := by
  have HT := Lib.hid (rtick_any ticks)
  have HV := Lib.hid hv
  have HR := Lib.hid hr
  have HPL := Lib.hid (@hasO_lt l owner)
  have HPE := Lib.hid (@hasO_at l owner)
  have HP := Lib.hid (fun w' (b : Below w.heap.size w w') => rplace_any now v l owner w' (hv.1.below b (Nat.le_refl _)) hr (by omega))
  have HWI := Lib.hid (fun (x : Lk) w' (b : Below w.heap.size w w') => rwith_any now v l x w' (hv.1.below b (Nat.le_refl _)) hr hl)
  obtain ⟨A, c, rfl, h2, h3, h4⟩ := hv.1
  have hc9 : c ≤ 9223372036854775807 := by unfold maxLen at h3; omega
  have HC := Lib.hid h4
  obtain ⟨n, hn⟩ : ∃ n, n = l.length := ⟨_, rfl⟩
  have HN := Lib.hid hn
  rw [← hn] at h2 HV HP HWI
  unfold Lc at HP HWI ⊢
  rw [← hn]
  have hln : n ≤ 100000 := by omega
  clear hn h3 h4 hv hr hl
  have HB2 : Hid (Below w.heap.size w ((w.alloc (.cells #[.int .i64 now, .slice A n c] 27)).alloc (.cells #[.int .i64 0, .slice none 0 0] 27))) := ((Below.refl _ _).alloc (Nat.le_refl _) _).alloc (by simp) _
  have HSZ : Hid (((w.alloc (.cells #[.int .i64 now, .slice A n c] 27)).alloc (.cells #[.int .i64 0, .slice none 0 0] 27)).heap.size = w.heap.size + 2) := by unfold Hid; simp
  have q2 : ((w.alloc (.cells #[.int .i64 now, .slice A n c] 27)).alloc (.cells #[.int .i64 0, .slice none 0 0] 27)).heap[w.heap.size + 1]? = some (.cells #[.int .i64 0, .slice none 0 0] 27) := by
    have := heap_alloc_new (w.alloc (.cells #[.int .i64 now, .slice A n c] 27)) (.cells #[.int .i64 0, .slice none 0 0] 27)
    simpa using this
  have q1 : ((w.alloc (.cells #[.int .i64 now, .slice A n c] 27)).alloc (.cells #[.int .i64 0, .slice none 0 0] 27)).heap[w.heap.size]? = some (.cells #[.int .i64 now, .slice A n c] 27) := by
    rw [heap_alloc_old _ _ (by simp)]
    exact heap_alloc_new _ _
  obtain ⟨wE, hwE⟩ : ∃ wE, wE = ((w.alloc (.cells #[.int .i64 now, .slice A n c] 27)).alloc (.cells #[.int .i64 0, .slice none 0 0] 27)) := ⟨_, rfl⟩
  rw [← hwE] at HB2 HSZ q1 q2
  have HWE := Lib.hid hwE.symm
  clear hwE
  have AT : Hid (Hid (∀ w', Below wE.heap.size wE w' → w'.cell? ⟨w.heap.size, 0, none⟩ = some (.int .i64 now) ∧ w'.cell? ⟨w.heap.size, 1, none⟩ = some (.slice A n c) ∧ w'.cell? ⟨w.heap.size + 1, 0, none⟩ = some (.int .i64 0) ∧ w'.cell? ⟨w.heap.size + 1, 1, none⟩ = some (.slice none 0 0) ∧ (∀ j, w'.frozen? ⟨w.heap.size, j, none⟩ = false) ∧ (∀ j, w'.frozen? ⟨w.heap.size + 1, j, none⟩ = false) ∧ Below w.heap.size w w' ∧ w.heap.size + 2 ≤ w'.heap.size)) := by
    intro w' b
    have hs := HSZ.out
    have e1 := cells2 (w := w') ((b.block _ (by omega)).trans q1)
    have e2 := cells2 (w := w') ((b.block _ (by omega)).trans q2)
    exact ⟨e1.1, e1.2.1, e2.1, e2.2.1, e1.2.2, e2.2.2, HB2.out.trans (b.mono HB2.out.size), by have := b.size; omega⟩
  clear q1 q2
  unfold renP
  unfold plI at HP
  cases ht : tickB ticks with
  | false =>
    rw [ht] at HT
    rw [if_pos rfl]
    clear ht
    generalize (if hasO l owner = true then ((placeO l owner : Nat) : Int) else -1) = pz at *
    go_enter Try.func17, Try.ntmps17
    go_wp2_with fail
    rw [HWE.out]
    refine (HP.out _ (AT.out _ (Below.refl _ _)).2.2.2.2.2.2.1).mono ?_
    rintro e w1 ⟨rfl, b1⟩
    have HB1 := Lib.hid b1
    obtain ⟨X0, X1, R0, R1, FX, FR, bw, hsz⟩ := AT.out _ b1
    have HBW1 := Lib.hid bw
    clear b1 bw
    go_wp2_with fail
    refine (HT.out _).mono ?_
    rintro e w' ⟨rfl, rfl⟩
    have FR0 := FR 0
    have FR1 := FR 1
    have HEND : Hid (Below w.heap.size w ((w1.setCell ⟨w.heap.size + 1, 0, none⟩ (.int .i64 now)).setCell ⟨w.heap.size + 1, 1, none⟩ (.slice A n c))) := (HBW1.out.setCell (p := ⟨w.heap.size + 1, 0, none⟩) (by dsimp only; omega) _).setCell (p := ⟨w.heap.size + 1, 1, none⟩) (by dsimp only; omega) _
    clear FX FR
    go_wp2_with fail
    (try simp only [Exit.inBlock, Exit.then])
    refine bodyPost_cell (V := .agg #[.int .i64 now, .slice A n c]) rfl rfl ?_ rfl ?_
    · go_simp
    · exact ⟨_, rfl, HV.out.below HEND.out (Nat.le_refl _), HEND.out⟩
  | true =>
    rw [ht] at HT
    rw [if_neg (by decide)]
    have HTB : 0 < ticks ∧ ticks ≤ 1000 := by unfold tickB at ht; simpa using ht
    obtain ⟨ht0, ht1⟩ := HTB
    clear ht
    cases hh : hasO l owner with
    | false =>
      rw [hh, if_neg (by decide)] at HP
      rw [if_neg (by decide)]
      clear hh
      go_enter Try.func17, Try.ntmps17
      go_wp2_with fail
      rw [HWE.out]
      refine (HP.out _ (AT.out _ (Below.refl _ _)).2.2.2.2.2.2.1).mono ?_
      rintro e w1 ⟨rfl, b1⟩
      have HB1 := Lib.hid b1
      obtain ⟨X0, X1, R0, R1, FX, FR, bw, hsz⟩ := AT.out _ b1
      have HBW1 := Lib.hid bw
      clear b1 bw
      go_wp2_with fail
      refine (HT.out _).mono ?_
      rintro e w' ⟨rfl, rfl⟩
      have FR0 := FR 0
      have FR1 := FR 1
      have HEND : Hid (Below w.heap.size w ((w1.setCell ⟨w.heap.size + 1, 0, none⟩ (.int .i64 now)).setCell ⟨w.heap.size + 1, 1, none⟩ (.slice A n c))) := (HBW1.out.setCell (p := ⟨w.heap.size + 1, 0, none⟩) (by dsimp only; omega) _).setCell (p := ⟨w.heap.size + 1, 1, none⟩) (by dsimp only; omega) _
      clear FX FR
      go_wp2_with fail
      (try simp only [Exit.inBlock, Exit.then])
      refine bodyPost_cell (V := .agg #[.int .i64 now, .slice A n c]) rfl rfl ?_ rfl ?_
      · go_simp
      · exact ⟨_, rfl, HV.out.below HEND.out (Nat.le_refl _), HEND.out⟩
    | true =>
      have hpl := HPL.out hh
      have hpe := HPE.out hh
      rw [hh, if_pos rfl] at HP
      rw [if_pos rfl]
      have HYES : Hid (withL l ⟨owner, (l[placeO l owner]'hpl).s, now + ticks⟩ = setU l (placeO l owner) (now + ticks)) := by
        have h := withL_yes l ⟨owner, (l[placeO l owner]'hpl).s, now + ticks⟩ hh
        unfold Hid
        rw [h, ← setU_eq l _ hpl, hpe]
      go_enter Try.func17, Try.ntmps17
      go_wp2_with fail
      rw [HWE.out]
      refine (HP.out _ (AT.out _ (Below.refl _ _)).2.2.2.2.2.2.1).mono ?_
      rintro e w1 ⟨rfl, b1⟩
      have HB1 := Lib.hid b1
      obtain ⟨X0, X1, R0, R1, FX, FR, bw, hsz⟩ := AT.out _ b1
      have HBW1 := Lib.hid bw
      clear b1 bw
      obtain ⟨b, off, rfl, hblt, hcells⟩ := HC.out (by have := HN.out; omega)
      obtain ⟨z1, z2, z3⟩ := hcells _ hpl
      have y1 := (HBW1.out.cell (p := ⟨b, off + placeO l owner * 3, none⟩) hblt).trans z1
      have y2 := (HBW1.out.cell (p := ⟨b, off + placeO l owner * 3 + 1, none⟩) hblt).trans z2
      have y3 := (HBW1.out.cell (p := ⟨b, off + placeO l owner * 3 + 2, none⟩) hblt).trans z3
      clear z1 z2 z3
      have hb1 : b < w1.heap.size := Nat.lt_of_lt_of_le hblt HBW1.out.size
      have hlt1 : w.heap.size < w1.heap.size := by omega
      have hp0 : (0 : Int) ≤ (placeO l owner : Int) := by omega
      have hp1 : (placeO l owner : Int) < (n : Int) := by have := HN.out; omega
      have hp2 : ¬ ((placeO l owner : Int) < 0) := by omega
      rw [hpe] at y1
      generalize hys : (l[placeO l owner]'hpl).s = ys at *
      generalize (l[placeO l owner]'hpl).u = yu at *
      obtain ⟨i, hie⟩ : ∃ i, i = placeO l owner := ⟨_, rfl⟩
      rw [← hie] at y1 y2 y3 hp0 hp1 hp2
      rw [← hie]
      clear HPE HPL HR hcells hpl hpe hys hh hie
      have HBA : Hid (Below w1.heap.size w1 (w1.alloc (.cells #[.int .u64 owner.toNat, .bool ys, .int .i64 yu] 62))) := (Below.refl _ _).alloc (Nat.le_refl _) _
      go_wp2_with fail
      refine (HT.out _).mono ?_
      rintro e w' ⟨rfl, rfl⟩
      go_wp2_with fail
      have HBV : Hid (Below wE.heap.size wE (w1.alloc (.cells #[.int .u64 owner.toNat, .bool ys, .int .i64 (now + ticks)] 62))) := HB1.out.alloc HB1.out.size _
      refine Calls.mono (HWI.out ⟨owner, ys, now + ticks⟩ _ (AT.out _ HBV.out).2.2.2.2.2.2.1) ?_
      rintro e w2 ⟨v2, rfl, ho2, b2⟩
      obtain ⟨zA, zc, rfl⟩ := OwnL.form ho2
      have HB2' : Hid (Below wE.heap.size wE w2) := HBV.out.trans (b2.mono HBV.out.size)
      clear X0 X1 R0 R1 FX FR
      obtain ⟨X0, X1, R0, R1, FX, FR, bw, hsz2⟩ := AT.out _ HB2'.out
      have FR0 := FR 0
      have FR1 := FR 1
      have HEND : Hid (LksN ((w2.setCell ⟨w.heap.size + 1, 0, none⟩ (.int .i64 now)).setCell ⟨w.heap.size + 1, 1, none⟩ (.slice zA (withL l ⟨owner, ys, now + ticks⟩).length zc)) (.slice zA (withL l ⟨owner, ys, now + ticks⟩).length zc) (withL l ⟨owner, ys, now + ticks⟩) ∧ Below w.heap.size w ((w2.setCell ⟨w.heap.size + 1, 0, none⟩ (.int .i64 now)).setCell ⟨w.heap.size + 1, 1, none⟩ (.slice zA (withL l ⟨owner, ys, now + ticks⟩).length zc))) :=
        ⟨LksN.of_owns ((ho2.set_lt (by have := HSZ.out; have := HBV.out.size; simp at this ⊢; omega)).set_lt (by have := HSZ.out; have := HBV.out.size; simp at this ⊢; omega)), (bw.setCell (p := ⟨w.heap.size + 1, 0, none⟩) (by dsimp only; omega) _).setCell (p := ⟨w.heap.size + 1, 1, none⟩) (by dsimp only; omega) _⟩
      obtain ⟨z, hz⟩ : ∃ z, z = (withL l ⟨owner, ys, now + ticks⟩).length := ⟨_, rfl⟩
      rw [← hz] at HEND
      rw [← hz]
      clear ho2 b2 FX FR bw hz HBV HB2'
      go_wp2_with fail
      (try simp only [Exit.inBlock, Exit.then])
      refine bodyPost_cell (V := .agg #[.int .i64 now, .slice zA z zc]) rfl rfl ?_ rfl ?_
      · go_simp
      · exact ⟨_, rfl, by rw [← HYES.out]; exact HEND.out.1, HEND.out.2⟩
set_option maxRecDepth 20000 in
set_option maxHeartbeats 4000000 in
theorem rturn_any (now : Int) (v : Value) (l : List Lk) (owner : UInt64) (shared : Bool) (w : World) (hv : LksN w v l) (hr : RisO l) (hl : l.length ≤ 100000) :
    Calls Try.prog 22 #[Lc now v, .int .u64 owner.toNat, .bool shared] w fun e w' => ∃ v', e = .returned (.tuple #[Lc now v', .int .i64 (turnP l owner shared).2]) ∧ LksN w' v' (turnP l owner shared).1 ∧ Below w.heap.size w w' := by
  have HV := Lib.hid hv
  have HR := Lib.hid hr
  have HPL := Lib.hid (@hasO_lt l owner)
  have HPE := Lib.hid (@hasO_at l owner)
  have HP := Lib.hid (fun w' (b : Below w.heap.size w w') => rplace_any now v l owner w' (hv.1.below b (Nat.le_refl _)) hr (by omega))
  have HWI := Lib.hid (fun (x : Lk) w' (b : Below w.heap.size w w') => rwith_any now v l x w' (hv.1.below b (Nat.le_refl _)) hr hl)
  obtain ⟨A, c, rfl, h2, h3, h4⟩ := hv.1
  have hc9 : c ≤ 9223372036854775807 := by unfold maxLen at h3; omega
  have HC := Lib.hid h4
  obtain ⟨n, hn⟩ : ∃ n, n = l.length := ⟨_, rfl⟩
  have HN := Lib.hid hn
  rw [← hn] at h2 HV HP HWI
  unfold Lc at HP HWI ⊢
  rw [← hn]
  have hln : n ≤ 100000 := by omega
  clear hn h3 h4 hv hr hl
  have HB2 : Hid (Below w.heap.size w ((w.alloc (.cells #[.int .i64 now, .slice A n c] 27)).alloc (.cells #[.int .i64 0, .slice none 0 0] 27))) := ((Below.refl _ _).alloc (Nat.le_refl _) _).alloc (by simp) _
  have HSZ : Hid (((w.alloc (.cells #[.int .i64 now, .slice A n c] 27)).alloc (.cells #[.int .i64 0, .slice none 0 0] 27)).heap.size = w.heap.size + 2) := by unfold Hid; simp
  have q2 : ((w.alloc (.cells #[.int .i64 now, .slice A n c] 27)).alloc (.cells #[.int .i64 0, .slice none 0 0] 27)).heap[w.heap.size + 1]? = some (.cells #[.int .i64 0, .slice none 0 0] 27) := by
    have := heap_alloc_new (w.alloc (.cells #[.int .i64 now, .slice A n c] 27)) (.cells #[.int .i64 0, .slice none 0 0] 27)
    simpa using this
  have q1 : ((w.alloc (.cells #[.int .i64 now, .slice A n c] 27)).alloc (.cells #[.int .i64 0, .slice none 0 0] 27)).heap[w.heap.size]? = some (.cells #[.int .i64 now, .slice A n c] 27) := by
    rw [heap_alloc_old _ _ (by simp)]
    exact heap_alloc_new _ _
  obtain ⟨wE, hwE⟩ : ∃ wE, wE = ((w.alloc (.cells #[.int .i64 now, .slice A n c] 27)).alloc (.cells #[.int .i64 0, .slice none 0 0] 27)) := ⟨_, rfl⟩
  rw [← hwE] at HB2 HSZ q1 q2
  have HWE := Lib.hid hwE.symm
  clear hwE
  have AT : Hid (Hid (∀ w', Below wE.heap.size wE w' → w'.cell? ⟨w.heap.size, 0, none⟩ = some (.int .i64 now) ∧ w'.cell? ⟨w.heap.size, 1, none⟩ = some (.slice A n c) ∧ w'.cell? ⟨w.heap.size + 1, 0, none⟩ = some (.int .i64 0) ∧ w'.cell? ⟨w.heap.size + 1, 1, none⟩ = some (.slice none 0 0) ∧ (∀ j, w'.frozen? ⟨w.heap.size, j, none⟩ = false) ∧ (∀ j, w'.frozen? ⟨w.heap.size + 1, j, none⟩ = false) ∧ Below w.heap.size w w' ∧ w.heap.size + 2 ≤ w'.heap.size)) := by
    intro w' b
    have hs := HSZ.out
    have e1 := cells2 (w := w') ((b.block _ (by omega)).trans q1)
    have e2 := cells2 (w := w') ((b.block _ (by omega)).trans q2)
    exact ⟨e1.1, e1.2.1, e2.1, e2.2.1, e1.2.2, e2.2.2, HB2.out.trans (b.mono HB2.out.size), by have := b.size; omega⟩
  clear q1 q2
  unfold turnP
  rw [← HN.out]
  unfold plI at HP
  cases hh : hasO l owner with
  | false =>
    rw [hh, if_neg (by decide)] at HP
    rw [if_neg (by decide)]
    clear hh
    go_enter Try.func22, Try.ntmps22
    go_wp2_with fail
    rw [HWE.out]
    refine (HP.out _ (AT.out _ (Below.refl _ _)).2.2.2.2.2.2.1).mono ?_
    rintro e w1 ⟨rfl, b1⟩
    have HB1 := Lib.hid b1
    obtain ⟨X0, X1, R0, R1, FX, FR, bw, hsz⟩ := AT.out _ b1
    have HBW1 := Lib.hid bw
    clear b1 bw
    have FR0 := FR 0
    have FR1 := FR 1
    have HEND : Hid (Below w.heap.size w ((w1.setCell ⟨w.heap.size + 1, 0, none⟩ (.int .i64 now)).setCell ⟨w.heap.size + 1, 1, none⟩ (.slice A n c))) := (HBW1.out.setCell (p := ⟨w.heap.size + 1, 0, none⟩) (by dsimp only; omega) _).setCell (p := ⟨w.heap.size + 1, 1, none⟩) (by dsimp only; omega) _
    clear FX FR
    go_wp2_with fail
    (try simp only [Exit.inBlock, Exit.then])
    refine bodyPost_cell (V := .agg #[.int .i64 now, .slice A n c]) rfl rfl ?_ rfl ?_
    · go_simp
    · exact ⟨_, rfl, HV.out.below HEND.out (Nat.le_refl _), HEND.out⟩
  | true =>
    have hpl := HPL.out hh
    have hpe := HPE.out hh
    rw [hh, if_pos rfl] at HP
    rw [if_pos rfl]
    have HYES : Hid (withL l ⟨owner, shared, (l[placeO l owner]'hpl).u⟩ = setS l (placeO l owner) shared) := by
      have h := withL_yes l ⟨owner, shared, (l[placeO l owner]'hpl).u⟩ hh
      unfold Hid
      rw [h, ← setS_eq l _ hpl, hpe]
    by_cases hb : shared = false ∧ 1 < n
    · rw [if_pos hb]
      obtain ⟨hb1, hb2⟩ := hb
      subst hb1
      have d1 : decide ((1 : Int) < (n : Int)) = true := by simp; omega
      have d2 : decide (1 < n) = true := by simp; omega
      have hp2 : ¬ ((placeO l owner : Int) < 0) := by omega
      have hp0 : (0 : Int) ≤ (placeO l owner : Int) := by omega
      clear HPE HPL HR hpl hpe hh hb2 HYES
      generalize placeO l owner = i at *
      go_enter Try.func22, Try.ntmps22
      go_wp2_with fail
      rw [HWE.out]
      refine (HP.out _ (AT.out _ (Below.refl _ _)).2.2.2.2.2.2.1).mono ?_
      rintro e w1 ⟨rfl, b1⟩
      have HB1 := Lib.hid b1
      obtain ⟨X0, X1, R0, R1, FX, FR, bw, hsz⟩ := AT.out _ b1
      have HBW1 := Lib.hid bw
      clear b1 bw
      have FR0 := FR 0
      have FR1 := FR 1
      have HEND : Hid (Below w.heap.size w ((w1.setCell ⟨w.heap.size + 1, 0, none⟩ (.int .i64 now)).setCell ⟨w.heap.size + 1, 1, none⟩ (.slice A n c))) := (HBW1.out.setCell (p := ⟨w.heap.size + 1, 0, none⟩) (by dsimp only; omega) _).setCell (p := ⟨w.heap.size + 1, 1, none⟩) (by dsimp only; omega) _
      clear FX FR
      go_wp2_with fail
      (try simp only [Exit.inBlock, Exit.then])
      refine bodyPost_cell (V := .agg #[.int .i64 now, .slice A n c]) rfl rfl ?_ rfl ?_
      · go_simp
      · exact ⟨_, rfl, HV.out.below HEND.out (Nat.le_refl _), HEND.out⟩
    · rw [if_neg hb]
      have HSH : Hid (shared = true ∨ ¬ 1 < n) := by
        unfold Hid
        cases shared with
        | true => exact .inl rfl
        | false => exact .inr (fun h => hb ⟨rfl, h⟩)
      clear hb
      cases shared with
      | true =>
        go_enter Try.func22, Try.ntmps22
        go_wp2_with fail
        rw [HWE.out]
        refine (HP.out _ (AT.out _ (Below.refl _ _)).2.2.2.2.2.2.1).mono ?_
        rintro e w1 ⟨rfl, b1⟩
        have HB1 := Lib.hid b1
        obtain ⟨X0, X1, R0, R1, FX, FR, bw, hsz⟩ := AT.out _ b1
        have HBW1 := Lib.hid bw
        clear b1 bw
        obtain ⟨b, off, rfl, hblt, hcells⟩ := HC.out (by have := HN.out; omega)
        obtain ⟨z1, z2, z3⟩ := hcells _ hpl
        have y1 := (HBW1.out.cell (p := ⟨b, off + placeO l owner * 3, none⟩) hblt).trans z1
        have y2 := (HBW1.out.cell (p := ⟨b, off + placeO l owner * 3 + 1, none⟩) hblt).trans z2
        have y3 := (HBW1.out.cell (p := ⟨b, off + placeO l owner * 3 + 2, none⟩) hblt).trans z3
        clear z1 z2 z3
        have hb1 : b < w1.heap.size := Nat.lt_of_lt_of_le hblt HBW1.out.size
        have hlt1 : w.heap.size < w1.heap.size := by omega
        have hp0 : (0 : Int) ≤ (placeO l owner : Int) := by omega
        have hp1 : (placeO l owner : Int) < (n : Int) := by have := HN.out; omega
        have hp2 : ¬ ((placeO l owner : Int) < 0) := by omega
        rw [hpe] at y1
        generalize hys : (l[placeO l owner]'hpl).s = ys at *
        generalize (l[placeO l owner]'hpl).u = yu at *
        obtain ⟨i, hie⟩ : ∃ i, i = placeO l owner := ⟨_, rfl⟩
        rw [← hie] at y1 y2 y3 hp0 hp1 hp2
        rw [← hie]
        clear HPE HPL HR hcells hpl hpe hys hh hie
        go_wp2_with fail
        have HBV : Hid (Below wE.heap.size wE (w1.alloc (.cells #[.int .u64 owner.toNat, .bool true, .int .i64 yu] 62))) := HB1.out.alloc HB1.out.size _
        refine Calls.mono (HWI.out ⟨owner, true, yu⟩ _ (AT.out _ HBV.out).2.2.2.2.2.2.1) ?_
        rintro e w2 ⟨v2, rfl, ho2, b2⟩
        obtain ⟨zA, zc, rfl⟩ := OwnL.form ho2
        have HB2' : Hid (Below wE.heap.size wE w2) := HBV.out.trans (b2.mono HBV.out.size)
        clear X0 X1 R0 R1 FX FR
        obtain ⟨X0, X1, R0, R1, FX, FR, bw, hsz2⟩ := AT.out _ HB2'.out
        have FR0 := FR 0
        have FR1 := FR 1
        have HEND : Hid (LksN ((w2.setCell ⟨w.heap.size + 1, 0, none⟩ (.int .i64 now)).setCell ⟨w.heap.size + 1, 1, none⟩ (.slice zA (withL l ⟨owner, true, yu⟩).length zc)) (.slice zA (withL l ⟨owner, true, yu⟩).length zc) (withL l ⟨owner, true, yu⟩) ∧ Below w.heap.size w ((w2.setCell ⟨w.heap.size + 1, 0, none⟩ (.int .i64 now)).setCell ⟨w.heap.size + 1, 1, none⟩ (.slice zA (withL l ⟨owner, true, yu⟩).length zc))) :=
          ⟨LksN.of_owns ((ho2.set_lt (by have := HSZ.out; have := HBV.out.size; simp at this ⊢; omega)).set_lt (by have := HSZ.out; have := HBV.out.size; simp at this ⊢; omega)), (bw.setCell (p := ⟨w.heap.size + 1, 0, none⟩) (by dsimp only; omega) _).setCell (p := ⟨w.heap.size + 1, 1, none⟩) (by dsimp only; omega) _⟩
        obtain ⟨z, hz⟩ : ∃ z, z = (withL l ⟨owner, true, yu⟩).length := ⟨_, rfl⟩
        rw [← hz] at HEND
        rw [← hz]
        clear ho2 b2 FX FR bw hz HBV HB2'
        go_wp2_with fail
        (try simp only [Exit.inBlock, Exit.then])
        refine bodyPost_cell (V := .agg #[.int .i64 now, .slice zA z zc]) rfl rfl ?_ rfl ?_
        · go_simp
        · exact ⟨_, rfl, by rw [← HYES.out]; exact HEND.out.1, HEND.out.2⟩
      | false =>
        have hn1 : ¬ 1 < n := HSH.out.resolve_left (by decide)
        have d1 : decide ((1 : Int) < (n : Int)) = false := by simp; omega
        have d2 : decide (1 < n) = false := by simp; omega
        clear hn1
        go_enter Try.func22, Try.ntmps22
        go_wp2_with fail
        rw [HWE.out]
        refine (HP.out _ (AT.out _ (Below.refl _ _)).2.2.2.2.2.2.1).mono ?_
        rintro e w1 ⟨rfl, b1⟩
        have HB1 := Lib.hid b1
        obtain ⟨X0, X1, R0, R1, FX, FR, bw, hsz⟩ := AT.out _ b1
        have HBW1 := Lib.hid bw
        clear b1 bw
        obtain ⟨b, off, rfl, hblt, hcells⟩ := HC.out (by have := HN.out; omega)
        obtain ⟨z1, z2, z3⟩ := hcells _ hpl
        have y1 := (HBW1.out.cell (p := ⟨b, off + placeO l owner * 3, none⟩) hblt).trans z1
        have y2 := (HBW1.out.cell (p := ⟨b, off + placeO l owner * 3 + 1, none⟩) hblt).trans z2
        have y3 := (HBW1.out.cell (p := ⟨b, off + placeO l owner * 3 + 2, none⟩) hblt).trans z3
        clear z1 z2 z3
        have hb1 : b < w1.heap.size := Nat.lt_of_lt_of_le hblt HBW1.out.size
        have hlt1 : w.heap.size < w1.heap.size := by omega
        have hp0 : (0 : Int) ≤ (placeO l owner : Int) := by omega
        have hp1 : (placeO l owner : Int) < (n : Int) := by have := HN.out; omega
        have hp2 : ¬ ((placeO l owner : Int) < 0) := by omega
        rw [hpe] at y1
        generalize hys : (l[placeO l owner]'hpl).s = ys at *
        generalize (l[placeO l owner]'hpl).u = yu at *
        obtain ⟨i, hie⟩ : ∃ i, i = placeO l owner := ⟨_, rfl⟩
        rw [← hie] at y1 y2 y3 hp0 hp1 hp2
        rw [← hie]
        clear HPE HPL HR hcells hpl hpe hys hh hie
        go_wp2_with fail
        have HBV : Hid (Below wE.heap.size wE (w1.alloc (.cells #[.int .u64 owner.toNat, .bool false, .int .i64 yu] 62))) := HB1.out.alloc HB1.out.size _
        refine Calls.mono (HWI.out ⟨owner, false, yu⟩ _ (AT.out _ HBV.out).2.2.2.2.2.2.1) ?_
        rintro e w2 ⟨v2, rfl, ho2, b2⟩
        obtain ⟨zA, zc, rfl⟩ := OwnL.form ho2
        have HB2' : Hid (Below wE.heap.size wE w2) := HBV.out.trans (b2.mono HBV.out.size)
        clear X0 X1 R0 R1 FX FR
        obtain ⟨X0, X1, R0, R1, FX, FR, bw, hsz2⟩ := AT.out _ HB2'.out
        have FR0 := FR 0
        have FR1 := FR 1
        have HEND : Hid (LksN ((w2.setCell ⟨w.heap.size + 1, 0, none⟩ (.int .i64 now)).setCell ⟨w.heap.size + 1, 1, none⟩ (.slice zA (withL l ⟨owner, false, yu⟩).length zc)) (.slice zA (withL l ⟨owner, false, yu⟩).length zc) (withL l ⟨owner, false, yu⟩) ∧ Below w.heap.size w ((w2.setCell ⟨w.heap.size + 1, 0, none⟩ (.int .i64 now)).setCell ⟨w.heap.size + 1, 1, none⟩ (.slice zA (withL l ⟨owner, false, yu⟩).length zc))) :=
          ⟨LksN.of_owns ((ho2.set_lt (by have := HSZ.out; have := HBV.out.size; simp at this ⊢; omega)).set_lt (by have := HSZ.out; have := HBV.out.size; simp at this ⊢; omega)), (bw.setCell (p := ⟨w.heap.size + 1, 0, none⟩) (by dsimp only; omega) _).setCell (p := ⟨w.heap.size + 1, 1, none⟩) (by dsimp only; omega) _⟩
        obtain ⟨z, hz⟩ : ∃ z, z = (withL l ⟨owner, false, yu⟩).length := ⟨_, rfl⟩
        rw [← hz] at HEND
        rw [← hz]
        clear ho2 b2 FX FR bw hz HBV HB2'
        go_wp2_with fail
        (try simp only [Exit.inBlock, Exit.then])
        refine bodyPost_cell (V := .agg #[.int .i64 now, .slice zA z zc]) rfl rfl ?_ rfl ?_
        · go_simp
        · exact ⟨_, rfl, by rw [← HYES.out]; exact HEND.out.1, HEND.out.2⟩
def aloneR (l : List Lk) : Bool := decide (l.length = 1) && !((l[0]?.map Lk.s).getD true)
theorem alone_eq (now : Int) (l : List Lk) (h : FitP now l) : aloneB l = aloneR l := by
  unfold aloneB aloneR
  match l, h with
  | [], _ => rfl
  | [x], _ => simp
  | x :: y :: r, h =>
    have hb := h.2.2.2.2
    have : (x :: y :: r).any (fun x => !x.s) = false := by
      rw [List.any_eq_false]
      intro z hz
      have h1 := hb z hz
      unfold badB at h1
      simp only [Bool.or_eq_false_iff, Bool.and_eq_false_iff] at h1
      rcases h1.2 with h2 | h2
      · simpa using h2
      · simp at h2
    rw [this]
    simp
set_option maxRecDepth 20000 in
set_option maxHeartbeats 8000000 in
theorem rask_any (now : Int) (v : Value) (l : List Lk) (owner : UInt64) (shared : Bool) (ticks : Int) (w : World) (hv : LksN w v l) (hf : FitP now l) (hr : RisO l) (hl : l.length ≤ 100000) (h0 : 0 ≤ now) (h1 : now ≤ 1000000000000) :
    Calls Try.prog 16 #[Lc now v, .int .u64 owner.toNat, .bool shared, .int .i64 ticks] w fun e w' => ∃ v', e = .returned (.tuple #[Lc now v', .int .i64 (askP now l owner shared ticks).2]) ∧ LksN w' v' (askP now l owner shared ticks).1 ∧ Below w.heap.size w w' := by
  have HT := Lib.hid (rtick_any ticks)
  have HAL := Lib.hid (alone_eq now l hf)
  clear hf
  have HV := Lib.hid hv
  have HR := Lib.hid hr
  have HPL := Lib.hid (@hasO_lt l owner)
  have HPE := Lib.hid (@hasO_at l owner)
  have HP := Lib.hid (fun w' (b : Below w.heap.size w w') => rplace_any now v l owner w' (hv.1.below b (Nat.le_refl _)) hr (by omega))
  have HWI := Lib.hid (fun (x : Lk) w' (b : Below w.heap.size w w') => rwith_any now v l x w' (hv.1.below b (Nat.le_refl _)) hr hl)
  obtain ⟨A, c, rfl, h2, h3, h4⟩ := hv.1
  have hc9 : c ≤ 9223372036854775807 := by unfold maxLen at h3; omega
  have HC := Lib.hid h4
  obtain ⟨n, hn⟩ : ∃ n, n = l.length := ⟨_, rfl⟩
  have HN := Lib.hid hn
  rw [← hn] at h2 HV HP HWI
  unfold Lc at HP HWI ⊢
  rw [← hn]
  have hln : n ≤ 100000 := by omega
  clear hn h3 h4 hv hr hl
  have HB2 : Hid (Below w.heap.size w ((w.alloc (.cells #[.int .i64 now, .slice A n c] 27)).alloc (.cells #[.int .i64 0, .slice none 0 0] 27))) := ((Below.refl _ _).alloc (Nat.le_refl _) _).alloc (by simp) _
  have HSZ : Hid (((w.alloc (.cells #[.int .i64 now, .slice A n c] 27)).alloc (.cells #[.int .i64 0, .slice none 0 0] 27)).heap.size = w.heap.size + 2) := by unfold Hid; simp
  have q2 : ((w.alloc (.cells #[.int .i64 now, .slice A n c] 27)).alloc (.cells #[.int .i64 0, .slice none 0 0] 27)).heap[w.heap.size + 1]? = some (.cells #[.int .i64 0, .slice none 0 0] 27) := by
    have := heap_alloc_new (w.alloc (.cells #[.int .i64 now, .slice A n c] 27)) (.cells #[.int .i64 0, .slice none 0 0] 27)
    simpa using this
  have q1 : ((w.alloc (.cells #[.int .i64 now, .slice A n c] 27)).alloc (.cells #[.int .i64 0, .slice none 0 0] 27)).heap[w.heap.size]? = some (.cells #[.int .i64 now, .slice A n c] 27) := by
    rw [heap_alloc_old _ _ (by simp)]
    exact heap_alloc_new _ _
  obtain ⟨wE, hwE⟩ : ∃ wE, wE = ((w.alloc (.cells #[.int .i64 now, .slice A n c] 27)).alloc (.cells #[.int .i64 0, .slice none 0 0] 27)) := ⟨_, rfl⟩
  rw [← hwE] at HB2 HSZ q1 q2
  have HWE := Lib.hid hwE.symm
  clear hwE
  have AT : Hid (Hid (∀ w', Below wE.heap.size wE w' → w'.cell? ⟨w.heap.size, 0, none⟩ = some (.int .i64 now) ∧ w'.cell? ⟨w.heap.size, 1, none⟩ = some (.slice A n c) ∧ w'.cell? ⟨w.heap.size + 1, 0, none⟩ = some (.int .i64 0) ∧ w'.cell? ⟨w.heap.size + 1, 1, none⟩ = some (.slice none 0 0) ∧ (∀ j, w'.frozen? ⟨w.heap.size, j, none⟩ = false) ∧ (∀ j, w'.frozen? ⟨w.heap.size + 1, j, none⟩ = false) ∧ Below w.heap.size w w' ∧ w.heap.size + 2 ≤ w'.heap.size)) := by
    intro w' b
    have hs := HSZ.out
    have e1 := cells2 (w := w') ((b.block _ (by omega)).trans q1)
    have e2 := cells2 (w := w') ((b.block _ (by omega)).trans q2)
    exact ⟨e1.1, e1.2.1, e2.1, e2.2.1, e1.2.2, e2.2.2, HB2.out.trans (b.mono HB2.out.size), by have := b.size; omega⟩
  clear q1 q2
  unfold askP
  rw [HAL.out]
  rw [← HN.out]
  unfold plI at HP
  by_cases hn1 : n = 1
  · obtain ⟨b, off, rfl, hblt, hcells⟩ := HC.out (by have := HN.out; omega)
    have hl0 : 0 < l.length := by have := HN.out; omega
    obtain ⟨x1, x2, x3⟩ := hcells 0 hl0
    have hav : aloneR l = !(l[0]'hl0).s := by
      unfold aloneR
      rw [← HN.out, List.getElem?_eq_getElem hl0, hn1]
      simp
    rw [hav]
    generalize (l[0]'hl0).s = sx at *
    have e1 : ((n : Int) == 1) = true := by rw [hn1]; rfl
    have e2 : (n == 1) = true := by rw [hn1]; rfl
    have hn0 : (0 : Int) < (n : Int) := by omega
    have hn0' : 0 < n := by omega
    clear hcells x1 x3 hav hl0 hn1
    cases sx with
    | false =>
      (try dsimp only [Bool.not_false])
      cases ht : tickB ticks with
      | false =>
        rw [ht] at HT
        rw [if_pos rfl]
        clear ht
        go_enter Try.func16, Try.ntmps16
        obtain ⟨X0, X1, R0, R1, FX, FR, bwE, hsz⟩ := AT.out _ (Below.refl _ _)
        rw [← HWE.out] at X0 X1 R0 R1
        have s1 := (bwE.cell (p := ⟨b, off + 0 * 3 + 1, none⟩) hblt).trans x2
        have hbE : b < wE.heap.size := Nat.lt_of_lt_of_le hblt bwE.size
        rw [← HWE.out] at s1 hbE
        simp only [Nat.zero_mul, Nat.add_zero] at s1
        go_wp2_with fail
        rw [HWE.out]
        refine (HT.out _).mono ?_
        rintro e w' ⟨rfl, rfl⟩
        rw [HWE.out] at X0 X1 R0 R1
        have HBW1 := Lib.hid bwE
        have HB1 : Hid (Below wE.heap.size wE wE) := Below.refl _ _
        obtain ⟨w1, hw1⟩ : ∃ w1, w1 = wE := ⟨_, rfl⟩
        rw [← hw1] at X0 X1 R0 R1 FX FR HBW1 hsz
        rw [← hw1]
        have HB1 : Hid (Below wE.heap.size wE w1) := by unfold Hid; rw [hw1]; exact Below.refl _ _
        clear hw1 bwE
        have FR0 := FR 0
        have FR1 := FR 1
        have HEND : Hid (Below w.heap.size w ((w1.setCell ⟨w.heap.size + 1, 0, none⟩ (.int .i64 now)).setCell ⟨w.heap.size + 1, 1, none⟩ (.slice (some ⟨b, off, none⟩) n c))) := (HBW1.out.setCell (p := ⟨w.heap.size + 1, 0, none⟩) (by dsimp only; omega) _).setCell (p := ⟨w.heap.size + 1, 1, none⟩) (by dsimp only; omega) _
        clear FX FR
        go_wp2_with fail
        (try simp only [Exit.inBlock, Exit.then])
        refine bodyPost_cell (V := .agg #[.int .i64 now, .slice (some ⟨b, off, none⟩) n c]) rfl rfl ?_ rfl ?_
        · go_simp
        · exact ⟨_, rfl, HV.out.below HEND.out (Nat.le_refl _), HEND.out⟩
      | true =>
        rw [ht] at HT
        rw [if_neg (by decide)]
        have HTB : 0 < ticks ∧ ticks ≤ 1000 := by unfold tickB at ht; simpa using ht
        obtain ⟨ht0, ht1⟩ := HTB
        clear ht
        cases hh : hasO l owner with
        | true =>
          rw [hh, if_pos rfl] at HP
          rw [if_pos rfl]
          have hp0 : (0 : Int) ≤ (placeO l owner : Int) := by omega
          clear HPE HPL HR hh
          generalize placeO l owner = i at *
          go_enter Try.func16, Try.ntmps16
          obtain ⟨X0, X1, R0, R1, FX, FR, bwE, hsz⟩ := AT.out _ (Below.refl _ _)
          rw [← HWE.out] at X0 X1 R0 R1
          have s1 := (bwE.cell (p := ⟨b, off + 0 * 3 + 1, none⟩) hblt).trans x2
          have hbE : b < wE.heap.size := Nat.lt_of_lt_of_le hblt bwE.size
          rw [← HWE.out] at s1 hbE
          simp only [Nat.zero_mul, Nat.add_zero] at s1
          go_wp2_with fail
          rw [HWE.out]
          refine (HT.out _).mono ?_
          rintro e w' ⟨rfl, rfl⟩
          rw [HWE.out] at X0 X1 R0 R1
          have HBW1 := Lib.hid bwE
          have HB1 : Hid (Below wE.heap.size wE wE) := Below.refl _ _
          obtain ⟨w1, hw1⟩ : ∃ w1, w1 = wE := ⟨_, rfl⟩
          rw [← hw1] at X0 X1 R0 R1 FX FR HBW1 hsz
          rw [← hw1]
          have HB1 : Hid (Below wE.heap.size wE w1) := by unfold Hid; rw [hw1]; exact Below.refl _ _
          clear hw1 bwE
          go_wp2_with fail
          refine (HP.out _ HBW1.out).mono ?_
          rintro e w0 ⟨rfl, b1⟩
          have HB0 : Hid (Below wE.heap.size wE w0) := HB1.out.trans (b1.mono HB1.out.size)
          clear X0 X1 R0 R1 FX FR HB1 HBW1 b1
          obtain ⟨w1, hw1⟩ : ∃ w1, w1 = w0 := ⟨_, rfl⟩
          rw [← hw1] at HB0
          rw [← hw1]
          clear hw1
          have HB1 := HB0
          obtain ⟨X0, X1, R0, R1, FX, FR, bw, hsz9⟩ := AT.out _ HB1.out
          have HBW1 := Lib.hid bw
          clear bw HB0
          have FR0 := FR 0
          have FR1 := FR 1
          have HEND : Hid (Below w.heap.size w ((w1.setCell ⟨w.heap.size + 1, 0, none⟩ (.int .i64 now)).setCell ⟨w.heap.size + 1, 1, none⟩ (.slice (some ⟨b, off, none⟩) n c))) := (HBW1.out.setCell (p := ⟨w.heap.size + 1, 0, none⟩) (by dsimp only; omega) _).setCell (p := ⟨w.heap.size + 1, 1, none⟩) (by dsimp only; omega) _
          clear FX FR
          go_wp2_with fail
          (try simp only [Exit.inBlock, Exit.then])
          refine bodyPost_cell (V := .agg #[.int .i64 now, .slice (some ⟨b, off, none⟩) n c]) rfl rfl ?_ rfl ?_
          · go_simp
          · exact ⟨_, rfl, HV.out.below HEND.out (Nat.le_refl _), HEND.out⟩
        | false =>
          have HNO := Lib.hid (withL_no l ⟨owner, shared, now + ticks⟩ hh)
          rw [hh, if_neg (by decide)] at HP
          rw [if_neg (by decide)]
          clear hh
          first
            | rw [if_pos (Or.inl rfl)]
            | rw [if_pos (Or.inl (show (!false) = true from rfl))]
          go_enter Try.func16, Try.ntmps16
          obtain ⟨X0, X1, R0, R1, FX, FR, bwE, hsz⟩ := AT.out _ (Below.refl _ _)
          rw [← HWE.out] at X0 X1 R0 R1
          have s1 := (bwE.cell (p := ⟨b, off + 0 * 3 + 1, none⟩) hblt).trans x2
          have hbE : b < wE.heap.size := Nat.lt_of_lt_of_le hblt bwE.size
          rw [← HWE.out] at s1 hbE
          simp only [Nat.zero_mul, Nat.add_zero] at s1
          go_wp2_with fail
          rw [HWE.out]
          refine (HT.out _).mono ?_
          rintro e w' ⟨rfl, rfl⟩
          rw [HWE.out] at X0 X1 R0 R1
          have HBW1 := Lib.hid bwE
          have HB1 : Hid (Below wE.heap.size wE wE) := Below.refl _ _
          obtain ⟨w1, hw1⟩ : ∃ w1, w1 = wE := ⟨_, rfl⟩
          rw [← hw1] at X0 X1 R0 R1 FX FR HBW1 hsz
          rw [← hw1]
          have HB1 : Hid (Below wE.heap.size wE w1) := by unfold Hid; rw [hw1]; exact Below.refl _ _
          clear hw1 bwE
          go_wp2_with fail
          refine (HP.out _ HBW1.out).mono ?_
          rintro e w0 ⟨rfl, b1⟩
          have HB0 : Hid (Below wE.heap.size wE w0) := HB1.out.trans (b1.mono HB1.out.size)
          clear X0 X1 R0 R1 FX FR HB1 HBW1 b1
          obtain ⟨w1, hw1⟩ : ∃ w1, w1 = w0 := ⟨_, rfl⟩
          rw [← hw1] at HB0
          rw [← hw1]
          clear hw1
          have HB1 := HB0
          obtain ⟨X0, X1, R0, R1, FX, FR, bw, hsz9⟩ := AT.out _ HB1.out
          have HBW1 := Lib.hid bw
          clear bw HB0
          have FR0 := FR 0
          have FR1 := FR 1
          have HEND : Hid (Below w.heap.size w ((w1.setCell ⟨w.heap.size + 1, 0, none⟩ (.int .i64 now)).setCell ⟨w.heap.size + 1, 1, none⟩ (.slice (some ⟨b, off, none⟩) n c))) := (HBW1.out.setCell (p := ⟨w.heap.size + 1, 0, none⟩) (by dsimp only; omega) _).setCell (p := ⟨w.heap.size + 1, 1, none⟩) (by dsimp only; omega) _
          clear FX FR
          go_wp2_with fail
          (try simp only [Exit.inBlock, Exit.then])
          refine bodyPost_cell (V := .agg #[.int .i64 now, .slice (some ⟨b, off, none⟩) n c]) rfl rfl ?_ rfl ?_
          · go_simp
          · exact ⟨_, rfl, HV.out.below HEND.out (Nat.le_refl _), HEND.out⟩
    | true =>
      (try dsimp only [Bool.not_true])
      cases ht : tickB ticks with
      | false =>
        rw [ht] at HT
        rw [if_pos rfl]
        clear ht
        go_enter Try.func16, Try.ntmps16
        obtain ⟨X0, X1, R0, R1, FX, FR, bwE, hsz⟩ := AT.out _ (Below.refl _ _)
        rw [← HWE.out] at X0 X1 R0 R1
        have s1 := (bwE.cell (p := ⟨b, off + 0 * 3 + 1, none⟩) hblt).trans x2
        have hbE : b < wE.heap.size := Nat.lt_of_lt_of_le hblt bwE.size
        rw [← HWE.out] at s1 hbE
        simp only [Nat.zero_mul, Nat.add_zero] at s1
        go_wp2_with fail
        rw [HWE.out]
        refine (HT.out _).mono ?_
        rintro e w' ⟨rfl, rfl⟩
        rw [HWE.out] at X0 X1 R0 R1
        have HBW1 := Lib.hid bwE
        have HB1 : Hid (Below wE.heap.size wE wE) := Below.refl _ _
        obtain ⟨w1, hw1⟩ : ∃ w1, w1 = wE := ⟨_, rfl⟩
        rw [← hw1] at X0 X1 R0 R1 FX FR HBW1 hsz
        rw [← hw1]
        have HB1 : Hid (Below wE.heap.size wE w1) := by unfold Hid; rw [hw1]; exact Below.refl _ _
        clear hw1 bwE
        have FR0 := FR 0
        have FR1 := FR 1
        have HEND : Hid (Below w.heap.size w ((w1.setCell ⟨w.heap.size + 1, 0, none⟩ (.int .i64 now)).setCell ⟨w.heap.size + 1, 1, none⟩ (.slice (some ⟨b, off, none⟩) n c))) := (HBW1.out.setCell (p := ⟨w.heap.size + 1, 0, none⟩) (by dsimp only; omega) _).setCell (p := ⟨w.heap.size + 1, 1, none⟩) (by dsimp only; omega) _
        clear FX FR
        go_wp2_with fail
        (try simp only [Exit.inBlock, Exit.then])
        refine bodyPost_cell (V := .agg #[.int .i64 now, .slice (some ⟨b, off, none⟩) n c]) rfl rfl ?_ rfl ?_
        · go_simp
        · exact ⟨_, rfl, HV.out.below HEND.out (Nat.le_refl _), HEND.out⟩
      | true =>
        rw [ht] at HT
        rw [if_neg (by decide)]
        have HTB : 0 < ticks ∧ ticks ≤ 1000 := by unfold tickB at ht; simpa using ht
        obtain ⟨ht0, ht1⟩ := HTB
        clear ht
        cases hh : hasO l owner with
        | true =>
          rw [hh, if_pos rfl] at HP
          rw [if_pos rfl]
          have hp0 : (0 : Int) ≤ (placeO l owner : Int) := by omega
          clear HPE HPL HR hh
          generalize placeO l owner = i at *
          go_enter Try.func16, Try.ntmps16
          obtain ⟨X0, X1, R0, R1, FX, FR, bwE, hsz⟩ := AT.out _ (Below.refl _ _)
          rw [← HWE.out] at X0 X1 R0 R1
          have s1 := (bwE.cell (p := ⟨b, off + 0 * 3 + 1, none⟩) hblt).trans x2
          have hbE : b < wE.heap.size := Nat.lt_of_lt_of_le hblt bwE.size
          rw [← HWE.out] at s1 hbE
          simp only [Nat.zero_mul, Nat.add_zero] at s1
          go_wp2_with fail
          rw [HWE.out]
          refine (HT.out _).mono ?_
          rintro e w' ⟨rfl, rfl⟩
          rw [HWE.out] at X0 X1 R0 R1
          have HBW1 := Lib.hid bwE
          have HB1 : Hid (Below wE.heap.size wE wE) := Below.refl _ _
          obtain ⟨w1, hw1⟩ : ∃ w1, w1 = wE := ⟨_, rfl⟩
          rw [← hw1] at X0 X1 R0 R1 FX FR HBW1 hsz
          rw [← hw1]
          have HB1 : Hid (Below wE.heap.size wE w1) := by unfold Hid; rw [hw1]; exact Below.refl _ _
          clear hw1 bwE
          go_wp2_with fail
          refine (HP.out _ HBW1.out).mono ?_
          rintro e w0 ⟨rfl, b1⟩
          have HB0 : Hid (Below wE.heap.size wE w0) := HB1.out.trans (b1.mono HB1.out.size)
          clear X0 X1 R0 R1 FX FR HB1 HBW1 b1
          obtain ⟨w1, hw1⟩ : ∃ w1, w1 = w0 := ⟨_, rfl⟩
          rw [← hw1] at HB0
          rw [← hw1]
          clear hw1
          have HB1 := HB0
          obtain ⟨X0, X1, R0, R1, FX, FR, bw, hsz9⟩ := AT.out _ HB1.out
          have HBW1 := Lib.hid bw
          clear bw HB0
          have FR0 := FR 0
          have FR1 := FR 1
          have HEND : Hid (Below w.heap.size w ((w1.setCell ⟨w.heap.size + 1, 0, none⟩ (.int .i64 now)).setCell ⟨w.heap.size + 1, 1, none⟩ (.slice (some ⟨b, off, none⟩) n c))) := (HBW1.out.setCell (p := ⟨w.heap.size + 1, 0, none⟩) (by dsimp only; omega) _).setCell (p := ⟨w.heap.size + 1, 1, none⟩) (by dsimp only; omega) _
          clear FX FR
          go_wp2_with fail
          (try simp only [Exit.inBlock, Exit.then])
          refine bodyPost_cell (V := .agg #[.int .i64 now, .slice (some ⟨b, off, none⟩) n c]) rfl rfl ?_ rfl ?_
          · go_simp
          · exact ⟨_, rfl, HV.out.below HEND.out (Nat.le_refl _), HEND.out⟩
        | false =>
          have HNO := Lib.hid (withL_no l ⟨owner, shared, now + ticks⟩ hh)
          rw [hh, if_neg (by decide)] at HP
          rw [if_neg (by decide)]
          clear hh
          by_cases hb : shared = false ∧ 0 < n
          · rw [if_pos (Or.inr hb)]
            obtain ⟨hb1, hb2⟩ := hb
            subst hb1
            have d1 : decide ((0 : Int) < (n : Int)) = true := by simp; omega
            have d2 : decide (0 < n) = true := by simp; omega
            clear hb2
            go_enter Try.func16, Try.ntmps16
            obtain ⟨X0, X1, R0, R1, FX, FR, bwE, hsz⟩ := AT.out _ (Below.refl _ _)
            rw [← HWE.out] at X0 X1 R0 R1
            have s1 := (bwE.cell (p := ⟨b, off + 0 * 3 + 1, none⟩) hblt).trans x2
            have hbE : b < wE.heap.size := Nat.lt_of_lt_of_le hblt bwE.size
            rw [← HWE.out] at s1 hbE
            simp only [Nat.zero_mul, Nat.add_zero] at s1
            go_wp2_with fail
            rw [HWE.out]
            refine (HT.out _).mono ?_
            rintro e w' ⟨rfl, rfl⟩
            rw [HWE.out] at X0 X1 R0 R1
            have HBW1 := Lib.hid bwE
            have HB1 : Hid (Below wE.heap.size wE wE) := Below.refl _ _
            obtain ⟨w1, hw1⟩ : ∃ w1, w1 = wE := ⟨_, rfl⟩
            rw [← hw1] at X0 X1 R0 R1 FX FR HBW1 hsz
            rw [← hw1]
            have HB1 : Hid (Below wE.heap.size wE w1) := by unfold Hid; rw [hw1]; exact Below.refl _ _
            clear hw1 bwE
            go_wp2_with fail
            refine (HP.out _ HBW1.out).mono ?_
            rintro e w0 ⟨rfl, b1⟩
            have HB0 : Hid (Below wE.heap.size wE w0) := HB1.out.trans (b1.mono HB1.out.size)
            clear X0 X1 R0 R1 FX FR HB1 HBW1 b1
            obtain ⟨w1, hw1⟩ : ∃ w1, w1 = w0 := ⟨_, rfl⟩
            rw [← hw1] at HB0
            rw [← hw1]
            clear hw1
            have HB1 := HB0
            obtain ⟨X0, X1, R0, R1, FX, FR, bw, hsz9⟩ := AT.out _ HB1.out
            have HBW1 := Lib.hid bw
            clear bw HB0
            have FR0 := FR 0
            have FR1 := FR 1
            have HEND : Hid (Below w.heap.size w ((w1.setCell ⟨w.heap.size + 1, 0, none⟩ (.int .i64 now)).setCell ⟨w.heap.size + 1, 1, none⟩ (.slice (some ⟨b, off, none⟩) n c))) := (HBW1.out.setCell (p := ⟨w.heap.size + 1, 0, none⟩) (by dsimp only; omega) _).setCell (p := ⟨w.heap.size + 1, 1, none⟩) (by dsimp only; omega) _
            clear FX FR
            go_wp2_with fail
            (try simp only [Exit.inBlock, Exit.then])
            refine bodyPost_cell (V := .agg #[.int .i64 now, .slice (some ⟨b, off, none⟩) n c]) rfl rfl ?_ rfl ?_
            · go_simp
            · exact ⟨_, rfl, HV.out.below HEND.out (Nat.le_refl _), HEND.out⟩
          · rw [if_neg (by rintro (h | h); cases h; exact hb h)]
            by_cases h16 : 16 ≤ n
            · rw [if_pos h16]
              have d3 : decide ((16 : Int) ≤ (n : Int)) = true := by simp; omega
              have d4 : decide (16 ≤ n) = true := by simp; omega
              have d1 : decide ((0 : Int) < (n : Int)) = true := by simp; omega
              have d2 : decide (0 < n) = true := by simp; omega
              obtain rfl : shared = true := by cases shared with | true => rfl | false => exact absurd ⟨rfl, by omega⟩ hb
              clear hb h16
              go_enter Try.func16, Try.ntmps16
              obtain ⟨X0, X1, R0, R1, FX, FR, bwE, hsz⟩ := AT.out _ (Below.refl _ _)
              rw [← HWE.out] at X0 X1 R0 R1
              have s1 := (bwE.cell (p := ⟨b, off + 0 * 3 + 1, none⟩) hblt).trans x2
              have hbE : b < wE.heap.size := Nat.lt_of_lt_of_le hblt bwE.size
              rw [← HWE.out] at s1 hbE
              simp only [Nat.zero_mul, Nat.add_zero] at s1
              go_wp2_with fail
              rw [HWE.out]
              refine (HT.out _).mono ?_
              rintro e w' ⟨rfl, rfl⟩
              rw [HWE.out] at X0 X1 R0 R1
              have HBW1 := Lib.hid bwE
              have HB1 : Hid (Below wE.heap.size wE wE) := Below.refl _ _
              obtain ⟨w1, hw1⟩ : ∃ w1, w1 = wE := ⟨_, rfl⟩
              rw [← hw1] at X0 X1 R0 R1 FX FR HBW1 hsz
              rw [← hw1]
              have HB1 : Hid (Below wE.heap.size wE w1) := by unfold Hid; rw [hw1]; exact Below.refl _ _
              clear hw1 bwE
              go_wp2_with fail
              refine (HP.out _ HBW1.out).mono ?_
              rintro e w0 ⟨rfl, b1⟩
              have HB0 : Hid (Below wE.heap.size wE w0) := HB1.out.trans (b1.mono HB1.out.size)
              clear X0 X1 R0 R1 FX FR HB1 HBW1 b1
              obtain ⟨w1, hw1⟩ : ∃ w1, w1 = w0 := ⟨_, rfl⟩
              rw [← hw1] at HB0
              rw [← hw1]
              clear hw1
              have HB1 := HB0
              obtain ⟨X0, X1, R0, R1, FX, FR, bw, hsz9⟩ := AT.out _ HB1.out
              have HBW1 := Lib.hid bw
              clear bw HB0
              have FR0 := FR 0
              have FR1 := FR 1
              have HEND : Hid (Below w.heap.size w ((w1.setCell ⟨w.heap.size + 1, 0, none⟩ (.int .i64 now)).setCell ⟨w.heap.size + 1, 1, none⟩ (.slice (some ⟨b, off, none⟩) n c))) := (HBW1.out.setCell (p := ⟨w.heap.size + 1, 0, none⟩) (by dsimp only; omega) _).setCell (p := ⟨w.heap.size + 1, 1, none⟩) (by dsimp only; omega) _
              clear FX FR
              go_wp2_with fail
              (try simp only [Exit.inBlock, Exit.then])
              refine bodyPost_cell (V := .agg #[.int .i64 now, .slice (some ⟨b, off, none⟩) n c]) rfl rfl ?_ rfl ?_
              · go_simp
              · exact ⟨_, rfl, HV.out.below HEND.out (Nat.le_refl _), HEND.out⟩
            · rw [if_neg h16]
              have d3 : decide ((16 : Int) ≤ (n : Int)) = false := by simp; omega
              have d4 : decide (16 ≤ n) = false := by simp; omega
              have HSH : Hid (shared = true ∨ ¬ 0 < n) := by
                unfold Hid
                cases shared with
                | true => exact .inl rfl
                | false => exact .inr (fun h => hb ⟨rfl, h⟩)
              clear hb h16
              cases shared with
              | true =>
                go_enter Try.func16, Try.ntmps16
                obtain ⟨X0, X1, R0, R1, FX, FR, bwE, hsz⟩ := AT.out _ (Below.refl _ _)
                rw [← HWE.out] at X0 X1 R0 R1
                have s1 := (bwE.cell (p := ⟨b, off + 0 * 3 + 1, none⟩) hblt).trans x2
                have hbE : b < wE.heap.size := Nat.lt_of_lt_of_le hblt bwE.size
                rw [← HWE.out] at s1 hbE
                simp only [Nat.zero_mul, Nat.add_zero] at s1
                go_wp2_with fail
                rw [HWE.out]
                refine (HT.out _).mono ?_
                rintro e w' ⟨rfl, rfl⟩
                rw [HWE.out] at X0 X1 R0 R1
                have HBW1 := Lib.hid bwE
                have HB1 : Hid (Below wE.heap.size wE wE) := Below.refl _ _
                obtain ⟨w1, hw1⟩ : ∃ w1, w1 = wE := ⟨_, rfl⟩
                rw [← hw1] at X0 X1 R0 R1 FX FR HBW1 hsz
                rw [← hw1]
                have HB1 : Hid (Below wE.heap.size wE w1) := by unfold Hid; rw [hw1]; exact Below.refl _ _
                clear hw1 bwE
                go_wp2_with fail
                refine (HP.out _ HBW1.out).mono ?_
                rintro e w0 ⟨rfl, b1⟩
                have HB0 : Hid (Below wE.heap.size wE w0) := HB1.out.trans (b1.mono HB1.out.size)
                clear X0 X1 R0 R1 FX FR HB1 HBW1 b1
                obtain ⟨w1, hw1⟩ : ∃ w1, w1 = w0 := ⟨_, rfl⟩
                rw [← hw1] at HB0
                rw [← hw1]
                clear hw1
                have HB1 := HB0
                obtain ⟨X0, X1, R0, R1, FX, FR, bw, hsz9⟩ := AT.out _ HB1.out
                have HBW1 := Lib.hid bw
                clear bw HB0
                go_wp2_with fail
                have HBV := HB1
                refine Calls.mono (HWI.out ⟨owner, true, now + ticks⟩ _ (AT.out _ HBV.out).2.2.2.2.2.2.1) ?_
                rintro e w2 ⟨v2, rfl, ho2, b2⟩
                obtain ⟨zA, zc, rfl⟩ := OwnL.form ho2
                have HB2' : Hid (Below wE.heap.size wE w2) := HBV.out.trans (b2.mono HBV.out.size)
                clear X0 X1 R0 R1 FX FR
                obtain ⟨X0, X1, R0, R1, FX, FR, bw, hsz2⟩ := AT.out _ HB2'.out
                have FR0 := FR 0
                have FR1 := FR 1
                have HEND : Hid (LksN ((w2.setCell ⟨w.heap.size + 1, 0, none⟩ (.int .i64 now)).setCell ⟨w.heap.size + 1, 1, none⟩ (.slice zA (withL l ⟨owner, true, now + ticks⟩).length zc)) (.slice zA (withL l ⟨owner, true, now + ticks⟩).length zc) (withL l ⟨owner, true, now + ticks⟩) ∧ Below w.heap.size w ((w2.setCell ⟨w.heap.size + 1, 0, none⟩ (.int .i64 now)).setCell ⟨w.heap.size + 1, 1, none⟩ (.slice zA (withL l ⟨owner, true, now + ticks⟩).length zc))) :=
                  ⟨LksN.of_owns ((ho2.set_lt (by have := HSZ.out; have := HBV.out.size; simp at this ⊢; omega)).set_lt (by have := HSZ.out; have := HBV.out.size; simp at this ⊢; omega)), (bw.setCell (p := ⟨w.heap.size + 1, 0, none⟩) (by dsimp only; omega) _).setCell (p := ⟨w.heap.size + 1, 1, none⟩) (by dsimp only; omega) _⟩
                obtain ⟨z, hz⟩ : ∃ z, z = (withL l ⟨owner, true, now + ticks⟩).length := ⟨_, rfl⟩
                rw [← hz] at HEND
                rw [← hz]
                clear ho2 b2 FX FR bw hz HBV HB2'
                go_wp2_with fail
                (try simp only [Exit.inBlock, Exit.then])
                refine bodyPost_cell (V := .agg #[.int .i64 now, .slice zA z zc]) rfl rfl ?_ rfl ?_
                · go_simp
                · exact ⟨_, rfl, by rw [← HNO.out]; exact HEND.out.1, HEND.out.2⟩
              | false =>
                exact absurd hn0' (HSH.out.resolve_left (by decide))
  · have hav : aloneR l = false := by
      unfold aloneR
      rw [← HN.out, show decide (n = 1) = false by simpa using hn1, Bool.false_and]
    rw [hav]
    have e1 : ((n : Int) == 1) = false := by rw [beq_eq_false_iff_ne]; omega
    have e2 : (n == 1) = false := by rw [beq_eq_false_iff_ne]; omega
    clear hav hn1
    cases ht : tickB ticks with
    | false =>
      rw [ht] at HT
      rw [if_pos rfl]
      clear ht
      go_enter Try.func16, Try.ntmps16
      obtain ⟨X0, X1, R0, R1, FX, FR, bwE, hsz⟩ := AT.out _ (Below.refl _ _)
      rw [← HWE.out] at X0 X1 R0 R1
      go_wp2_with fail
      rw [HWE.out]
      refine (HT.out _).mono ?_
      rintro e w' ⟨rfl, rfl⟩
      rw [HWE.out] at X0 X1 R0 R1
      have HBW1 := Lib.hid bwE
      have HB1 : Hid (Below wE.heap.size wE wE) := Below.refl _ _
      obtain ⟨w1, hw1⟩ : ∃ w1, w1 = wE := ⟨_, rfl⟩
      rw [← hw1] at X0 X1 R0 R1 FX FR HBW1 hsz
      rw [← hw1]
      have HB1 : Hid (Below wE.heap.size wE w1) := by unfold Hid; rw [hw1]; exact Below.refl _ _
      clear hw1 bwE
      have FR0 := FR 0
      have FR1 := FR 1
      have HEND : Hid (Below w.heap.size w ((w1.setCell ⟨w.heap.size + 1, 0, none⟩ (.int .i64 now)).setCell ⟨w.heap.size + 1, 1, none⟩ (.slice A n c))) := (HBW1.out.setCell (p := ⟨w.heap.size + 1, 0, none⟩) (by dsimp only; omega) _).setCell (p := ⟨w.heap.size + 1, 1, none⟩) (by dsimp only; omega) _
      clear FX FR
      go_wp2_with fail
      (try simp only [Exit.inBlock, Exit.then])
      refine bodyPost_cell (V := .agg #[.int .i64 now, .slice A n c]) rfl rfl ?_ rfl ?_
      · go_simp
      · exact ⟨_, rfl, HV.out.below HEND.out (Nat.le_refl _), HEND.out⟩
    | true =>
      rw [ht] at HT
      rw [if_neg (by decide)]
      have HTB : 0 < ticks ∧ ticks ≤ 1000 := by unfold tickB at ht; simpa using ht
      obtain ⟨ht0, ht1⟩ := HTB
      clear ht
      cases hh : hasO l owner with
      | true =>
        rw [hh, if_pos rfl] at HP
        rw [if_pos rfl]
        have hp0 : (0 : Int) ≤ (placeO l owner : Int) := by omega
        clear HPE HPL HR hh
        generalize placeO l owner = i at *
        go_enter Try.func16, Try.ntmps16
        obtain ⟨X0, X1, R0, R1, FX, FR, bwE, hsz⟩ := AT.out _ (Below.refl _ _)
        rw [← HWE.out] at X0 X1 R0 R1
        go_wp2_with fail
        rw [HWE.out]
        refine (HT.out _).mono ?_
        rintro e w' ⟨rfl, rfl⟩
        rw [HWE.out] at X0 X1 R0 R1
        have HBW1 := Lib.hid bwE
        have HB1 : Hid (Below wE.heap.size wE wE) := Below.refl _ _
        obtain ⟨w1, hw1⟩ : ∃ w1, w1 = wE := ⟨_, rfl⟩
        rw [← hw1] at X0 X1 R0 R1 FX FR HBW1 hsz
        rw [← hw1]
        have HB1 : Hid (Below wE.heap.size wE w1) := by unfold Hid; rw [hw1]; exact Below.refl _ _
        clear hw1 bwE
        go_wp2_with fail
        refine (HP.out _ HBW1.out).mono ?_
        rintro e w0 ⟨rfl, b1⟩
        have HB0 : Hid (Below wE.heap.size wE w0) := HB1.out.trans (b1.mono HB1.out.size)
        clear X0 X1 R0 R1 FX FR HB1 HBW1 b1
        obtain ⟨w1, hw1⟩ : ∃ w1, w1 = w0 := ⟨_, rfl⟩
        rw [← hw1] at HB0
        rw [← hw1]
        clear hw1
        have HB1 := HB0
        obtain ⟨X0, X1, R0, R1, FX, FR, bw, hsz9⟩ := AT.out _ HB1.out
        have HBW1 := Lib.hid bw
        clear bw HB0
        have FR0 := FR 0
        have FR1 := FR 1
        have HEND : Hid (Below w.heap.size w ((w1.setCell ⟨w.heap.size + 1, 0, none⟩ (.int .i64 now)).setCell ⟨w.heap.size + 1, 1, none⟩ (.slice A n c))) := (HBW1.out.setCell (p := ⟨w.heap.size + 1, 0, none⟩) (by dsimp only; omega) _).setCell (p := ⟨w.heap.size + 1, 1, none⟩) (by dsimp only; omega) _
        clear FX FR
        go_wp2_with fail
        (try simp only [Exit.inBlock, Exit.then])
        refine bodyPost_cell (V := .agg #[.int .i64 now, .slice A n c]) rfl rfl ?_ rfl ?_
        · go_simp
        · exact ⟨_, rfl, HV.out.below HEND.out (Nat.le_refl _), HEND.out⟩
      | false =>
        have HNO := Lib.hid (withL_no l ⟨owner, shared, now + ticks⟩ hh)
        rw [hh, if_neg (by decide)] at HP
        rw [if_neg (by decide)]
        clear hh
        by_cases hb : shared = false ∧ 0 < n
        · rw [if_pos (Or.inr hb)]
          obtain ⟨hb1, hb2⟩ := hb
          subst hb1
          have d1 : decide ((0 : Int) < (n : Int)) = true := by simp; omega
          have d2 : decide (0 < n) = true := by simp; omega
          clear hb2
          go_enter Try.func16, Try.ntmps16
          obtain ⟨X0, X1, R0, R1, FX, FR, bwE, hsz⟩ := AT.out _ (Below.refl _ _)
          rw [← HWE.out] at X0 X1 R0 R1
          go_wp2_with fail
          rw [HWE.out]
          refine (HT.out _).mono ?_
          rintro e w' ⟨rfl, rfl⟩
          rw [HWE.out] at X0 X1 R0 R1
          have HBW1 := Lib.hid bwE
          have HB1 : Hid (Below wE.heap.size wE wE) := Below.refl _ _
          obtain ⟨w1, hw1⟩ : ∃ w1, w1 = wE := ⟨_, rfl⟩
          rw [← hw1] at X0 X1 R0 R1 FX FR HBW1 hsz
          rw [← hw1]
          have HB1 : Hid (Below wE.heap.size wE w1) := by unfold Hid; rw [hw1]; exact Below.refl _ _
          clear hw1 bwE
          go_wp2_with fail
          refine (HP.out _ HBW1.out).mono ?_
          rintro e w0 ⟨rfl, b1⟩
          have HB0 : Hid (Below wE.heap.size wE w0) := HB1.out.trans (b1.mono HB1.out.size)
          clear X0 X1 R0 R1 FX FR HB1 HBW1 b1
          obtain ⟨w1, hw1⟩ : ∃ w1, w1 = w0 := ⟨_, rfl⟩
          rw [← hw1] at HB0
          rw [← hw1]
          clear hw1
          have HB1 := HB0
          obtain ⟨X0, X1, R0, R1, FX, FR, bw, hsz9⟩ := AT.out _ HB1.out
          have HBW1 := Lib.hid bw
          clear bw HB0
          have FR0 := FR 0
          have FR1 := FR 1
          have HEND : Hid (Below w.heap.size w ((w1.setCell ⟨w.heap.size + 1, 0, none⟩ (.int .i64 now)).setCell ⟨w.heap.size + 1, 1, none⟩ (.slice A n c))) := (HBW1.out.setCell (p := ⟨w.heap.size + 1, 0, none⟩) (by dsimp only; omega) _).setCell (p := ⟨w.heap.size + 1, 1, none⟩) (by dsimp only; omega) _
          clear FX FR
          go_wp2_with fail
          (try simp only [Exit.inBlock, Exit.then])
          refine bodyPost_cell (V := .agg #[.int .i64 now, .slice A n c]) rfl rfl ?_ rfl ?_
          · go_simp
          · exact ⟨_, rfl, HV.out.below HEND.out (Nat.le_refl _), HEND.out⟩
        · rw [if_neg (by rintro (h | h); cases h; exact hb h)]
          by_cases h16 : 16 ≤ n
          · rw [if_pos h16]
            have d3 : decide ((16 : Int) ≤ (n : Int)) = true := by simp; omega
            have d4 : decide (16 ≤ n) = true := by simp; omega
            have d1 : decide ((0 : Int) < (n : Int)) = true := by simp; omega
            have d2 : decide (0 < n) = true := by simp; omega
            obtain rfl : shared = true := by cases shared with | true => rfl | false => exact absurd ⟨rfl, by omega⟩ hb
            clear hb h16
            go_enter Try.func16, Try.ntmps16
            obtain ⟨X0, X1, R0, R1, FX, FR, bwE, hsz⟩ := AT.out _ (Below.refl _ _)
            rw [← HWE.out] at X0 X1 R0 R1
            go_wp2_with fail
            rw [HWE.out]
            refine (HT.out _).mono ?_
            rintro e w' ⟨rfl, rfl⟩
            rw [HWE.out] at X0 X1 R0 R1
            have HBW1 := Lib.hid bwE
            have HB1 : Hid (Below wE.heap.size wE wE) := Below.refl _ _
            obtain ⟨w1, hw1⟩ : ∃ w1, w1 = wE := ⟨_, rfl⟩
            rw [← hw1] at X0 X1 R0 R1 FX FR HBW1 hsz
            rw [← hw1]
            have HB1 : Hid (Below wE.heap.size wE w1) := by unfold Hid; rw [hw1]; exact Below.refl _ _
            clear hw1 bwE
            go_wp2_with fail
            refine (HP.out _ HBW1.out).mono ?_
            rintro e w0 ⟨rfl, b1⟩
            have HB0 : Hid (Below wE.heap.size wE w0) := HB1.out.trans (b1.mono HB1.out.size)
            clear X0 X1 R0 R1 FX FR HB1 HBW1 b1
            obtain ⟨w1, hw1⟩ : ∃ w1, w1 = w0 := ⟨_, rfl⟩
            rw [← hw1] at HB0
            rw [← hw1]
            clear hw1
            have HB1 := HB0
            obtain ⟨X0, X1, R0, R1, FX, FR, bw, hsz9⟩ := AT.out _ HB1.out
            have HBW1 := Lib.hid bw
            clear bw HB0
            have FR0 := FR 0
            have FR1 := FR 1
            have HEND : Hid (Below w.heap.size w ((w1.setCell ⟨w.heap.size + 1, 0, none⟩ (.int .i64 now)).setCell ⟨w.heap.size + 1, 1, none⟩ (.slice A n c))) := (HBW1.out.setCell (p := ⟨w.heap.size + 1, 0, none⟩) (by dsimp only; omega) _).setCell (p := ⟨w.heap.size + 1, 1, none⟩) (by dsimp only; omega) _
            clear FX FR
            go_wp2_with fail
            (try simp only [Exit.inBlock, Exit.then])
            refine bodyPost_cell (V := .agg #[.int .i64 now, .slice A n c]) rfl rfl ?_ rfl ?_
            · go_simp
            · exact ⟨_, rfl, HV.out.below HEND.out (Nat.le_refl _), HEND.out⟩
          · rw [if_neg h16]
            have d3 : decide ((16 : Int) ≤ (n : Int)) = false := by simp; omega
            have d4 : decide (16 ≤ n) = false := by simp; omega
            have HSH : Hid (shared = true ∨ ¬ 0 < n) := by
              unfold Hid
              cases shared with
              | true => exact .inl rfl
              | false => exact .inr (fun h => hb ⟨rfl, h⟩)
            clear hb h16
            cases shared with
            | true =>
              go_enter Try.func16, Try.ntmps16
              obtain ⟨X0, X1, R0, R1, FX, FR, bwE, hsz⟩ := AT.out _ (Below.refl _ _)
              rw [← HWE.out] at X0 X1 R0 R1
              go_wp2_with fail
              rw [HWE.out]
              refine (HT.out _).mono ?_
              rintro e w' ⟨rfl, rfl⟩
              rw [HWE.out] at X0 X1 R0 R1
              have HBW1 := Lib.hid bwE
              have HB1 : Hid (Below wE.heap.size wE wE) := Below.refl _ _
              obtain ⟨w1, hw1⟩ : ∃ w1, w1 = wE := ⟨_, rfl⟩
              rw [← hw1] at X0 X1 R0 R1 FX FR HBW1 hsz
              rw [← hw1]
              have HB1 : Hid (Below wE.heap.size wE w1) := by unfold Hid; rw [hw1]; exact Below.refl _ _
              clear hw1 bwE
              go_wp2_with fail
              refine (HP.out _ HBW1.out).mono ?_
              rintro e w0 ⟨rfl, b1⟩
              have HB0 : Hid (Below wE.heap.size wE w0) := HB1.out.trans (b1.mono HB1.out.size)
              clear X0 X1 R0 R1 FX FR HB1 HBW1 b1
              obtain ⟨w1, hw1⟩ : ∃ w1, w1 = w0 := ⟨_, rfl⟩
              rw [← hw1] at HB0
              rw [← hw1]
              clear hw1
              have HB1 := HB0
              obtain ⟨X0, X1, R0, R1, FX, FR, bw, hsz9⟩ := AT.out _ HB1.out
              have HBW1 := Lib.hid bw
              clear bw HB0
              go_wp2_with fail
              have HBV := HB1
              refine Calls.mono (HWI.out ⟨owner, true, now + ticks⟩ _ (AT.out _ HBV.out).2.2.2.2.2.2.1) ?_
              rintro e w2 ⟨v2, rfl, ho2, b2⟩
              obtain ⟨zA, zc, rfl⟩ := OwnL.form ho2
              have HB2' : Hid (Below wE.heap.size wE w2) := HBV.out.trans (b2.mono HBV.out.size)
              clear X0 X1 R0 R1 FX FR
              obtain ⟨X0, X1, R0, R1, FX, FR, bw, hsz2⟩ := AT.out _ HB2'.out
              have FR0 := FR 0
              have FR1 := FR 1
              have HEND : Hid (LksN ((w2.setCell ⟨w.heap.size + 1, 0, none⟩ (.int .i64 now)).setCell ⟨w.heap.size + 1, 1, none⟩ (.slice zA (withL l ⟨owner, true, now + ticks⟩).length zc)) (.slice zA (withL l ⟨owner, true, now + ticks⟩).length zc) (withL l ⟨owner, true, now + ticks⟩) ∧ Below w.heap.size w ((w2.setCell ⟨w.heap.size + 1, 0, none⟩ (.int .i64 now)).setCell ⟨w.heap.size + 1, 1, none⟩ (.slice zA (withL l ⟨owner, true, now + ticks⟩).length zc))) :=
                ⟨LksN.of_owns ((ho2.set_lt (by have := HSZ.out; have := HBV.out.size; simp at this ⊢; omega)).set_lt (by have := HSZ.out; have := HBV.out.size; simp at this ⊢; omega)), (bw.setCell (p := ⟨w.heap.size + 1, 0, none⟩) (by dsimp only; omega) _).setCell (p := ⟨w.heap.size + 1, 1, none⟩) (by dsimp only; omega) _⟩
              obtain ⟨z, hz⟩ : ∃ z, z = (withL l ⟨owner, true, now + ticks⟩).length := ⟨_, rfl⟩
              rw [← hz] at HEND
              rw [← hz]
              clear ho2 b2 FX FR bw hz HBV HB2'
              go_wp2_with fail
              (try simp only [Exit.inBlock, Exit.then])
              refine bodyPost_cell (V := .agg #[.int .i64 now, .slice zA z zc]) rfl rfl ?_ rfl ?_
              · go_simp
              · exact ⟨_, rfl, by rw [← HNO.out]; exact HEND.out.1, HEND.out.2⟩
            | false =>
              have hn0 : ¬ 0 < n := HSH.out.resolve_left (by decide)
              have d1 : decide ((0 : Int) < (n : Int)) = false := by simp; omega
              have d2 : decide (0 < n) = false := by simp; omega
              clear hn0
              go_enter Try.func16, Try.ntmps16
              obtain ⟨X0, X1, R0, R1, FX, FR, bwE, hsz⟩ := AT.out _ (Below.refl _ _)
              rw [← HWE.out] at X0 X1 R0 R1
              go_wp2_with fail
              rw [HWE.out]
              refine (HT.out _).mono ?_
              rintro e w' ⟨rfl, rfl⟩
              rw [HWE.out] at X0 X1 R0 R1
              have HBW1 := Lib.hid bwE
              have HB1 : Hid (Below wE.heap.size wE wE) := Below.refl _ _
              obtain ⟨w1, hw1⟩ : ∃ w1, w1 = wE := ⟨_, rfl⟩
              rw [← hw1] at X0 X1 R0 R1 FX FR HBW1 hsz
              rw [← hw1]
              have HB1 : Hid (Below wE.heap.size wE w1) := by unfold Hid; rw [hw1]; exact Below.refl _ _
              clear hw1 bwE
              go_wp2_with fail
              refine (HP.out _ HBW1.out).mono ?_
              rintro e w0 ⟨rfl, b1⟩
              have HB0 : Hid (Below wE.heap.size wE w0) := HB1.out.trans (b1.mono HB1.out.size)
              clear X0 X1 R0 R1 FX FR HB1 HBW1 b1
              obtain ⟨w1, hw1⟩ : ∃ w1, w1 = w0 := ⟨_, rfl⟩
              rw [← hw1] at HB0
              rw [← hw1]
              clear hw1
              have HB1 := HB0
              obtain ⟨X0, X1, R0, R1, FX, FR, bw, hsz9⟩ := AT.out _ HB1.out
              have HBW1 := Lib.hid bw
              clear bw HB0
              go_wp2_with fail
              have HBV := HB1
              refine Calls.mono (HWI.out ⟨owner, false, now + ticks⟩ _ (AT.out _ HBV.out).2.2.2.2.2.2.1) ?_
              rintro e w2 ⟨v2, rfl, ho2, b2⟩
              obtain ⟨zA, zc, rfl⟩ := OwnL.form ho2
              have HB2' : Hid (Below wE.heap.size wE w2) := HBV.out.trans (b2.mono HBV.out.size)
              clear X0 X1 R0 R1 FX FR
              obtain ⟨X0, X1, R0, R1, FX, FR, bw, hsz2⟩ := AT.out _ HB2'.out
              have FR0 := FR 0
              have FR1 := FR 1
              have HEND : Hid (LksN ((w2.setCell ⟨w.heap.size + 1, 0, none⟩ (.int .i64 now)).setCell ⟨w.heap.size + 1, 1, none⟩ (.slice zA (withL l ⟨owner, false, now + ticks⟩).length zc)) (.slice zA (withL l ⟨owner, false, now + ticks⟩).length zc) (withL l ⟨owner, false, now + ticks⟩) ∧ Below w.heap.size w ((w2.setCell ⟨w.heap.size + 1, 0, none⟩ (.int .i64 now)).setCell ⟨w.heap.size + 1, 1, none⟩ (.slice zA (withL l ⟨owner, false, now + ticks⟩).length zc))) :=
                ⟨LksN.of_owns ((ho2.set_lt (by have := HSZ.out; have := HBV.out.size; simp at this ⊢; omega)).set_lt (by have := HSZ.out; have := HBV.out.size; simp at this ⊢; omega)), (bw.setCell (p := ⟨w.heap.size + 1, 0, none⟩) (by dsimp only; omega) _).setCell (p := ⟨w.heap.size + 1, 1, none⟩) (by dsimp only; omega) _⟩
              obtain ⟨z, hz⟩ : ∃ z, z = (withL l ⟨owner, false, now + ticks⟩).length := ⟨_, rfl⟩
              rw [← hz] at HEND
              rw [← hz]
              clear ho2 b2 FX FR bw hz HBV HB2'
              go_wp2_with fail
              (try simp only [Exit.inBlock, Exit.then])
              refine bodyPost_cell (V := .agg #[.int .i64 now, .slice zA z zc]) rfl rfl ?_ rfl ?_
              · go_simp
              · exact ⟨_, rfl, by rw [← HNO.out]; exact HEND.out.1, HEND.out.2⟩
end Go.Proofs.Ytffnkgfpbjmkbaa
