/- siloref46: Release, Pass at any locks. -/
import Derived.Test.YtffnkgfpbjmkbaaLkR4
namespace Go.Proofs.Ytffnkgfpbjmkbaa
open Go.RowKit
set_option linter.unusedVariables false
set_option linter.unusedSimpArgs false
theorem ownsRow_kept {w w' : World} {B : Nat} {e : TypeId} {sz n : Nat} {v : Value} {xs : List Value} (h : w.ownsRow B e sz v n xs) (hs : ∀ g, v.ownBlock = some g → w'.heap[g]? = w.heap[g]?) : w'.ownsRow B e sz v n xs := by
  refine ⟨h.1, ?_⟩
  rcases h.2 with h | ⟨g, cap, cur, hv, hb, hg, r⟩
  · exact .inl h
  · exact .inr ⟨g, cap, cur, hv, hb, (hs g (by rw [hv]; rfl)).trans hg, r⟩
theorem own_apart {w : World} {B n m : Nat} {u q : Value} {xs ys : List Value} (h : OwnL w B u n xs) (h' : w.ownsRow B 22 1 q m ys) : ∀ g, u.ownBlock = some g → q.ownBlock ≠ some g ∧ g < w.heap.size := by
  intro g hg
  rcases h.2 with ⟨hv, _⟩ | ⟨g1, cap, cur, hv, hb, hr, _⟩
  · rw [hv] at hg; cases hg
  · rw [hv] at hg; cases hg
    refine ⟨fun e => ?_, (Array.getElem?_eq_some_iff.1 hr).1⟩
    rcases h'.2 with ⟨hv', _⟩ | ⟨g2, cap', cur', hv', hb', hr', _⟩
    · rw [hv'] at e; cases e
    · rw [hv'] at e
      cases e
      (try dsimp only at hr)
      (try dsimp only at hr')
      rw [hr] at hr'
      cases hr'
theorem own_apart2 {w : World} {B n m : Nat} {u q : Value} {xs ys : List Value} (h : OwnL w B u n xs) (h' : w.ownsRow B 22 1 q m ys) : ∀ g, q.ownBlock = some g → u.ownBlock ≠ some g ∧ g < w.heap.size := by
  intro g hg
  refine ⟨fun e => (own_apart h h' g e).1 hg, ?_⟩
  rcases h'.2 with ⟨hv, _⟩ | ⟨g1, cap, cur, hv, hb, hr, _⟩
  · rw [hv] at hg; cases hg
  · rw [hv] at hg; cases hg
    exact (Array.getElem?_eq_some_iff.1 hr).1
def relL (l : List Lk) (k : UInt64) : List Lk := l.filter fun x => decide (x.o ≠ k)
theorem relL_take (l : List Lk) (k : UInt64) (j : Nat) (h : j < l.length) : relL (l.take (j + 1)) k = relL (l.take j) k ++ (if l[j].o = k then [] else [l[j]]) := by
  unfold relL
  rw [List.take_succ_eq_append_getElem h, List.filter_append]
  congr 1
  by_cases hp : l[j].o = k <;> simp [hp]
theorem relL_len (l : List Lk) (k : UInt64) : (relL l k).length ≤ l.length := List.length_filter_le _ _
theorem relL_erase (l : List Lk) (k : UInt64) (hr : RisO l) (hh : hasO l k = true) : relL l k = l.eraseIdx (placeO l k) := by
  have hlt := hasO_lt hh
  have hat := hasO_at hh
  rw [List.eraseIdx_eq_take_drop_succ]
  have e : l = l.take (placeO l k) ++ l[placeO l k] :: l.drop (placeO l k + 1) := by
    rw [← List.drop_eq_getElem_cons hlt, List.take_append_drop]
  conv => lhs; rw [e]
  unfold relL
  rw [List.filter_append, List.filter_cons]
  rw [if_neg (by simp [hat])]
  congr 1
  · refine List.filter_eq_self.2 fun x hx => ?_
    obtain ⟨i, hi, rfl⟩ := List.getElem_of_mem hx
    rw [List.length_take] at hi
    rw [List.getElem_take]
    have := (placeO_lt l k hr i (by omega)).2 (by omega)
    simp only [ne_eq, decide_not, Bool.not_eq_true', decide_eq_false_iff_not]
    intro e
    rw [e] at this
    exact absurd this (UInt64.lt_irrefl k)
  · refine List.filter_eq_self.2 fun x hx => ?_
    obtain ⟨i, hi, rfl⟩ := List.getElem_of_mem hx
    rw [List.length_drop] at hi
    rw [List.getElem_drop]
    have := List.pairwise_iff_getElem.1 hr (placeO l k) (placeO l k + 1 + i) hlt (by omega) (by omega)
    rw [hat] at this
    simp only [ne_eq, decide_not, Bool.not_eq_true', decide_eq_false_iff_not]
    intro e
    rw [e] at this
    exact absurd this (UInt64.lt_irrefl k)
set_option maxRecDepth 20000 in
set_option maxHeartbeats 8000000 in
theorem rrelease_any (now : Int) (v : Value) (l : List Lk) (owner : UInt64) (w : World) (hv : LksN w v l) (hr : RisO l) (hl : l.length ≤ 100000) :
    Calls Try.prog 19 #[Lc now v, .int .u64 owner.toNat] w fun e w' => ∃ v', e = .returned (.tuple #[Lc now v', .int .i64 (relP l owner).2]) ∧ LksN w' v' (relP l owner).1 ∧ Below w.heap.size w w' := by
  have HV := Lib.hid hv
  have HR := Lib.hid hr
  have HPL := Lib.hid (@hasO_lt l owner)
  have HPE := Lib.hid (@hasO_at l owner)
  have HP := Lib.hid (fun w' (b : Below w.heap.size w w') => rplace_any now v l owner w' (hv.1.below b (Nat.le_refl _)) hr (by omega))
  have HWI := Lib.hid (fun (x : Lk) w' (b : Below w.heap.size w w') => rwith_any now v l x w' (hv.1.below b (Nat.le_refl _)) hr hl)
  obtain ⟨A, c, rfl, h2, h3, h4⟩ := hv.1
  have hc9 : c ≤ 9223372036854775807 := by unfold maxLen at h3; omega
  have HC := Lib.hid h4
  obtain ⟨n, hn⟩ : ∃ n, n = l.length := ⟨_, rfl⟩
  have HN := Lib.hid hn
  rw [← hn] at h2 HV HP HWI
  unfold Lc at HP HWI ⊢
  rw [← hn]
  have hln : n ≤ 100000 := by omega
  clear hn h3 h4 hv hr hl
  have HB2 : Hid (Below w.heap.size w ((w.alloc (.cells #[.int .i64 now, .slice A n c] 27)).alloc (.cells #[.int .i64 0, .slice none 0 0] 27))) := ((Below.refl _ _).alloc (Nat.le_refl _) _).alloc (by simp) _
  have HSZ : Hid (((w.alloc (.cells #[.int .i64 now, .slice A n c] 27)).alloc (.cells #[.int .i64 0, .slice none 0 0] 27)).heap.size = w.heap.size + 2) := by unfold Hid; simp
  have q2 : ((w.alloc (.cells #[.int .i64 now, .slice A n c] 27)).alloc (.cells #[.int .i64 0, .slice none 0 0] 27)).heap[w.heap.size + 1]? = some (.cells #[.int .i64 0, .slice none 0 0] 27) := by
    have := heap_alloc_new (w.alloc (.cells #[.int .i64 now, .slice A n c] 27)) (.cells #[.int .i64 0, .slice none 0 0] 27)
    simpa using this
  have q1 : ((w.alloc (.cells #[.int .i64 now, .slice A n c] 27)).alloc (.cells #[.int .i64 0, .slice none 0 0] 27)).heap[w.heap.size]? = some (.cells #[.int .i64 now, .slice A n c] 27) := by
    rw [heap_alloc_old _ _ (by simp)]
    exact heap_alloc_new _ _
  obtain ⟨wE, hwE⟩ : ∃ wE, wE = ((w.alloc (.cells #[.int .i64 now, .slice A n c] 27)).alloc (.cells #[.int .i64 0, .slice none 0 0] 27)) := ⟨_, rfl⟩
  rw [← hwE] at HB2 HSZ q1 q2
  have HWE := Lib.hid hwE.symm
  clear hwE
  have AT : Hid (Hid (∀ w', Below wE.heap.size wE w' → w'.cell? ⟨w.heap.size, 0, none⟩ = some (.int .i64 now) ∧ w'.cell? ⟨w.heap.size, 1, none⟩ = some (.slice A n c) ∧ w'.cell? ⟨w.heap.size + 1, 0, none⟩ = some (.int .i64 0) ∧ w'.cell? ⟨w.heap.size + 1, 1, none⟩ = some (.slice none 0 0) ∧ (∀ j, w'.frozen? ⟨w.heap.size, j, none⟩ = false) ∧ (∀ j, w'.frozen? ⟨w.heap.size + 1, j, none⟩ = false) ∧ Below w.heap.size w w' ∧ w.heap.size + 2 ≤ w'.heap.size)) := by
    intro w' b
    have hs := HSZ.out
    have e1 := cells2 (w := w') ((b.block _ (by omega)).trans q1)
    have e2 := cells2 (w := w') ((b.block _ (by omega)).trans q2)
    exact ⟨e1.1, e1.2.1, e2.1, e2.2.1, e1.2.2, e2.2.2, HB2.out.trans (b.mono HB2.out.size), by have := b.size; omega⟩
  clear q1 q2
  unfold relP
  unfold plI at HP
  cases hh : hasO l owner with
  | false =>
    rw [hh, if_neg (by decide)] at HP
    rw [if_neg (by decide)]
    clear hh
    go_enter Try.func19, Try.ntmps19
    go_wp2_with fail
    rw [HWE.out]
    refine (HP.out _ (AT.out _ (Below.refl _ _)).2.2.2.2.2.2.1).mono ?_
    rintro e w1 ⟨rfl, b1⟩
    have HB1 := Lib.hid b1
    obtain ⟨X0, X1, R0, R1, FX, FR, bw, hsz⟩ := AT.out _ b1
    have HBW1 := Lib.hid bw
    clear b1 bw
    have FR0 := FR 0
    have FR1 := FR 1
    have HEND : Hid (Below w.heap.size w ((w1.setCell ⟨w.heap.size + 1, 0, none⟩ (.int .i64 now)).setCell ⟨w.heap.size + 1, 1, none⟩ (.slice A n c))) := (HBW1.out.setCell (p := ⟨w.heap.size + 1, 0, none⟩) (by dsimp only; omega) _).setCell (p := ⟨w.heap.size + 1, 1, none⟩) (by dsimp only; omega) _
    clear FX FR
    go_wp2_with fail
    (try simp only [Exit.inBlock, Exit.then])
    refine bodyPost_cell (V := .agg #[.int .i64 now, .slice A n c]) rfl rfl ?_ rfl ?_
    · go_simp
    · exact ⟨_, rfl, HV.out.below HEND.out (Nat.le_refl _), HEND.out⟩
  | true =>
    have HRE : Hid (relL l owner = l.eraseIdx (placeO l owner)) := relL_erase l owner HR.out hh
    rw [hh, if_pos rfl] at HP
    rw [if_pos rfl]
    have hp2 : ¬ ((placeO l owner : Int) < 0) := by omega
    have hp0 : (0 : Int) ≤ (placeO l owner : Int) := by omega
    clear hh
    go_enter Try.func19, Try.ntmps19
    go_wp2_with fail
    rw [HWE.out]
    refine (HP.out _ (AT.out _ (Below.refl _ _)).2.2.2.2.2.2.1).mono ?_
    rintro e w1 ⟨rfl, b1⟩
    have HB1 := Lib.hid b1
    obtain ⟨X0, X1, R0, R1, FX, FR, bw, hsz⟩ := AT.out _ b1
    have HBW1 := Lib.hid bw
    clear b1 bw
    go_wp2_with fail
    clear X0 X1 R0 R1 FX FR hp2 hp0
    go_loopw [6, 7] (fun u a wr => ∃ j : Nat, j ≤ n ∧ a = .int .i64 j ∧ Hid (OwnL wr w1.heap.size u (relL (l.take j) owner).length (lkC (relL (l.take j) owner))) ∧ Hid (Below w1.heap.size w1 wr)) (fun _ a _ => n - (intOf a).toNat)
    case atStart => exact ⟨0, Nat.zero_le _, rfl, World.ownsRow_nil _ _ _ _, Below.refl _ _⟩
    case round =>
      obtain ⟨j, hj, rfl, HU, HBr⟩ := hrel
      obtain ⟨X0, X1, R0, R1, FX, FR, bw, hszr⟩ := AT.out _ (HB1.out.trans (HBr.out.mono HB1.out.size))
      have HBW := Lib.hid bw
      have HUO : Hid (∀ k, u6.ownBlock = some k → w1.heap.size ≤ k) := by
        intro k hk
        rcases HU.out.2 with ⟨h, _⟩ | ⟨g, cap, cur, hv, hg, hr, r⟩
        · rw [h] at hk; cases hk
        · rw [hv] at hk; cases hk; exact hg
      by_cases hlt : j < n
      · have hlt' : (j : Int) < (n : Int) := by omega
        have hnn := HN.out
        obtain ⟨b, off, rfl, hblt, hcells⟩ := HC.out (by omega)
        have hml : j < l.length := by omega
        have hj0 : (0 : Int) ≤ (j : Int) := by omega
        obtain ⟨x1, x2, x3⟩ := hcells j hml
        have y1 := (HBW.out.cell (p := ⟨b, off + j * 3, none⟩) hblt).trans x1
        have y2 := (HBW.out.cell (p := ⟨b, off + j * 3 + 1, none⟩) hblt).trans x2
        have y3 := (HBW.out.cell (p := ⟨b, off + j * 3 + 2, none⟩) hblt).trans x3
        have HLE : Hid ((relL (l.take j) owner).length ≤ 200000) := by
          have h1 := relL_len (l.take j) owner
          rw [List.length_take] at h1
          unfold Hid; omega
        have HTK := Lib.hid (relL_take l owner j hml)
        generalize l[j] = y at *
        clear hcells hnn x1 x2 x3 bw FX FR
        by_cases hq : y.o = owner
        · have ne1 : ((y.o.toNat : Int) != (owner.toNat : Int)) = false := by rw [hq]; simp
          have ne2 : (y.o.toNat != owner.toNat) = false := by rw [hq]; simp
          rw [if_pos hq, List.append_nil] at HTK
          have HU9 : Hid (OwnL wr w1.heap.size u6 (relL (l.take (j + 1)) owner).length (lkC (relL (l.take (j + 1)) owner))) := by unfold Hid; rw [HTK.out]; exact HU.out
          clear hq
          go_wp2_with fail
          go_roundw
          case rel => exact ⟨j + 1, by omega, by go_num, HU9, HBr⟩
          case measure => simp [intOf]; omega
        · have ne1 : ((y.o.toNat : Int) != (owner.toNat : Int)) = true := by rw [bne_iff_ne]; intro e; exact hq (UInt64.toNat_inj.1 (by omega))
          have ne2 : (y.o.toNat != owner.toNat) = true := by rw [bne_iff_ne]; intro e; exact hq (UInt64.toNat_inj.1 e)
          rw [if_neg hq] at HTK
          clear hq
          have hb9 := HBr.out
          go_wp2_with (at_builtin; refine wpList_append_lN rfl _ _ rfl w1.heap.size u6 rfl (relL (l.take j) owner) (World.ownsRow.alloc HU.out _) ⟨_, 0, none⟩ 1 1 [y] rfl rfl (new_src _ _) (by have := HLE.out; omega) (by have := hb9.size; simp at this ⊢; omega) ?_)
          intro u9 w9 ho9 hg1
          have HB9 : Hid (Below w1.heap.size w1 w9) := (hb9.alloc hb9.size _).grown hg1 (hb9.alloc hb9.size _).size HUO.out
          have HU9 : Hid (OwnL w9 w1.heap.size u9 (relL (l.take (j + 1)) owner).length (lkC (relL (l.take (j + 1)) owner))) := by
            unfold Hid
            rw [HTK.out]
            first
              | (rw [List.length_append]; exact ho9)
              | (simpa using ho9)
          clear hg1 hb9 ho9
          go_wp2_with fail
          go_roundw
          case rel => exact ⟨j + 1, by omega, by go_num, HU9, HB9⟩
          case measure => simp [intOf]; omega
      · obtain rfl : j = n := by omega
        have HU2 : Hid (OwnL wr w1.heap.size u6 (l.eraseIdx (placeO l owner)).length (lkC (l.eraseIdx (placeO l owner)))) := by
          have h := HU.out
          rw [List.take_of_length_le (by rw [← HN.out]; omega), HRE.out] at h
          exact h
        obtain ⟨zA, zc, rfl⟩ := OwnL.form HU2.out
        have fr0 := FR 0
        have fr1 := FR 1
        have fx1 := FX 1
        have HEND : Hid (LksN (((wr.setCell ⟨w.heap.size, 1, none⟩ (.slice zA (l.eraseIdx (placeO l owner)).length zc)).setCell ⟨w.heap.size + 1, 0, none⟩ (.int .i64 now)).setCell ⟨w.heap.size + 1, 1, none⟩ (.slice zA (l.eraseIdx (placeO l owner)).length zc)) (.slice zA (l.eraseIdx (placeO l owner)).length zc) (l.eraseIdx (placeO l owner))) :=
          LksN.of_owns (((HU2.out.set_lt (by omega)).set_lt (by omega)).set_lt (by omega))
        have HENDB : Hid (Below w.heap.size w (((wr.setCell ⟨w.heap.size, 1, none⟩ (.slice zA (l.eraseIdx (placeO l owner)).length zc)).setCell ⟨w.heap.size + 1, 0, none⟩ (.int .i64 now)).setCell ⟨w.heap.size + 1, 1, none⟩ (.slice zA (l.eraseIdx (placeO l owner)).length zc))) :=
          ((HBW.out.setCell (p := ⟨w.heap.size, 1, none⟩) (by dsimp only; omega) _).setCell (p := ⟨w.heap.size + 1, 0, none⟩) (by dsimp only; omega) _).setCell (p := ⟨w.heap.size + 1, 1, none⟩) (by dsimp only; omega) _
        obtain ⟨z, hz⟩ : ∃ z, z = (l.eraseIdx (placeO l owner)).length := ⟨_, rfl⟩
        rw [← hz] at HEND HENDB
        rw [← hz]
        clear HU HU2 FX FR bw hz
        go_wp2_with fail
        (try simp only [Exit.inBlock, Exit.then])
        refine bodyPost_cell (V := .agg #[.int .i64 now, .slice zA z zc]) rfl rfl ?_ rfl ?_
        · go_simp
        · exact ⟨_, rfl, HEND.out, HENDB.out⟩
set_option maxRecDepth 20000 in
set_option maxHeartbeats 8000000 in
theorem rpass_any (now : Int) (v : Value) (l : List Lk) (ticks : Int) (w : World) (hv : LksN w v l) (hl : l.length ≤ 100000) (h0 : 0 ≤ now) (h1 : now ≤ 1000000000000) :
    Calls Try.prog 20 #[Lc now v, .int .i64 ticks] w fun e w' => ∃ v' u, e = .returned (.tuple #[Lc (passN now ticks) v', u]) ∧ LksN w' v' (keepL l (overB (passN now ticks))) ∧ UsB w' u (lostL l (passN now ticks)) ∧ Below w.heap.size w w' := by
  have HV := Lib.hid hv
  obtain ⟨A, c, rfl, h2, h3, h4⟩ := hv.1
  have hc9 : c ≤ 9223372036854775807 := by unfold maxLen at h3; omega
  have HC := Lib.hid h4
  obtain ⟨n, hn⟩ : ∃ n, n = l.length := ⟨_, rfl⟩
  have HN := Lib.hid hn
  rw [← hn] at h2 HV
  unfold Lc
  rw [← hn]
  have hln : n ≤ 100000 := by omega
  clear hn h3 h4 hv hl
  have hb0 : 0 ≤ max 0 (min ticks 1073741824) := by omega
  have hb1 : max 0 (min ticks 1073741824) ≤ 1073741824 := by omega
  obtain ⟨now2, hm3⟩ : ∃ now2, min (now + max 0 (min ticks 1073741824)) 274877906944 = now2 := ⟨_, rfl⟩
  have hpn : passN now ticks = now2 := by unfold passN; omega
  rw [hpn]
  clear hpn
  have HB2 : Hid (Below w.heap.size w ((w.alloc (.cells #[.int .i64 now2, .slice A n c] 27)).alloc (.cells #[.int .i64 0, .slice none 0 0] 27))) := ((Below.refl _ _).alloc (Nat.le_refl _) _).alloc (by simp) _
  have HSZ : Hid (((w.alloc (.cells #[.int .i64 now2, .slice A n c] 27)).alloc (.cells #[.int .i64 0, .slice none 0 0] 27)).heap.size = w.heap.size + 2) := by unfold Hid; simp
  have q2 : ((w.alloc (.cells #[.int .i64 now2, .slice A n c] 27)).alloc (.cells #[.int .i64 0, .slice none 0 0] 27)).heap[w.heap.size + 1]? = some (.cells #[.int .i64 0, .slice none 0 0] 27) := by
    have := heap_alloc_new (w.alloc (.cells #[.int .i64 now2, .slice A n c] 27)) (.cells #[.int .i64 0, .slice none 0 0] 27)
    simpa using this
  have q1 : ((w.alloc (.cells #[.int .i64 now2, .slice A n c] 27)).alloc (.cells #[.int .i64 0, .slice none 0 0] 27)).heap[w.heap.size]? = some (.cells #[.int .i64 now2, .slice A n c] 27) := by
    rw [heap_alloc_old _ _ (by simp)]
    exact heap_alloc_new _ _
  obtain ⟨wE, hwE⟩ : ∃ wE, wE = ((w.alloc (.cells #[.int .i64 now2, .slice A n c] 27)).alloc (.cells #[.int .i64 0, .slice none 0 0] 27)) := ⟨_, rfl⟩
  rw [← hwE] at HB2 HSZ q1 q2
  have HWE := Lib.hid hwE.symm
  clear hwE
  have AT : Hid (Hid (∀ w', Below wE.heap.size wE w' → w'.cell? ⟨w.heap.size, 0, none⟩ = some (.int .i64 now2) ∧ w'.cell? ⟨w.heap.size, 1, none⟩ = some (.slice A n c) ∧ w'.cell? ⟨w.heap.size + 1, 0, none⟩ = some (.int .i64 0) ∧ w'.cell? ⟨w.heap.size + 1, 1, none⟩ = some (.slice none 0 0) ∧ (∀ j, w'.frozen? ⟨w.heap.size, j, none⟩ = false) ∧ (∀ j, w'.frozen? ⟨w.heap.size + 1, j, none⟩ = false) ∧ Below w.heap.size w w' ∧ w.heap.size + 2 ≤ w'.heap.size)) := by
    intro w' b
    have hs := HSZ.out
    have e1 := cells2 (w := w') ((b.block _ (by omega)).trans q1)
    have e2 := cells2 (w := w') ((b.block _ (by omega)).trans q2)
    exact ⟨e1.1, e1.2.1, e2.1, e2.2.1, e1.2.2, e2.2.2, HB2.out.trans (b.mono HB2.out.size), by have := b.size; omega⟩
  clear q1 q2
  go_enter Try.func20, Try.ntmps20
  go_wp2_with fail
  rw [HWE.out]
  clear HWE hm3
  go_loopw [6, 7, 8] (fun u q a wr => ∃ j : Nat, j ≤ n ∧ a = .int .i64 j ∧ Hid (OwnL wr wE.heap.size u (keepL (l.take j) (overB now2)).length (lkC (keepL (l.take j) (overB now2)))) ∧ Hid (wr.ownsRow wE.heap.size 22 1 q (lostL (l.take j) now2).length (uC (lostL (l.take j) now2))) ∧ Hid (Below wE.heap.size wE wr)) (fun _ _ a _ => n - (RowKit.intOf a).toNat)
  case atStart => exact ⟨0, Nat.zero_le _, rfl, World.ownsRow_nil _ _ _ _, World.ownsRow_nil _ _ _ _, Below.refl _ _⟩
  case round =>
    obtain ⟨j, hj, rfl, HU, HQ, HBr⟩ := hrel
    obtain ⟨X0, X1, R0, R1, FX, FR, bw, hszr⟩ := AT.out _ HBr.out
    have HBW := Lib.hid bw
    by_cases hlt : j < n
    · have hlt' : (j : Int) < (n : Int) := by omega
      have hnn := HN.out
      obtain ⟨b, off, rfl, hblt, hcells⟩ := HC.out (by omega)
      have hml : j < l.length := by omega
      have hj0 : (0 : Int) ≤ (j : Int) := by omega
      obtain ⟨x1, x2, x3⟩ := hcells j hml
      have y1 := (HBW.out.cell (p := ⟨b, off + j * 3, none⟩) hblt).trans x1
      have y2 := (HBW.out.cell (p := ⟨b, off + j * 3 + 1, none⟩) hblt).trans x2
      have y3 := (HBW.out.cell (p := ⟨b, off + j * 3 + 2, none⟩) hblt).trans x3
      have HLE : Hid ((keepL (l.take j) (overB now2)).length ≤ 200000 ∧ (lostL (l.take j) now2).length ≤ 1000000) := by
        have h1 := keep_le l (overB now2) j
        have h2 := lost_len (l.take j) now2
        rw [List.length_take] at h2
        unfold Hid
        constructor <;> omega
      have HTK := Lib.hid (keep_take l (overB now2) j hml)
      have HTL := Lib.hid (lost_take l now2 j hml)
      generalize l[j] = y at *
      clear hcells hnn x1 x2 x3 bw FX FR
      cases hp : overB now2 y with
      | true =>
        have d1 : decide (y.u ≤ now2) = true := hp
        rw [hp, if_pos rfl] at HTK HTL
        rw [List.append_nil] at HTK
        go_wp2_with fail
        go_quiet (fail)
        have hb9 := Below.drewN HBr.out nq
        have hq9 : (wr.drewN nq).ownsRow wE.heap.size 22 1 u7 (lostL (l.take j) now2).length (uC (lostL (l.take j) now2)) := HQ.out
        have hu9 : OwnL (wr.drewN nq) wE.heap.size u6 (keepL (l.take j) (overB now2)).length (lkC (keepL (l.take j) (overB now2))) := HU.out
        obtain ⟨wz, hwz⟩ : ∃ wz, wz = wr.drewN nq := ⟨_, rfl⟩
        have Z1 : wz.cell? ⟨w.heap.size, 1, none⟩ = some (.slice (some ⟨b, off, none⟩) n c) := by rw [hwz]; exact X1
        have Y1 : wz.cell? ⟨b, off + j * 3, none⟩ = some (.int .u64 y.o.toNat) := by rw [hwz]; exact y1
        rw [← hwz] at hb9 hq9 hu9 ⊢
        clear hwz X0 X1 R0 R1 y1 y2 y3
        have HQO : Hid (∀ k, u7.ownBlock = some k → wE.heap.size ≤ k) := by
          intro k hk
          rcases hq9.2 with ⟨h, _⟩ | ⟨g, cap, cur, hv, hg, hr, r⟩
          · rw [h] at hk; cases hk
          · rw [hv] at hk; cases hk; exact hg
        have HAP : Hid (∀ g, u6.ownBlock = some g → u7.ownBlock ≠ some g ∧ g < wz.heap.size) := own_apart hu9 hq9
        have HB9' := Lib.hid hb9
        have HQ9 := Lib.hid hq9
        have HU9' := Lib.hid hu9
        clear hb9 hq9 hu9
        go_wp2_with (at_builtin; refine wpList_pushU rfl _ _ rfl wE.heap.size u7 rfl (lostL (l.take j) now2) (World.ownsRow.alloc HQ9.out _) _ 1 y.o rfl (by simp) HLE.out.2 (by have := HB9'.out.size; simp at this ⊢; omega) ?_)
        intro q9 w9 ho9 hg1
        have HB9 : Hid (Below wE.heap.size wE w9) := (HB9'.out.alloc HB9'.out.size _).grown hg1 (HB9'.out.alloc HB9'.out.size _).size HQO.out
        have HQQ : Hid (w9.ownsRow wE.heap.size 22 1 q9 (lostL (l.take (j + 1)) now2).length (uC (lostL (l.take (j + 1)) now2))) := by
          unfold Hid
          rw [HTL.out, List.length_append]
          exact ho9
        have HUU : Hid (OwnL w9 wE.heap.size u6 (keepL (l.take (j + 1)) (overB now2)).length (lkC (keepL (l.take (j + 1)) (overB now2)))) := by
          unfold Hid
          rw [HTK.out]
          refine ownsRow_kept HU9'.out fun g hg => ?_
          obtain ⟨hne, hgl⟩ := HAP.out g hg
          exact (hg1.block g (by simp; omega) (Ne.symm hne)).trans (heap_alloc_old _ _ hgl)
        clear hg1 ho9
        go_wp2_with fail
        go_roundw
        case rel => exact ⟨j + 1, by omega, by go_num, HUU, HQQ, HB9⟩
        case measure => simp [RowKit.intOf]; omega
      | false =>
        have d1 : decide (y.u ≤ now2) = false := hp
        rw [hp, if_neg (by decide)] at HTK HTL
        rw [List.append_nil] at HTL
        go_wp2_with fail
        go_quiet (fail)
        have hb9 := Below.drewN HBr.out nq
        have hq9 : (wr.drewN nq).ownsRow wE.heap.size 22 1 u7 (lostL (l.take j) now2).length (uC (lostL (l.take j) now2)) := HQ.out
        have hu9 : OwnL (wr.drewN nq) wE.heap.size u6 (keepL (l.take j) (overB now2)).length (lkC (keepL (l.take j) (overB now2))) := HU.out
        obtain ⟨wz, hwz⟩ : ∃ wz, wz = wr.drewN nq := ⟨_, rfl⟩
        have Z1 : wz.cell? ⟨w.heap.size, 1, none⟩ = some (.slice (some ⟨b, off, none⟩) n c) := by rw [hwz]; exact X1
        have Y1 : wz.cell? ⟨b, off + j * 3, none⟩ = some (.int .u64 y.o.toNat) := by rw [hwz]; exact y1
        have Y2 : wz.cell? ⟨b, off + j * 3 + 1, none⟩ = some (.bool y.s) := by rw [hwz]; exact y2
        have Y3 : wz.cell? ⟨b, off + j * 3 + 2, none⟩ = some (.int .i64 y.u) := by rw [hwz]; exact y3
        rw [← hwz] at hb9 hq9 hu9 ⊢
        clear hwz X0 X1 R0 R1 y1 y2 y3
        have HUO : Hid (∀ k, u6.ownBlock = some k → wE.heap.size ≤ k) := by
          intro k hk
          rcases hu9.2 with ⟨h, _⟩ | ⟨g, cap, cur, hv, hg, hr, r⟩
          · rw [h] at hk; cases hk
          · rw [hv] at hk; cases hk; exact hg
        have HAP : Hid (∀ g, u7.ownBlock = some g → u6.ownBlock ≠ some g ∧ g < wz.heap.size) := own_apart2 hu9 hq9
        have HB9' := Lib.hid hb9
        have HQ9 := Lib.hid hq9
        have HU9' := Lib.hid hu9
        clear hb9 hq9 hu9
        go_wp2_with (at_builtin; refine wpList_append_lN rfl _ _ rfl wE.heap.size u6 rfl (keepL (l.take j) (overB now2)) (World.ownsRow.alloc HU9'.out _) ⟨_, 0, none⟩ 1 1 [y] rfl rfl (new_src _ _) (by have := HLE.out.1; omega) (by have := HB9'.out.size; simp at this ⊢; omega) ?_)
        intro u9 w9 ho9 hg1
        have HB9 : Hid (Below wE.heap.size wE w9) := (HB9'.out.alloc HB9'.out.size _).grown hg1 (HB9'.out.alloc HB9'.out.size _).size HUO.out
        have HUU : Hid (OwnL w9 wE.heap.size u9 (keepL (l.take (j + 1)) (overB now2)).length (lkC (keepL (l.take (j + 1)) (overB now2)))) := by
          unfold Hid
          rw [HTK.out]
          first
            | (rw [List.length_append]; exact ho9)
            | (simpa using ho9)
        have HQQ : Hid (w9.ownsRow wE.heap.size 22 1 u7 (lostL (l.take (j + 1)) now2).length (uC (lostL (l.take (j + 1)) now2))) := by
          unfold Hid
          rw [HTL.out]
          refine ownsRow_kept HQ9.out fun g hg => ?_
          obtain ⟨hne, hgl⟩ := HAP.out g hg
          exact (hg1.block g (by simp; omega) (Ne.symm hne)).trans (heap_alloc_old _ _ hgl)
        clear hg1 ho9
        go_wp2_with fail
        go_roundw
        case rel => exact ⟨j + 1, by omega, by go_num, HUU, HQQ, HB9⟩
        case measure => simp [RowKit.intOf]; omega
    · obtain rfl : j = n := by omega
      have HU2 : Hid (OwnL wr wE.heap.size u6 (keepL l (overB now2)).length (lkC (keepL l (overB now2)))) := by
        have h := HU.out
        rw [List.take_of_length_le (by rw [← HN.out]; omega)] at h
        exact h
      have HQ2 : Hid (wr.ownsRow wE.heap.size 22 1 u7 (lostL l now2).length (uC (lostL l now2))) := by
        have h := HQ.out
        rw [List.take_of_length_le (by rw [← HN.out]; omega)] at h
        exact h
      obtain ⟨zA, zc, rfl⟩ := OwnL.form HU2.out
      have hu7 : ∃ uA uc, u7 = .slice uA (lostL l now2).length uc := by
        rcases HQ2.out.2 with ⟨h, h9⟩ | ⟨g, cap, cur, hv, _⟩
        · exact ⟨none, 0, by rw [h, h9]⟩
        · exact ⟨_, _, hv⟩
      obtain ⟨uA, uc, rfl⟩ := hu7
      have fr0 := FR 0
      have fr1 := FR 1
      have fx1 := FX 1
      have HEND : Hid (LksN (((wr.setCell ⟨w.heap.size, 1, none⟩ (.slice zA (keepL l (overB now2)).length zc)).setCell ⟨w.heap.size + 1, 0, none⟩ (.int .i64 now2)).setCell ⟨w.heap.size + 1, 1, none⟩ (.slice zA (keepL l (overB now2)).length zc)) (.slice zA (keepL l (overB now2)).length zc) (keepL l (overB now2))) :=
        LksN.of_owns (((HU2.out.set_lt (by have := HSZ.out; omega)).set_lt (by have := HSZ.out; omega)).set_lt (by have := HSZ.out; omega))
      have HENDU : Hid (UsB (((wr.setCell ⟨w.heap.size, 1, none⟩ (.slice zA (keepL l (overB now2)).length zc)).setCell ⟨w.heap.size + 1, 0, none⟩ (.int .i64 now2)).setCell ⟨w.heap.size + 1, 1, none⟩ (.slice zA (keepL l (overB now2)).length zc)) (.slice uA (lostL l now2).length uc) (lostL l now2)) :=
        UsB.of_owns (ownsRow_kept HQ2.out fun g hg => by
          have hgb : wE.heap.size ≤ g := by
            rcases HQ2.out.2 with ⟨h, _⟩ | ⟨g', cap, cur, hv, hb, _⟩
            · rw [h] at hg; cases hg
            · rw [hv] at hg; cases hg; exact hb
          have hs := HSZ.out
          rw [heap_setCell_other _ _ g _ (by dsimp only; omega), heap_setCell_other _ _ g _ (by dsimp only; omega), heap_setCell_other _ _ g _ (by dsimp only; omega)])
      have HENDB : Hid (Below w.heap.size w (((wr.setCell ⟨w.heap.size, 1, none⟩ (.slice zA (keepL l (overB now2)).length zc)).setCell ⟨w.heap.size + 1, 0, none⟩ (.int .i64 now2)).setCell ⟨w.heap.size + 1, 1, none⟩ (.slice zA (keepL l (overB now2)).length zc))) :=
        ((HBW.out.setCell (p := ⟨w.heap.size, 1, none⟩) (by dsimp only; omega) _).setCell (p := ⟨w.heap.size + 1, 0, none⟩) (by dsimp only; omega) _).setCell (p := ⟨w.heap.size + 1, 1, none⟩) (by dsimp only; omega) _
      obtain ⟨z, hz⟩ : ∃ z, z = (keepL l (overB now2)).length := ⟨_, rfl⟩
      obtain ⟨q, hq⟩ : ∃ q, q = (lostL l now2).length := ⟨_, rfl⟩
      rw [← hz] at HEND HENDU HENDB
      rw [← hq] at HENDU
      rw [← hz, ← hq]
      clear HU HU2 HQ HQ2 FX FR bw hz hq
      go_wp2_with fail
      (try simp only [Exit.inBlock, Exit.then])
      refine bodyPost_cell (V := .agg #[.int .i64 now2, .slice zA z zc]) rfl rfl ?_ rfl ?_
      · go_simp
      · exact ⟨_, _, rfl, HEND.out, HENDU.out, HENDB.out⟩
end Go.Proofs.Ytffnkgfpbjmkbaa
