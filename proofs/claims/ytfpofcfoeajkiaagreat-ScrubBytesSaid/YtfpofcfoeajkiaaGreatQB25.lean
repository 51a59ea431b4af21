/- Texts of this claim's author, packed: ScrRRead. Conditions: none. -/
import Derived.Test.YtfpofcfoeajkiaaGreatQB22
import Derived.Test.YtfpofcfoeajkiaaGreatQB24
import Derived.BigRegion
import Derived.Deep.OwnRows
/- siloref45.Read: its walk. -/
namespace Go.Proofs.YtfpofcfoeajkiaaGreat
open Go.RowKit
set_option linter.unusedVariables false
set_option linter.unusedSimpArgs false
theorem head4 {st : FS} {t : ByteArray} (h : st = none) (a b c : Nat) (l : List Shd) (hh : headL t.data.toList = some (a, b, c, l)) : stepF st t = some (a, b, c, l, fun _ => false) := by
  subst h; unfold stepF; dsimp only; rw [hh]; rfl
theorem head0 {st : FS} {t : ByteArray} (h : st = none) (hh : headL t.data.toList = none) : stepF st t = none := by
  subst h; unfold stepF; dsimp only; rw [hh]; rfl
theorem BRow.mk0 {w : World} {g n ty : Nat} (h : w.heap[g]? = some (.cells (madeCells #[.bool false] n) ty (0, 0))) : BRow w g n (fun _ => false) := by
  refine ⟨(Array.getElem?_eq_some_iff.1 h).1, fun j hj => ?_, fun j _ => ?_⟩
  · unfold World.cell?
    rw [h]
    simp [madeCells, hj, Nat.mod_one]
  · unfold World.frozen?
    rw [h]
    simp
theorem wrapU64 (q : Nat) (h : q < 18446744073709551616) : IntKind.u64.wrap (q : Int) = (q : Int) := by
  first
    | exact IntWalk.u64_in _ (by omega)
    | exact IntWalk.u64_in _ (by omega) (by omega)
    | (simp [IntKind.wrap]; omega)
theorem takeS_def (l : List Shd) (dn : Nat → Bool) (t : ByteArray) (n m e : Nat) (v0 : vTake t.data.toList = (n, m, e)) :
    (l[n]? = none → takeS l dn t = (l, dn)) ∧ (∀ x, l[n]? = some x → takeS l dn t = if e = 0 ∧ dn n = false ∧ shaSum (t.data.toList.drop m) = x.2.2 then (l.set n (x.1, t.extract m t.size, x.2.2), fun j => decide (j = n) || dn j) else (l, dn)) := by
  unfold takeS
  rw [v0]
  exact ⟨fun h => (by dsimp only; rw [h]), fun x h => (by dsimp only; rw [h])⟩
theorem set4_pl {w W : World} {a b c d : Value} {ty : Nat} (hb : Below w.heap.size w W) (h : W.heap[w.heap.size]? = some (.cells #[a, b, c, d] ty (0, 0))) (u0 u1 u2 u3 : Value) :
    ∃ W', W' = (((W.setCell ⟨w.heap.size, 0, none⟩ u0).setCell ⟨w.heap.size, 1, none⟩ u1).setCell ⟨w.heap.size, 2, none⟩ u2).setCell ⟨w.heap.size, 3, none⟩ u3 ∧ W'.cell? ⟨w.heap.size, 0, none⟩ = some u0 ∧ W'.cell? ⟨w.heap.size, 1, none⟩ = some u1 ∧ W'.cell? ⟨w.heap.size, 2, none⟩ = some u2 ∧ W'.cell? ⟨w.heap.size, 3, none⟩ = some u3 ∧ (∀ k, k ≠ w.heap.size → W'.heap[k]? = W.heap[k]?) ∧ Below w.heap.size w W' := by
  refine ⟨_, rfl, ?_⟩
  obtain ⟨c0, c1, c2, c3, _⟩ := cells4 (setq ((setq ((setq ((setq h u0).1) u1).2.1) u2).2.2.1) u3).2.2.2
  refine ⟨c0, c1, c2, c3, fun k hk => ?_, (((hb.setCell (p := ⟨w.heap.size, 0, none⟩) (Nat.le_refl _) u0).setCell (p := ⟨w.heap.size, 1, none⟩) (Nat.le_refl _) u1).setCell (p := ⟨w.heap.size, 2, none⟩) (Nat.le_refl _) u2).setCell (p := ⟨w.heap.size, 3, none⟩) (Nat.le_refl _) u3⟩
  rw [Below.heap_setCell _ _ _ _ hk, Below.heap_setCell _ _ _ _ hk, Below.heap_setCell _ _ _ _ hk, Below.heap_setCell _ _ _ _ hk]
set_option maxRecDepth 100000 in
set_option maxHeartbeats 4000000 in
theorem rread_any (s : ByteArray) (hs : s.size ≤ 1000000) (w : World) :
    Calls Tryz.prog 8 #[.string s] w fun e w' => ReadPost w.heap.size (readS (framesL s.data.toList)) e w' ∧ Below w.heap.size w w' := by
  have HFR := Lib.hid (fun W => rframes_any s hs W)
  obtain ⟨L, hL⟩ : ∃ L, L = framesL s.data.toList := ⟨_, rfl⟩
  have HLS : Hid (∀ t ∈ L, t.size ≤ 1000000) := fun t htm => by
    have := fr_size s.data.toList t (by rw [← hL]; exact htm)
    have h2 : s.data.toList.length = s.size := by simp
    omega
  rw [← hL] at HFR ⊢
  clear hL
  go_enter Tryz.func8, Tryz.ntmps8
  go_wp2_with fail
  refine (HFR.out _).mono ?_
  rintro e w1 ⟨v, rfl, o1, b1⟩
  have hwa : Below w.heap.size w (w.alloc (.cells #[.int .i64 0, .int .i64 0, .int .i64 0, .slice none 0 0] 24)) := (Below.refl _ _).alloc (Nat.le_refl _) _
  have HB1 : Hid (Below w.heap.size w w1) := hwa.trans (b1.mono hwa.size)
  have HX1 : Hid (w1.heap[w.heap.size]? = some (.cells #[.int .i64 0, .int .i64 0, .int .i64 0, .slice none 0 0] 24 (0, 0))) := (b1.block _ (by simp)).trans (World.alloc_heap_new w _)
  have hS := StrsB.of_owns o1
  obtain ⟨A, cs, rfl, hlc, hcm⟩ := hS.len
  have HS1 := Lib.hid hS
  have hl9 : L.length ≤ 9223372036854775807 := by unfold maxLen at hcm; omega
  clear o1 b1 hwa hS HFR
  go_wp2_with fail
  go_loopw [5] (fun i wr => ∃ j : Nat, j ≤ L.length ∧ i = .int .i64 j ∧ Hid (readS (L.take j) = none) ∧ Hid (StrsB wr (.slice A L.length cs) L) ∧ Hid (wr.heap[w.heap.size]? = some (.cells #[.int .i64 0, .int .i64 0, .int .i64 0, .slice none 0 0] 24 (0, 0))) ∧ Hid (Below w.heap.size w wr)) (fun i _ => L.length - (intOf i).toNat)
  case atStart => exact ⟨0, Nat.zero_le _, rfl, by unfold Hid; rw [List.take_zero]; rfl, HS1, HX1, HB1⟩
  case round =>
    obtain ⟨j, hj, rfl, HR, HS, HX, HB⟩ := hrel
    clear HB1 HX1 HS1
    obtain ⟨r0, r1, r2, r3, rf⟩ := cells4 HX.out
    have hwl := (Array.getElem?_eq_some_iff.1 HX.out).1
    by_cases hlt : j < L.length
    · have hltI : (j : Int) < (L.length : Int) := by omega
      obtain ⟨gs, off, rfl, hgs, hcell⟩ := HS.out.cells (by omega)
      have e1 := hcell j hlt
      have HC := Lib.hid hcell
      have hx := List.getElem?_eq_getElem hlt
      have HST := Lib.hid (readS_take L j _ hx)
      have hxs := HLS.out _ (List.getElem_mem hlt)
      generalize L[j] = x at *
      have HH := Lib.hid (fun W => rhead_any x hxs W)
      clear hcell hx r0 r1 r2 r3 rf
      cases hh : headL x.data.toList with
      | none =>
        rw [hh] at HH
        have HN : Hid (readS (L.take (j + 1)) = none) := HST.out.trans (head0 HR.out hh)
        clear hh HST HR
        go_wp2_with fail
        refine (HH.out _).mono ?_
        rintro e w2 ⟨⟨hp, _⟩, b2⟩
        obtain ⟨x0, x1, x2, x3, x4, x5, rfl⟩ := hp rfl
        have HB2 : Hid (Below w.heap.size w w2) := HB.out.trans (b2.mono HB.out.size)
        have HS2 := Lib.hid (HS.out.below b2 (Nat.le_refl _))
        have HX2 := Lib.hid ((b2.block _ hwl).trans HX.out)
        clear HB HS HX HH b2 hp e1 HC
        go_wp2_with fail
        go_roundw
        case rel => exact ⟨j + 1, by omega, by go_num, HN, HS2.out.below ((Below.refl _ _).alloc (Nat.le_refl _) _) (Nat.le_refl _), (Below.heap_alloc _ _ _ (by have := HB2.out.size; have := (Array.getElem?_eq_some_iff.1 HX2.out).1; exact this)).trans HX2.out, HB2.out.alloc HB2.out.size _⟩
        case measure => simp [intOf]; omega
      | some y =>
        obtain ⟨a, b, c, l⟩ := y
        rw [hh] at HH
        have HN : Hid (readS (L.take (j + 1)) = some (a, b, c, l, fun _ => false)) := HST.out.trans (head4 HR.out a b c l hh)
        obtain ⟨HG, hl0, hl32⟩ := headL_fit hh
        have HG := Lib.hid HG
        clear hh HST HR
        go_wp2_with fail
        refine (HH.out _).mono ?_
        rintro e w2 ⟨⟨_, hp⟩, b2⟩
        obtain ⟨A2, cap, rfl, ho2⟩ := hp a b c l rfl
        obtain ⟨g, rfl, hBg, hrow, hcl, hcm2⟩ := RowW.of_owns ho2 hl0
        have HB2 : Hid (Below w.heap.size w w2) := HB.out.trans (b2.mono HB.out.size)
        have HS2 := Lib.hid (HS.out.below b2 (Nat.le_refl _))
        have HX2 := Lib.hid ((b2.block _ hwl).trans HX.out)
        have HR2 := Lib.hid hrow
        clear HB HS HX HH b2 hp e1 HC ho2 hrow
        have hmk := fun W => run_make_row' (P := Tryz.prog) 57 4 (.bool false) 1 Tryz.underlying57 boolInfo rfl .i64 .i64 l.length (by omega) (by omega) W
        go_wp2_with fail
        clear hmk
        obtain ⟨w3, hw3⟩ : ∃ w3, w3 = (w2.alloc (.cells #[.int .i64 (a : Nat), .int .i64 (b : Nat), .int .i64 (c : Nat), .slice (some ⟨g, 0, none⟩) l.length cap] 24)).alloc (.cells (madeCells #[.bool false] l.length) 4) := ⟨_, rfl⟩
        rw [← hw3]
        have hd3 : BRow w3 (w2.heap.size + 1) l.length (fun _ => false) := BRow.mk0 (ty := 4) (by
          rw [hw3]
          have h := World.alloc_heap_new (w2.alloc (.cells #[.int .i64 (a : Nat), .int .i64 (b : Nat), .int .i64 (c : Nat), .slice (some ⟨g, 0, none⟩) l.length cap] 24)) (.cells (madeCells #[.bool false] l.length) 4)
          rwa [World.size_alloc] at h)
        have b3 : Below (w2.alloc (.cells #[.int .i64 (a : Nat), .int .i64 (b : Nat), .int .i64 (c : Nat), .slice (some ⟨g, 0, none⟩) l.length cap] 24)).heap.size (w2.alloc (.cells #[.int .i64 (a : Nat), .int .i64 (b : Nat), .int .i64 (c : Nat), .slice (some ⟨g, 0, none⟩) l.length cap] 24)) w3 := by rw [hw3]; exact (Below.refl _ _).alloc (Nat.le_refl _) _
        clear hw3
        have hgl := HR2.out.lt
        have h2l : w2.heap.size < (w2.alloc (.cells #[.int .i64 (a : Nat), .int .i64 (b : Nat), .int .i64 (c : Nat), .slice (some ⟨g, 0, none⟩) l.length cap] 24)).heap.size := by simp
        have HF3 : Hid (w3.heap[w2.heap.size]? = some (.cells #[.int .i64 (a : Nat), .int .i64 (b : Nat), .int .i64 (c : Nat), .slice (some ⟨g, 0, none⟩) l.length cap] 24 (0, 0))) := (b3.block _ h2l).trans (World.alloc_heap_new w2 _)
        have b2a : Below w2.heap.size w2 w3 := ((Below.refl _ w2).alloc (Nat.le_refl _) _).trans (b3.mono (by simp))
        have hsz3 : w2.heap.size + 2 ≤ w3.heap.size := by have := hd3.lt; omega
        have HB3 : Hid (Below w.heap.size w w3) := HB2.out.trans (b2a.mono HB2.out.size)
        have HX3 := Lib.hid ((b2a.block _ (Array.getElem?_eq_some_iff.1 HX2.out).1).trans HX2.out)
        have HR3 := Lib.hid (HR2.out.same (b2a.block g hgl))
        have HD3 := Lib.hid hd3
        obtain ⟨gs', off', he', hgs', hc'⟩ := HS2.out.cells (by omega)
        cases he'
        have HC3 : Hid (∀ i (hi : i < L.length), w3.cell? ⟨gs, off + i, none⟩ = some (.string L[i])) := fun i hi => (b2a.cell (p := ⟨gs, off + i, none⟩) hgs').trans (hc' i hi)
        have hgsg : gs < g := by omega
        have hwg : w.heap.size < g := by omega
        clear hc' HB2 HX2 HR2 HS2 b3 hd3 b2a h2l
        generalize hF : w2.heap.size = F at *
        clear hF
        obtain ⟨q, hq⟩ : ∃ q, q = l.length := ⟨_, rfl⟩
        rw [← hq] at HF3 HD3 hl0 hl32 hcl ⊢
        go_wp2_with fail
        go_loopw [9] (fun i wr => ∃ (k : Nat) (l' : List Shd) (dn : Nat → Bool), k ≤ L.length ∧ i = .int .i64 k ∧ Hid (readS (L.take k) = some (a, b, c, l', dn)) ∧ Hid (l'.length = q) ∧ Hid (RowW wr g l') ∧ Hid (BRow wr (F + 1) q dn) ∧ Hid (wr.heap[F]? = some (.cells #[.int .i64 (a : Nat), .int .i64 (b : Nat), .int .i64 (c : Nat), .slice (some ⟨g, 0, none⟩) q cap] 24 (0, 0))) ∧ Hid (∀ i (hi : i < L.length), wr.cell? ⟨gs, off + i, none⟩ = some (.string L[i])) ∧ Hid (wr.heap[w.heap.size]? = some (.cells #[.int .i64 0, .int .i64 0, .int .i64 0, .slice none 0 0] 24 (0, 0))) ∧ Hid (Below w.heap.size w wr) ∧ F + 2 ≤ wr.heap.size) (fun i _ => L.length - (intOf i).toNat)
        case atStart => exact ⟨j + 1, l, fun _ => false, by omega, by go_num, HN, hq.symm, HR3, HD3, HF3, HC3, HX3, HB3, hsz3⟩
        case round =>
          obtain ⟨k, l', dn, hk, rfl, HN, HL, HR, HD, HF, HC, HX, HB, hsz⟩ := hrel
          clear HB3 HX3 HR3 HD3 HC3 HF3 hsz3 HG hq
          obtain ⟨f0, f1, f2, f3, _⟩ := cells4 HF.out
          by_cases hkl : k < L.length
          · have hkI : (k : Int) < (L.length : Int) := by omega
            have e1 := HC.out k hkl
            have hx := List.getElem?_eq_getElem hkl
            have HST := Lib.hid (readS_take L k _ hx)
            have hts := HLS.out _ (List.getElem_mem hkl)
            generalize L[k] = t at *
            have HTK := Lib.hid (fun W => refTake_any t (by unfold maxLen; omega) W)
            obtain ⟨n, m, e', v0⟩ : ∃ n m e, vTake t.data.toList = (n, m, e) := ⟨_, _, _, rfl⟩
            have hok : e' = 0 → m ≤ t.size := fun h => by have := (vTake_le t.data.toList (by rw [v0]; exact h)).1; rw [v0] at this; simpa using this
            have hnl := (vTake_lt t.data.toList).1
            have HTS := Lib.hid (takeS_def l' dn t n m e' v0)
            rw [v0] at HTK hnl
            dsimp only at HTK hnl
            have HNX : Hid (∀ l2 dn2, takeS l' dn t = (l2, dn2) → readS (L.take (k + 1)) = some (a, b, c, l2, dn2)) := fun l2 dn2 h => by
              rw [HST.out, HN.out]
              show some (a, b, c, (takeS l' dn t).1, (takeS l' dn t).2) = _
              rw [h]
            clear v0 hx HST HN
            by_cases he : e' = 0
            · subst he
              have hm := hok rfl
              by_cases hnq : n < q
              · have g1 : decide ((q : Int) ≤ (n : Int)) = false := by rw [decide_eq_false_iff_not]; omega
                have g2 : decide (q ≤ n) = false := by rw [decide_eq_false_iff_not]; omega
                have hnI : (n : Int) < (q : Int) := by omega
                have hnl' : n < l'.length := by have := HL.out; omega
                have hgt := List.getElem?_eq_getElem hnl'
                have HTX := Lib.hid (HTS.out.2 _ hgt)
                have hr := fun (W : World) (hW : W.heap[g]? = wr.heap[g]?) => (HR.out.same hW).cells n hnl'
                have HRS : Hid (∀ W, RowW W g l' → ∀ d, RowW (W.setCell ⟨g, n * 3 + 1, none⟩ (.string d)) g (l'.set n (l'[n].1, d, l'[n].2.2))) := fun W h d => h.set n hnl' d
                generalize l'[n] = x at *
                obtain ⟨xn, xd, xs⟩ := x
                dsimp only at hr HTX HRS
                have HRW := Lib.hid hr
                have hdc := HD.out.cell n hnq
                clear hr hgt hok HTS
                cases hdn : dn n with
                | true =>
                  rw [hdn] at hdc
                  have hs : takeS l' dn t = (l', dn) := by rw [HTX.out]; exact if_neg (fun hh => by rw [hdn] at hh; cases hh.2.1)
                  clear HTX
                  go_wp2_with fail
                  refine (HTK.out _).mono ?_
                  rintro e wt ⟨rfl, rfl⟩
                  go_wp2_with fail
                  go_quiet (fail)
                  go_wp2_with fail
                  go_roundw
                  case rel => exact ⟨k + 1, l', dn, by omega, by go_num, HNX.out _ _ hs, HL, HR.out.same rfl, HD.out.same (Nat.le_refl _) rfl, HF.out, HC.out, HX.out, below_drewN HB.out _, by simpa using hsz⟩
                  case measure => simp [intOf]; omega
                | false =>
                  rw [hdn] at hdc
                  obtain ⟨T1, hT1⟩ : ∃ T1, T1 = t.extract m t.size := ⟨_, rfl⟩
                  have HT1 := Lib.hid hT1
                  have hd1 : T1.data.toList = t.data.toList.drop m := by rw [hT1, extract_toS]
                  have hs1 : T1.size ≤ 1000000 := by rw [hT1, ByteArray.size_extract]; omega
                  have HSUM := Lib.hid (fun W => refSum_any T1 W (by omega))
                  rw [hd1] at HSUM
                  rw [← hT1] at HTX
                  have gk1 : ((m : Nat) : Int) ≤ (t.size : Int) := by omega
                  have gk2 : (0 : Int) ≤ ((m : Nat) : Int) := by omega
                  clear hT1 hd1
                  obtain ⟨SM, hSM⟩ : ∃ SM, SM = shaSum (t.data.toList.drop m) := ⟨_, rfl⟩
                  rw [← hSM] at HSUM HTX
                  clear hSM
                  have HLd : Hid (F < wr.drew.heap.size ∧ F + 1 < wr.drew.heap.size ∧ g < wr.drew.heap.size ∧ gs < wr.drew.heap.size) := by
                    have h : wr.drew.heap.size = wr.heap.size := rfl
                    unfold Hid; omega
                  have HFd : Hid (wr.drew.heap[F]? = some (.cells #[.int .i64 (a : Nat), .int .i64 (b : Nat), .int .i64 (c : Nat), .slice (some ⟨g, 0, none⟩) q cap] 24 (0, 0))) := HF.out
                  have HDd : Hid (wr.drew.cell? ⟨F + 1, n, none⟩ = some (.bool false)) := hdc
                  have HGd : Hid (wr.drew.heap[g]? = wr.heap[g]?) := rfl
                  have HEd : Hid (wr.drew.cell? ⟨gs, off + k, none⟩ = some (.string t)) := e1
                  have HBd : Hid (Below w.heap.size w wr.drew) := HB.out.drew
                  have HDe : Hid (wr.drew.heap[F + 1]? = wr.heap[F + 1]?) := rfl
                  have HCd : Hid (∀ i (hi : i < L.length), wr.drew.cell? ⟨gs, off + i, none⟩ = some (.string L[i])) := HC.out
                  have HXd : Hid (wr.drew.heap[w.heap.size]? = some (.cells #[.int .i64 0, .int .i64 0, .int .i64 0, .slice none 0 0] 24 (0, 0))) := HX.out
                  have HZd : Hid (wr.heap.size ≤ wr.drew.heap.size) := Nat.le_refl _
                  go_wp2_with fail
                  refine (HTK.out _).mono ?_
                  rintro e wt ⟨rfl, rfl⟩
                  go_wp2_with fail
                  by_cases hsum : SM = xs
                  · have hs : takeS l' dn t = (l'.set n (xn, T1, xs), fun j => decide (j = n) || dn j) := by rw [HTX.out]; exact if_pos ⟨trivial, hdn, hsum⟩
                    have hse : (SM.toList != xs.toList) = false := by subst hsum; simp
                    clear HTX
                    refine wp_region_noPanic ?_
                    refine wp_region_held_drew (S := fun w' => Below wr.drew.heap.size wr.drew w') (by kernel_rfl) (Below.refl _ _) (fun hHeld => ?_)
                    generalize wr.drew = wd at *
                    have B_wd : Hid (Below wd.heap.size wd wd) := Below.refl _ _
                    have GC := Lib.hid (fun W (hW : Below wd.heap.size wd W) => (cells4 ((hW.block F HLd.out.1).trans HFd.out)).2.2.2.1)
                    have GD := Lib.hid (fun W (hW : Below wd.heap.size wd W) => (hW.cell (p := ⟨F + 1, n, none⟩) HLd.out.2.1).trans HDd.out)
                    have GR := Lib.hid (fun W (hW : Below wd.heap.size wd W) => HRW.out W ((hW.block g HLd.out.2.2.1).trans HGd.out))
                    have GE := Lib.hid (fun W (hW : Below wd.heap.size wd W) => (hW.cell (p := ⟨gs, off + k, none⟩) HLd.out.2.2.2).trans HEd.out)
                    refine wpAnyH_take (i := 0) (v := .int .i64 0) rfl (by kernel_rfl) (by kernel_rfl) (by kernel_rfl) (fun _ _ _ h => h) (Or.inl ⟨by kernel_rfl, ?_⟩) (by assumption) ?_
                    · intro wz hSw
                      go_simp
                    try simp only [Act.put, List.getElem_toArray, List.getElem_cons_succ, List.getElem_cons_zero, List.setIfInBounds_toArray, List.set_cons_zero, List.set_cons_succ]
                    refine wpAnyH_take (i := 1) (v := .bool false) rfl (by kernel_rfl) (by kernel_rfl) (by kernel_rfl) (fun _ _ _ h => h) (Or.inl ⟨by kernel_rfl, ?_⟩) (by assumption) ?_
                    · intro wz hSw
                      go_simp
                    try simp only [Act.put, List.getElem_toArray, List.getElem_cons_succ, List.getElem_cons_zero, List.setIfInBounds_toArray, List.set_cons_zero, List.set_cons_succ]
                    refine wpAnyH_take (i := 2) (v := .bool false) rfl (by kernel_rfl) (by kernel_rfl) (by kernel_rfl) (fun _ _ _ h => h) (Or.inl ⟨by kernel_rfl, ?_⟩) (by assumption) ?_
                    · intro wz hSw
                      go_simp
                    try simp only [Act.put, List.getElem_toArray, List.getElem_cons_succ, List.getElem_cons_zero, List.setIfInBounds_toArray, List.set_cons_zero, List.set_cons_succ]
                    refine wpAnyH_take (i := 3) (v := .int .u64 (n : Int)) rfl (by kernel_rfl) (by kernel_rfl) (by kernel_rfl) (fun _ _ _ h => h) (Or.inl ⟨by kernel_rfl, ?_⟩) (by assumption) ?_
                    · intro wz hSw
                      go_simp
                    try simp only [Act.put, List.getElem_toArray, List.getElem_cons_succ, List.getElem_cons_zero, List.setIfInBounds_toArray, List.set_cons_zero, List.set_cons_succ]
                    refine wpAnyH_take (i := 4) (v := .pointer (some ⟨F, 3, none⟩)) rfl (by kernel_rfl) (by kernel_rfl) (by kernel_rfl) (fun _ _ _ h => h) (Or.inl ⟨by kernel_rfl, ?_⟩) (by assumption) ?_
                    · intro wz hSw
                      go_simp
                    try simp only [Act.put, List.getElem_toArray, List.getElem_cons_succ, List.getElem_cons_zero, List.setIfInBounds_toArray, List.set_cons_zero, List.set_cons_succ]
                    refine wpAnyH_take (i := 5) (v := .slice (some ⟨g, 0, none⟩) q cap) rfl (by kernel_rfl) (by kernel_rfl) (by kernel_rfl) (fun _ _ _ h => h) (Or.inl ⟨by kernel_rfl, ?_⟩) (by assumption) ?_
                    · intro wz hSw
                      have hh := GC.out wz hSw
                      go_simp
                    try simp only [Act.put, List.getElem_toArray, List.getElem_cons_succ, List.getElem_cons_zero, List.setIfInBounds_toArray, List.set_cons_zero, List.set_cons_succ]
                    refine wpAnyH_take (i := 6) (v := .int .i64 (q : Int)) rfl (by kernel_rfl) (by kernel_rfl) (by kernel_rfl) (fun _ _ _ h => h) (Or.inl ⟨by kernel_rfl, ?_⟩) (by assumption) ?_
                    · intro wz hSw
                      go_simp
                    try simp only [Act.put, List.getElem_toArray, List.getElem_cons_succ, List.getElem_cons_zero, List.setIfInBounds_toArray, List.set_cons_zero, List.set_cons_succ]
                    refine wpAnyH_take (i := 7) (v := .int .u64 (q : Int)) rfl (by kernel_rfl) (by kernel_rfl) (by kernel_rfl) (fun _ _ _ h => h) (Or.inl ⟨by kernel_rfl, ?_⟩) (by assumption) ?_
                    · intro wz hSw
                      have hh := wrapU64 q (by omega)
                      go_simp
                    try simp only [Act.put, List.getElem_toArray, List.getElem_cons_succ, List.getElem_cons_zero, List.setIfInBounds_toArray, List.set_cons_zero, List.set_cons_succ]
                    refine wpAnyH_take (i := 8) (v := .bool false) rfl (by kernel_rfl) (by kernel_rfl) (by kernel_rfl) (fun _ _ _ h => h) (Or.inl ⟨by kernel_rfl, ?_⟩) (by assumption) ?_
                    · intro wz hSw
                      go_simp
                    try simp only [Act.put, List.getElem_toArray, List.getElem_cons_succ, List.getElem_cons_zero, List.setIfInBounds_toArray, List.set_cons_zero, List.set_cons_succ]
                    refine wpAnyH_take (i := 9) (v := .bool false) rfl (by kernel_rfl) (by kernel_rfl) (by kernel_rfl) (fun _ _ _ h => h) (Or.inl ⟨by kernel_rfl, ?_⟩) (by assumption) ?_
                    · intro wz hSw
                      go_simp
                    try simp only [Act.put, List.getElem_toArray, List.getElem_cons_succ, List.getElem_cons_zero, List.setIfInBounds_toArray, List.set_cons_zero, List.set_cons_succ]
                    refine wpAnyH_take (i := 10) (v := .bool false) rfl (by kernel_rfl) (by kernel_rfl) (by kernel_rfl) (fun _ _ _ h => h) (Or.inl ⟨by kernel_rfl, ?_⟩) (by assumption) ?_
                    · intro wz hSw
                      go_simp
                    try simp only [Act.put, List.getElem_toArray, List.getElem_cons_succ, List.getElem_cons_zero, List.setIfInBounds_toArray, List.set_cons_zero, List.set_cons_succ]
                    refine wpAnyH_take (i := 11) (v := .slice (some ⟨F + 1, 0, none⟩) q q) rfl (by kernel_rfl) (by kernel_rfl) (by kernel_rfl) (fun _ _ _ h => h) (Or.inl ⟨by kernel_rfl, ?_⟩) (by assumption) ?_
                    · intro wz hSw
                      go_simp
                    try simp only [Act.put, List.getElem_toArray, List.getElem_cons_succ, List.getElem_cons_zero, List.setIfInBounds_toArray, List.set_cons_zero, List.set_cons_succ]
                    refine wpAnyH_take (i := 12) (v := .int .u64 (n : Int)) rfl (by kernel_rfl) (by kernel_rfl) (by kernel_rfl) (fun _ _ _ h => h) (Or.inl ⟨by kernel_rfl, ?_⟩) (by assumption) ?_
                    · intro wz hSw
                      go_simp
                    try simp only [Act.put, List.getElem_toArray, List.getElem_cons_succ, List.getElem_cons_zero, List.setIfInBounds_toArray, List.set_cons_zero, List.set_cons_succ]
                    refine wpAnyH_take (i := 13) (v := .pointer (some ⟨F + 1, n, none⟩)) rfl (by kernel_rfl) (by kernel_rfl) (by kernel_rfl) (fun _ _ _ h => h) (Or.inl ⟨by kernel_rfl, ?_⟩) (by assumption) ?_
                    · intro wz hSw
                      go_simp
                    try simp only [Act.put, List.getElem_toArray, List.getElem_cons_succ, List.getElem_cons_zero, List.setIfInBounds_toArray, List.set_cons_zero, List.set_cons_succ]
                    refine wpAnyH_take (i := 14) (v := .bool false) rfl (by kernel_rfl) (by kernel_rfl) (by kernel_rfl) (fun _ _ _ h => h) (Or.inl ⟨by kernel_rfl, ?_⟩) (by assumption) ?_
                    · intro wz hSw
                      have hh := GD.out wz hSw
                      go_simp
                    try simp only [Act.put, List.getElem_toArray, List.getElem_cons_succ, List.getElem_cons_zero, List.setIfInBounds_toArray, List.set_cons_zero, List.set_cons_succ]
                    refine wpAnyH_take (i := 15) (v := .bool false) rfl (by kernel_rfl) (by kernel_rfl) (by kernel_rfl) (fun _ _ _ h => h) (Or.inl ⟨by kernel_rfl, ?_⟩) (by assumption) ?_
                    · intro wz hSw
                      go_simp
                    try simp only [Act.put, List.getElem_toArray, List.getElem_cons_succ, List.getElem_cons_zero, List.setIfInBounds_toArray, List.set_cons_zero, List.set_cons_succ]
                    refine wpAnyH_take (i := 16) (v := .bool false) rfl (by kernel_rfl) (by kernel_rfl) (by kernel_rfl) (fun _ _ _ h => h) (Or.inl ⟨by kernel_rfl, ?_⟩) (by assumption) ?_
                    · intro wz hSw
                      go_simp
                    try simp only [Act.put, List.getElem_toArray, List.getElem_cons_succ, List.getElem_cons_zero, List.setIfInBounds_toArray, List.set_cons_zero, List.set_cons_succ]
                    refine wpAnyH_take (i := 17) (v := .slice (some ⟨gs, off, none⟩) L.length cs) rfl (by kernel_rfl) (by kernel_rfl) (by kernel_rfl) (fun _ _ _ h => h) (Or.inl ⟨by kernel_rfl, ?_⟩) (by assumption) ?_
                    · intro wz hSw
                      go_simp
                    try simp only [Act.put, List.getElem_toArray, List.getElem_cons_succ, List.getElem_cons_zero, List.setIfInBounds_toArray, List.set_cons_zero, List.set_cons_succ]
                    refine wpAnyH_take (i := 18) (v := .int .i64 (k : Int)) rfl (by kernel_rfl) (by kernel_rfl) (by kernel_rfl) (fun _ _ _ h => h) (Or.inl ⟨by kernel_rfl, ?_⟩) (by assumption) ?_
                    · intro wz hSw
                      go_simp
                    try simp only [Act.put, List.getElem_toArray, List.getElem_cons_succ, List.getElem_cons_zero, List.setIfInBounds_toArray, List.set_cons_zero, List.set_cons_succ]
                    refine wpAnyH_take (i := 19) (v := .pointer (some ⟨gs, off + k, none⟩)) rfl (by kernel_rfl) (by kernel_rfl) (by kernel_rfl) (fun _ _ _ h => h) (Or.inl ⟨by kernel_rfl, ?_⟩) (by assumption) ?_
                    · intro wz hSw
                      go_simp
                    try simp only [Act.put, List.getElem_toArray, List.getElem_cons_succ, List.getElem_cons_zero, List.setIfInBounds_toArray, List.set_cons_zero, List.set_cons_succ]
                    refine wpAnyH_take (i := 20) (v := .string t) rfl (by kernel_rfl) (by kernel_rfl) (by kernel_rfl) (fun _ _ _ h => h) (Or.inl ⟨by kernel_rfl, ?_⟩) (by assumption) ?_
                    · intro wz hSw
                      have hh := GE.out wz hSw
                      go_simp
                    try simp only [Act.put, List.getElem_toArray, List.getElem_cons_succ, List.getElem_cons_zero, List.setIfInBounds_toArray, List.set_cons_zero, List.set_cons_succ]
                    refine wpAnyH_take (i := 21) (v := .int .i64 (m : Int)) rfl (by kernel_rfl) (by kernel_rfl) (by kernel_rfl) (fun _ _ _ h => h) (Or.inl ⟨by kernel_rfl, ?_⟩) (by assumption) ?_
                    · intro wz hSw
                      go_simp
                    try simp only [Act.put, List.getElem_toArray, List.getElem_cons_succ, List.getElem_cons_zero, List.setIfInBounds_toArray, List.set_cons_zero, List.set_cons_succ]
                    refine wpAnyH_take (i := 22) (v := .string T1) rfl (by kernel_rfl) (by kernel_rfl) (by kernel_rfl) (fun _ _ _ h => h) (Or.inl ⟨by kernel_rfl, ?_⟩) (by assumption) ?_
                    · intro wz hSw
                      have hh1 := HT1.out
                      go_simp
                    try simp only [Act.put, List.getElem_toArray, List.getElem_cons_succ, List.getElem_cons_zero, List.setIfInBounds_toArray, List.set_cons_zero, List.set_cons_succ]
                    refine wpAnyH_take (i := 24) (v := .pointer (some ⟨F, 3, none⟩)) rfl (by kernel_rfl) (by kernel_rfl) (by kernel_rfl) (fun _ _ _ h => h) (Or.inl ⟨by kernel_rfl, ?_⟩) (by assumption) ?_
                    · intro wz hSw
                      go_simp
                    try simp only [Act.put, List.getElem_toArray, List.getElem_cons_succ, List.getElem_cons_zero, List.setIfInBounds_toArray, List.set_cons_zero, List.set_cons_succ]
                    refine wpAnyH_take (i := 25) (v := .slice (some ⟨g, 0, none⟩) q cap) rfl (by kernel_rfl) (by kernel_rfl) (by kernel_rfl) (fun _ _ _ h => h) (Or.inl ⟨by kernel_rfl, ?_⟩) (by assumption) ?_
                    · intro wz hSw
                      have hh := GC.out wz hSw
                      go_simp
                    try simp only [Act.put, List.getElem_toArray, List.getElem_cons_succ, List.getElem_cons_zero, List.setIfInBounds_toArray, List.set_cons_zero, List.set_cons_succ]
                    refine wpAnyH_take (i := 26) (v := .int .u64 (n : Int)) rfl (by kernel_rfl) (by kernel_rfl) (by kernel_rfl) (fun _ _ _ h => h) (Or.inl ⟨by kernel_rfl, ?_⟩) (by assumption) ?_
                    · intro wz hSw
                      go_simp
                    try simp only [Act.put, List.getElem_toArray, List.getElem_cons_succ, List.getElem_cons_zero, List.setIfInBounds_toArray, List.set_cons_zero, List.set_cons_succ]
                    refine wpAnyH_take (i := 27) (v := .pointer (some ⟨g, n * 3, none⟩)) rfl (by kernel_rfl) (by kernel_rfl) (by kernel_rfl) (fun _ _ _ h => h) (Or.inl ⟨by kernel_rfl, ?_⟩) (by assumption) ?_
                    · intro wz hSw
                      go_simp
                    try simp only [Act.put, List.getElem_toArray, List.getElem_cons_succ, List.getElem_cons_zero, List.setIfInBounds_toArray, List.set_cons_zero, List.set_cons_succ]
                    refine wpAnyH_take (i := 28) (v := .pointer (some ⟨g, n * 3 + 2, none⟩)) rfl (by kernel_rfl) (by kernel_rfl) (by kernel_rfl) (fun _ _ _ h => h) (Or.inl ⟨by kernel_rfl, ?_⟩) (by assumption) ?_
                    · intro wz hSw
                      go_simp
                    try simp only [Act.put, List.getElem_toArray, List.getElem_cons_succ, List.getElem_cons_zero, List.setIfInBounds_toArray, List.set_cons_zero, List.set_cons_succ]
                    refine wpAnyH_take (i := 29) (v := .string xs) rfl (by kernel_rfl) (by kernel_rfl) (by kernel_rfl) (fun _ _ _ h => h) (Or.inl ⟨by kernel_rfl, ?_⟩) (by assumption) ?_
                    · intro wz hSw
                      obtain ⟨h0, h1, h2⟩ := GR.out wz hSw
                      go_simp
                    try simp only [Act.put, List.getElem_toArray, List.getElem_cons_succ, List.getElem_cons_zero, List.setIfInBounds_toArray, List.set_cons_zero, List.set_cons_succ]
                    refine wpAnyH_ready (rs := [23]) (by kernel_rfl) (by simp) ?_
                    refine AllReadyH.cons rfl (fun K hK => ?_) AllReadyH.nil
                    go_simp
                    go_at_call 22
                    refine (HSUM.out wd).mono ?_
                    rintro er x2 ⟨rfl, b1⟩
                    have B_x2 : Hid (Below wd.heap.size wd x2) := Lib.hid (B_wd.out.trans (b1.mono B_wd.out.size))
                    clear b1
                    go_wp2_with fail
                    refine hK.out _ _ B_x2.out (fun hHeld => ?_)
                    clear hK K
                    try simp only [Act.put, List.getElem_toArray, List.getElem_cons_succ, List.getElem_cons_zero, List.setIfInBounds_toArray, List.set_cons_zero, List.set_cons_succ]
                    refine wpAnyH_take (i := 30) (v := .bool false) rfl (by kernel_rfl) (by kernel_rfl) (by kernel_rfl) (fun _ _ _ h => h) (Or.inl ⟨by kernel_rfl, ?_⟩) (by assumption) ?_
                    · intro wz hSw
                      go_simp
                    try simp only [Act.put, List.getElem_toArray, List.getElem_cons_succ, List.getElem_cons_zero, List.setIfInBounds_toArray, List.set_cons_zero, List.set_cons_succ]
                    refine wpAnyH_take (i := 31) (v := .bool false) rfl (by kernel_rfl) (by kernel_rfl) (by kernel_rfl) (fun _ _ _ h => h) (Or.inl ⟨by kernel_rfl, ?_⟩) (by assumption) ?_
                    · intro wz hSw
                      go_simp
                    refine wpAnyH_done (by kernel_rfl) ?_ _
                    refine NoPanic.normal ?_
                    have HBx : Hid (Below w.heap.size w x2) := HBd.out.trans (B_x2.out.mono HBd.out.size)
                    have HRx := Lib.hid (HR.out.same ((B_x2.out.block g HLd.out.2.2.1).trans HGd.out))
                    have HDx := Lib.hid (HD.out.same (Nat.le_trans HZd.out B_x2.out.size) ((B_x2.out.block (F + 1) HLd.out.2.1).trans HDe.out))
                    have HFx := Lib.hid ((B_x2.out.block F HLd.out.1).trans HFd.out)
                    have HCx : Hid (∀ i (hi : i < L.length), x2.cell? ⟨gs, off + i, none⟩ = some (.string L[i])) := fun i hi => (B_x2.out.cell (p := ⟨gs, off + i, none⟩) HLd.out.2.2.2).trans (HCd.out i hi)
                    have HEx := Lib.hid ((B_x2.out.cell (p := ⟨gs, off + k, none⟩) HLd.out.2.2.2).trans HEd.out)
                    have HXx := Lib.hid ((B_x2.out.block w.heap.size (by have := HLd.out.2.2.1; omega)).trans HXd.out)
                    have hsx : F + 2 ≤ x2.heap.size := Nat.le_trans hsz (Nat.le_trans HZd.out B_x2.out.size)
                    clear HBd HR HD HF HC HX HB B_x2 GC GD GR GE HLd HFd HDd HGd HEd HDe HCd HXd HZd hHeld B_wd HTK HSUM
                    have hq1 := HDx.out.cell n hnq
                    have hq2 := HDx.out.free n hnq
                    go_wp2_with fail
                    obtain ⟨y1, hy1⟩ : ∃ y1, y1 = x2.setCell ⟨F + 1, n, none⟩ (.bool true) := ⟨_, rfl⟩
                    rw [← hy1]
                    have HRy : Hid (RowW y1 g l') := by unfold Hid; rw [hy1]; exact HRx.out.same (Below.heap_setCell _ _ _ _ (by dsimp only; omega))
                    have HDy : Hid (BRow y1 (F + 1) q (fun j => decide (j = n) || dn j)) := by
                      unfold Hid; rw [hy1]
                      refine (HDx.out.set n true hnq).congr fun i hi => ?_
                      unfold updT
                      by_cases e : i = n
                      · simp [e]
                      · simp [e]
                    have HFy : Hid (y1.heap[F]? = some (.cells #[.int .i64 (a : Nat), .int .i64 (b : Nat), .int .i64 (c : Nat), .slice (some ⟨g, 0, none⟩) q cap] 24 (0, 0))) := by unfold Hid; rw [hy1]; exact (Below.heap_setCell _ _ _ _ (by dsimp only; omega)).trans HFx.out
                    have HCy : Hid (∀ i (hi : i < L.length), y1.cell? ⟨gs, off + i, none⟩ = some (.string L[i])) := fun i hi => by rw [hy1]; exact (World.cell?_of_block (a := ⟨gs, off + i, none⟩) (Below.heap_setCell _ _ _ _ (by dsimp only; omega))).trans (HCx.out i hi)
                    have HEy : Hid (y1.cell? ⟨gs, off + k, none⟩ = some (.string t)) := by unfold Hid; rw [hy1]; exact (World.cell?_of_block (a := ⟨gs, off + k, none⟩) (Below.heap_setCell _ _ _ _ (by dsimp only; omega))).trans HEx.out
                    have HXy : Hid (y1.heap[w.heap.size]? = some (.cells #[.int .i64 0, .int .i64 0, .int .i64 0, .slice none 0 0] 24 (0, 0))) := by unfold Hid; rw [hy1]; exact (Below.heap_setCell _ _ _ _ (by dsimp only; omega)).trans HXx.out
                    have HBy : Hid (Below w.heap.size w y1) := by unfold Hid; rw [hy1]; exact HBx.out.setCell (by dsimp only; omega) _
                    have hsy : F + 2 ≤ y1.heap.size := by rw [hy1, World.size_setCell]; exact hsx
                    clear hy1 hq1 hq2 HRx HDx HFx HCx HEx HXx HBx hsx
                    have HRd : Hid (RowW y1.drew g l') := HRy.out.same rfl
                    have HDd : Hid (BRow y1.drew (F + 1) q (fun j => decide (j = n) || dn j)) := HDy.out.same (Nat.le_refl _) rfl
                    have HFd : Hid (y1.drew.heap[F]? = some (.cells #[.int .i64 (a : Nat), .int .i64 (b : Nat), .int .i64 (c : Nat), .slice (some ⟨g, 0, none⟩) q cap] 24 (0, 0))) := HFy.out
                    have HCd : Hid (∀ i (hi : i < L.length), y1.drew.cell? ⟨gs, off + i, none⟩ = some (.string L[i])) := HCy.out
                    have HXd : Hid (y1.drew.heap[w.heap.size]? = some (.cells #[.int .i64 0, .int .i64 0, .int .i64 0, .slice none 0 0] 24 (0, 0))) := HXy.out
                    have HBd : Hid (Below w.heap.size w y1.drew) := HBy.out.drew
                    have hsd : F + 2 ≤ y1.drew.heap.size := hsy
                    have hcel : y1.drew.cell? ⟨F, 3, none⟩ = some (.slice (some ⟨g, 0, none⟩) q cap) ∧ y1.drew.cell? ⟨gs, off + k, none⟩ = some (.string t) := ⟨(cells4 HFd.out).2.2.2.1, HEy.out⟩
                    clear HRy HDy HFy HCy HEy HXy HBy hsy
                    refine wp_region_noPanic ?_
                    refine wp_region_held_drew (S := fun w' => w'.cell? ⟨F, 3, none⟩ = some (.slice (some ⟨g, 0, none⟩) q cap) ∧ w'.cell? ⟨gs, off + k, none⟩ = some (.string t)) (by kernel_rfl) hcel (fun hHeld => ?_)
                    generalize y1.drew = wf at *
                    refine wpAnyH_take (i := 0) (v := .pointer (some ⟨F, 3, none⟩)) rfl (by kernel_rfl) (by kernel_rfl) (by kernel_rfl) (fun _ _ _ h => h) (Or.inl ⟨by kernel_rfl, ?_⟩) (by assumption) ?_
                    · intro wz hSw
                      go_simp
                    try simp only [Act.put, List.getElem_toArray, List.getElem_cons_succ, List.getElem_cons_zero, List.setIfInBounds_toArray, List.set_cons_zero, List.set_cons_succ]
                    refine wpAnyH_take (i := 1) (v := .slice (some ⟨g, 0, none⟩) q cap) rfl (by kernel_rfl) (by kernel_rfl) (by kernel_rfl) (fun _ _ _ h => h) (Or.inl ⟨by kernel_rfl, ?_⟩) (by assumption) ?_
                    · intro wz hSw
                      obtain ⟨h5, h6⟩ := hSw
                      go_simp
                    try simp only [Act.put, List.getElem_toArray, List.getElem_cons_succ, List.getElem_cons_zero, List.setIfInBounds_toArray, List.set_cons_zero, List.set_cons_succ]
                    refine wpAnyH_take (i := 2) (v := .int .u64 (n : Int)) rfl (by kernel_rfl) (by kernel_rfl) (by kernel_rfl) (fun _ _ _ h => h) (Or.inl ⟨by kernel_rfl, ?_⟩) (by assumption) ?_
                    · intro wz hSw
                      go_simp
                    try simp only [Act.put, List.getElem_toArray, List.getElem_cons_succ, List.getElem_cons_zero, List.setIfInBounds_toArray, List.set_cons_zero, List.set_cons_succ]
                    refine wpAnyH_take (i := 3) (v := .slice (some ⟨gs, off, none⟩) L.length cs) rfl (by kernel_rfl) (by kernel_rfl) (by kernel_rfl) (fun _ _ _ h => h) (Or.inl ⟨by kernel_rfl, ?_⟩) (by assumption) ?_
                    · intro wz hSw
                      go_simp
                    try simp only [Act.put, List.getElem_toArray, List.getElem_cons_succ, List.getElem_cons_zero, List.setIfInBounds_toArray, List.set_cons_zero, List.set_cons_succ]
                    refine wpAnyH_take (i := 4) (v := .int .i64 (k : Int)) rfl (by kernel_rfl) (by kernel_rfl) (by kernel_rfl) (fun _ _ _ h => h) (Or.inl ⟨by kernel_rfl, ?_⟩) (by assumption) ?_
                    · intro wz hSw
                      go_simp
                    try simp only [Act.put, List.getElem_toArray, List.getElem_cons_succ, List.getElem_cons_zero, List.setIfInBounds_toArray, List.set_cons_zero, List.set_cons_succ]
                    refine wpAnyH_take (i := 5) (v := .pointer (some ⟨gs, off + k, none⟩)) rfl (by kernel_rfl) (by kernel_rfl) (by kernel_rfl) (fun _ _ _ h => h) (Or.inl ⟨by kernel_rfl, ?_⟩) (by assumption) ?_
                    · intro wz hSw
                      go_simp
                    try simp only [Act.put, List.getElem_toArray, List.getElem_cons_succ, List.getElem_cons_zero, List.setIfInBounds_toArray, List.set_cons_zero, List.set_cons_succ]
                    refine wpAnyH_take (i := 6) (v := .string t) rfl (by kernel_rfl) (by kernel_rfl) (by kernel_rfl) (fun _ _ _ h => h) (Or.inl ⟨by kernel_rfl, ?_⟩) (by assumption) ?_
                    · intro wz hSw
                      obtain ⟨h5, h6⟩ := hSw
                      go_simp
                    try simp only [Act.put, List.getElem_toArray, List.getElem_cons_succ, List.getElem_cons_zero, List.setIfInBounds_toArray, List.set_cons_zero, List.set_cons_succ]
                    refine wpAnyH_take (i := 7) (v := .int .i64 (m : Int)) rfl (by kernel_rfl) (by kernel_rfl) (by kernel_rfl) (fun _ _ _ h => h) (Or.inl ⟨by kernel_rfl, ?_⟩) (by assumption) ?_
                    · intro wz hSw
                      go_simp
                    try simp only [Act.put, List.getElem_toArray, List.getElem_cons_succ, List.getElem_cons_zero, List.setIfInBounds_toArray, List.set_cons_zero, List.set_cons_succ]
                    refine wpAnyH_take (i := 8) (v := .string T1) rfl (by kernel_rfl) (by kernel_rfl) (by kernel_rfl) (fun _ _ _ h => h) (Or.inl ⟨by kernel_rfl, ?_⟩) (by assumption) ?_
                    · intro wz hSw
                      have hh1 := HT1.out
                      go_simp
                    try simp only [Act.put, List.getElem_toArray, List.getElem_cons_succ, List.getElem_cons_zero, List.setIfInBounds_toArray, List.set_cons_zero, List.set_cons_succ]
                    refine wpAnyH_take (i := 9) (v := .pointer (some ⟨g, n * 3, none⟩)) rfl (by kernel_rfl) (by kernel_rfl) (by kernel_rfl) (fun _ _ _ h => h) (Or.inl ⟨by kernel_rfl, ?_⟩) (by assumption) ?_
                    · intro wz hSw
                      go_simp
                    try simp only [Act.put, List.getElem_toArray, List.getElem_cons_succ, List.getElem_cons_zero, List.setIfInBounds_toArray, List.set_cons_zero, List.set_cons_succ]
                    refine wpAnyH_take (i := 10) (v := .pointer (some ⟨g, n * 3 + 1, none⟩)) rfl (by kernel_rfl) (by kernel_rfl) (by kernel_rfl) (fun _ _ _ h => h) (Or.inl ⟨by kernel_rfl, ?_⟩) (by assumption) ?_
                    · intro wz hSw
                      go_simp
                    try simp only [Act.put, List.getElem_toArray, List.getElem_cons_succ, List.getElem_cons_zero, List.setIfInBounds_toArray, List.set_cons_zero, List.set_cons_succ]
                    have r1 := (HRd.out.cells n hnl').2.1
                    have rf := HRd.out.frozen (n * 3 + 1)
                    have hcm9 : (wf.setCell ⟨g, n * 3 + 1, none⟩ (.string T1)).cell? ⟨F, 3, none⟩ = some (.slice (some ⟨g, 0, none⟩) q cap) ∧ (wf.setCell ⟨g, n * 3 + 1, none⟩ (.string T1)).cell? ⟨gs, off + k, none⟩ = some (.string t) :=
                      ⟨(World.cell?_of_block (a := ⟨F, 3, none⟩) (Below.heap_setCell _ _ _ _ (by dsimp only; omega))).trans hcel.1, (World.cell?_of_block (a := ⟨gs, off + k, none⟩) (Below.heap_setCell _ _ _ _ (by dsimp only; omega))).trans hcel.2⟩
                    refine wpAnyH_ready (rs := [11]) (by kernel_rfl) (by simp) ?_
                    refine AllReadyH.cons rfl (fun K hK => ?_) AllReadyH.nil
                    go_simp
                    refine hK.out _ _ hcm9 (fun hHeld => ?_)
                    clear hK K
                    refine wpAnyH_done (by kernel_rfl) ?_ _
                    refine NoPanic.normal ?_
                    go_wp2_with fail
                    go_roundw
                    case rel => exact ⟨k + 1, _, _, by omega, by go_num, HNX.out _ _ hs, (by unfold Hid; rw [List.length_set]; exact HL.out), HRS.out _ HRd.out T1, HDd.out.same (by rw [World.size_setCell]; exact Nat.le_refl _) (Below.heap_setCell _ _ _ _ (by dsimp only; omega)), (Below.heap_setCell _ _ _ _ (by dsimp only; omega)).trans HFd.out, fun i hi => (World.cell?_of_block (a := ⟨gs, off + i, none⟩) (Below.heap_setCell _ _ _ _ (by dsimp only; omega))).trans (HCd.out i hi), (Below.heap_setCell _ _ _ _ (by dsimp only; omega)).trans HXd.out, HBd.out.setCell (by dsimp only; omega) _, by rw [World.size_setCell]; exact hsd⟩
                    case measure => simp [intOf]; omega
                  · have hs : takeS l' dn t = (l', dn) := by rw [HTX.out]; exact if_neg (fun hh => hsum hh.2.2)
                    have hse : ¬ SM.toList = xs.toList := fun e => by have h := str_ne_b hsum; rw [e] at h; simp at h
                    clear HTX
                    refine wp_region_noPanic ?_
                    refine wp_region_held_drew (S := fun w' => Below wr.drew.heap.size wr.drew w') (by kernel_rfl) (Below.refl _ _) (fun hHeld => ?_)
                    generalize wr.drew = wd at *
                    have B_wd : Hid (Below wd.heap.size wd wd) := Below.refl _ _
                    have GC := Lib.hid (fun W (hW : Below wd.heap.size wd W) => (cells4 ((hW.block F HLd.out.1).trans HFd.out)).2.2.2.1)
                    have GD := Lib.hid (fun W (hW : Below wd.heap.size wd W) => (hW.cell (p := ⟨F + 1, n, none⟩) HLd.out.2.1).trans HDd.out)
                    have GR := Lib.hid (fun W (hW : Below wd.heap.size wd W) => HRW.out W ((hW.block g HLd.out.2.2.1).trans HGd.out))
                    have GE := Lib.hid (fun W (hW : Below wd.heap.size wd W) => (hW.cell (p := ⟨gs, off + k, none⟩) HLd.out.2.2.2).trans HEd.out)
                    refine wpAnyH_take (i := 0) (v := .int .i64 0) rfl (by kernel_rfl) (by kernel_rfl) (by kernel_rfl) (fun _ _ _ h => h) (Or.inl ⟨by kernel_rfl, ?_⟩) (by assumption) ?_
                    · intro wz hSw
                      go_simp
                    try simp only [Act.put, List.getElem_toArray, List.getElem_cons_succ, List.getElem_cons_zero, List.setIfInBounds_toArray, List.set_cons_zero, List.set_cons_succ]
                    refine wpAnyH_take (i := 1) (v := .bool false) rfl (by kernel_rfl) (by kernel_rfl) (by kernel_rfl) (fun _ _ _ h => h) (Or.inl ⟨by kernel_rfl, ?_⟩) (by assumption) ?_
                    · intro wz hSw
                      go_simp
                    try simp only [Act.put, List.getElem_toArray, List.getElem_cons_succ, List.getElem_cons_zero, List.setIfInBounds_toArray, List.set_cons_zero, List.set_cons_succ]
                    refine wpAnyH_take (i := 2) (v := .bool false) rfl (by kernel_rfl) (by kernel_rfl) (by kernel_rfl) (fun _ _ _ h => h) (Or.inl ⟨by kernel_rfl, ?_⟩) (by assumption) ?_
                    · intro wz hSw
                      go_simp
                    try simp only [Act.put, List.getElem_toArray, List.getElem_cons_succ, List.getElem_cons_zero, List.setIfInBounds_toArray, List.set_cons_zero, List.set_cons_succ]
                    refine wpAnyH_take (i := 3) (v := .int .u64 (n : Int)) rfl (by kernel_rfl) (by kernel_rfl) (by kernel_rfl) (fun _ _ _ h => h) (Or.inl ⟨by kernel_rfl, ?_⟩) (by assumption) ?_
                    · intro wz hSw
                      go_simp
                    try simp only [Act.put, List.getElem_toArray, List.getElem_cons_succ, List.getElem_cons_zero, List.setIfInBounds_toArray, List.set_cons_zero, List.set_cons_succ]
                    refine wpAnyH_take (i := 4) (v := .pointer (some ⟨F, 3, none⟩)) rfl (by kernel_rfl) (by kernel_rfl) (by kernel_rfl) (fun _ _ _ h => h) (Or.inl ⟨by kernel_rfl, ?_⟩) (by assumption) ?_
                    · intro wz hSw
                      go_simp
                    try simp only [Act.put, List.getElem_toArray, List.getElem_cons_succ, List.getElem_cons_zero, List.setIfInBounds_toArray, List.set_cons_zero, List.set_cons_succ]
                    refine wpAnyH_take (i := 5) (v := .slice (some ⟨g, 0, none⟩) q cap) rfl (by kernel_rfl) (by kernel_rfl) (by kernel_rfl) (fun _ _ _ h => h) (Or.inl ⟨by kernel_rfl, ?_⟩) (by assumption) ?_
                    · intro wz hSw
                      have hh := GC.out wz hSw
                      go_simp
                    try simp only [Act.put, List.getElem_toArray, List.getElem_cons_succ, List.getElem_cons_zero, List.setIfInBounds_toArray, List.set_cons_zero, List.set_cons_succ]
                    refine wpAnyH_take (i := 6) (v := .int .i64 (q : Int)) rfl (by kernel_rfl) (by kernel_rfl) (by kernel_rfl) (fun _ _ _ h => h) (Or.inl ⟨by kernel_rfl, ?_⟩) (by assumption) ?_
                    · intro wz hSw
                      go_simp
                    try simp only [Act.put, List.getElem_toArray, List.getElem_cons_succ, List.getElem_cons_zero, List.setIfInBounds_toArray, List.set_cons_zero, List.set_cons_succ]
                    refine wpAnyH_take (i := 7) (v := .int .u64 (q : Int)) rfl (by kernel_rfl) (by kernel_rfl) (by kernel_rfl) (fun _ _ _ h => h) (Or.inl ⟨by kernel_rfl, ?_⟩) (by assumption) ?_
                    · intro wz hSw
                      have hh := wrapU64 q (by omega)
                      go_simp
                    try simp only [Act.put, List.getElem_toArray, List.getElem_cons_succ, List.getElem_cons_zero, List.setIfInBounds_toArray, List.set_cons_zero, List.set_cons_succ]
                    refine wpAnyH_take (i := 8) (v := .bool false) rfl (by kernel_rfl) (by kernel_rfl) (by kernel_rfl) (fun _ _ _ h => h) (Or.inl ⟨by kernel_rfl, ?_⟩) (by assumption) ?_
                    · intro wz hSw
                      go_simp
                    try simp only [Act.put, List.getElem_toArray, List.getElem_cons_succ, List.getElem_cons_zero, List.setIfInBounds_toArray, List.set_cons_zero, List.set_cons_succ]
                    refine wpAnyH_take (i := 9) (v := .bool false) rfl (by kernel_rfl) (by kernel_rfl) (by kernel_rfl) (fun _ _ _ h => h) (Or.inl ⟨by kernel_rfl, ?_⟩) (by assumption) ?_
                    · intro wz hSw
                      go_simp
                    try simp only [Act.put, List.getElem_toArray, List.getElem_cons_succ, List.getElem_cons_zero, List.setIfInBounds_toArray, List.set_cons_zero, List.set_cons_succ]
                    refine wpAnyH_take (i := 10) (v := .bool false) rfl (by kernel_rfl) (by kernel_rfl) (by kernel_rfl) (fun _ _ _ h => h) (Or.inl ⟨by kernel_rfl, ?_⟩) (by assumption) ?_
                    · intro wz hSw
                      go_simp
                    try simp only [Act.put, List.getElem_toArray, List.getElem_cons_succ, List.getElem_cons_zero, List.setIfInBounds_toArray, List.set_cons_zero, List.set_cons_succ]
                    refine wpAnyH_take (i := 11) (v := .slice (some ⟨F + 1, 0, none⟩) q q) rfl (by kernel_rfl) (by kernel_rfl) (by kernel_rfl) (fun _ _ _ h => h) (Or.inl ⟨by kernel_rfl, ?_⟩) (by assumption) ?_
                    · intro wz hSw
                      go_simp
                    try simp only [Act.put, List.getElem_toArray, List.getElem_cons_succ, List.getElem_cons_zero, List.setIfInBounds_toArray, List.set_cons_zero, List.set_cons_succ]
                    refine wpAnyH_take (i := 12) (v := .int .u64 (n : Int)) rfl (by kernel_rfl) (by kernel_rfl) (by kernel_rfl) (fun _ _ _ h => h) (Or.inl ⟨by kernel_rfl, ?_⟩) (by assumption) ?_
                    · intro wz hSw
                      go_simp
                    try simp only [Act.put, List.getElem_toArray, List.getElem_cons_succ, List.getElem_cons_zero, List.setIfInBounds_toArray, List.set_cons_zero, List.set_cons_succ]
                    refine wpAnyH_take (i := 13) (v := .pointer (some ⟨F + 1, n, none⟩)) rfl (by kernel_rfl) (by kernel_rfl) (by kernel_rfl) (fun _ _ _ h => h) (Or.inl ⟨by kernel_rfl, ?_⟩) (by assumption) ?_
                    · intro wz hSw
                      go_simp
                    try simp only [Act.put, List.getElem_toArray, List.getElem_cons_succ, List.getElem_cons_zero, List.setIfInBounds_toArray, List.set_cons_zero, List.set_cons_succ]
                    refine wpAnyH_take (i := 14) (v := .bool false) rfl (by kernel_rfl) (by kernel_rfl) (by kernel_rfl) (fun _ _ _ h => h) (Or.inl ⟨by kernel_rfl, ?_⟩) (by assumption) ?_
                    · intro wz hSw
                      have hh := GD.out wz hSw
                      go_simp
                    try simp only [Act.put, List.getElem_toArray, List.getElem_cons_succ, List.getElem_cons_zero, List.setIfInBounds_toArray, List.set_cons_zero, List.set_cons_succ]
                    refine wpAnyH_take (i := 15) (v := .bool false) rfl (by kernel_rfl) (by kernel_rfl) (by kernel_rfl) (fun _ _ _ h => h) (Or.inl ⟨by kernel_rfl, ?_⟩) (by assumption) ?_
                    · intro wz hSw
                      go_simp
                    try simp only [Act.put, List.getElem_toArray, List.getElem_cons_succ, List.getElem_cons_zero, List.setIfInBounds_toArray, List.set_cons_zero, List.set_cons_succ]
                    refine wpAnyH_take (i := 16) (v := .bool false) rfl (by kernel_rfl) (by kernel_rfl) (by kernel_rfl) (fun _ _ _ h => h) (Or.inl ⟨by kernel_rfl, ?_⟩) (by assumption) ?_
                    · intro wz hSw
                      go_simp
                    try simp only [Act.put, List.getElem_toArray, List.getElem_cons_succ, List.getElem_cons_zero, List.setIfInBounds_toArray, List.set_cons_zero, List.set_cons_succ]
                    refine wpAnyH_take (i := 17) (v := .slice (some ⟨gs, off, none⟩) L.length cs) rfl (by kernel_rfl) (by kernel_rfl) (by kernel_rfl) (fun _ _ _ h => h) (Or.inl ⟨by kernel_rfl, ?_⟩) (by assumption) ?_
                    · intro wz hSw
                      go_simp
                    try simp only [Act.put, List.getElem_toArray, List.getElem_cons_succ, List.getElem_cons_zero, List.setIfInBounds_toArray, List.set_cons_zero, List.set_cons_succ]
                    refine wpAnyH_take (i := 18) (v := .int .i64 (k : Int)) rfl (by kernel_rfl) (by kernel_rfl) (by kernel_rfl) (fun _ _ _ h => h) (Or.inl ⟨by kernel_rfl, ?_⟩) (by assumption) ?_
                    · intro wz hSw
                      go_simp
                    try simp only [Act.put, List.getElem_toArray, List.getElem_cons_succ, List.getElem_cons_zero, List.setIfInBounds_toArray, List.set_cons_zero, List.set_cons_succ]
                    refine wpAnyH_take (i := 19) (v := .pointer (some ⟨gs, off + k, none⟩)) rfl (by kernel_rfl) (by kernel_rfl) (by kernel_rfl) (fun _ _ _ h => h) (Or.inl ⟨by kernel_rfl, ?_⟩) (by assumption) ?_
                    · intro wz hSw
                      go_simp
                    try simp only [Act.put, List.getElem_toArray, List.getElem_cons_succ, List.getElem_cons_zero, List.setIfInBounds_toArray, List.set_cons_zero, List.set_cons_succ]
                    refine wpAnyH_take (i := 20) (v := .string t) rfl (by kernel_rfl) (by kernel_rfl) (by kernel_rfl) (fun _ _ _ h => h) (Or.inl ⟨by kernel_rfl, ?_⟩) (by assumption) ?_
                    · intro wz hSw
                      have hh := GE.out wz hSw
                      go_simp
                    try simp only [Act.put, List.getElem_toArray, List.getElem_cons_succ, List.getElem_cons_zero, List.setIfInBounds_toArray, List.set_cons_zero, List.set_cons_succ]
                    refine wpAnyH_take (i := 21) (v := .int .i64 (m : Int)) rfl (by kernel_rfl) (by kernel_rfl) (by kernel_rfl) (fun _ _ _ h => h) (Or.inl ⟨by kernel_rfl, ?_⟩) (by assumption) ?_
                    · intro wz hSw
                      go_simp
                    try simp only [Act.put, List.getElem_toArray, List.getElem_cons_succ, List.getElem_cons_zero, List.setIfInBounds_toArray, List.set_cons_zero, List.set_cons_succ]
                    refine wpAnyH_take (i := 22) (v := .string T1) rfl (by kernel_rfl) (by kernel_rfl) (by kernel_rfl) (fun _ _ _ h => h) (Or.inl ⟨by kernel_rfl, ?_⟩) (by assumption) ?_
                    · intro wz hSw
                      have hh1 := HT1.out
                      go_simp
                    try simp only [Act.put, List.getElem_toArray, List.getElem_cons_succ, List.getElem_cons_zero, List.setIfInBounds_toArray, List.set_cons_zero, List.set_cons_succ]
                    refine wpAnyH_take (i := 24) (v := .pointer (some ⟨F, 3, none⟩)) rfl (by kernel_rfl) (by kernel_rfl) (by kernel_rfl) (fun _ _ _ h => h) (Or.inl ⟨by kernel_rfl, ?_⟩) (by assumption) ?_
                    · intro wz hSw
                      go_simp
                    try simp only [Act.put, List.getElem_toArray, List.getElem_cons_succ, List.getElem_cons_zero, List.setIfInBounds_toArray, List.set_cons_zero, List.set_cons_succ]
                    refine wpAnyH_take (i := 25) (v := .slice (some ⟨g, 0, none⟩) q cap) rfl (by kernel_rfl) (by kernel_rfl) (by kernel_rfl) (fun _ _ _ h => h) (Or.inl ⟨by kernel_rfl, ?_⟩) (by assumption) ?_
                    · intro wz hSw
                      have hh := GC.out wz hSw
                      go_simp
                    try simp only [Act.put, List.getElem_toArray, List.getElem_cons_succ, List.getElem_cons_zero, List.setIfInBounds_toArray, List.set_cons_zero, List.set_cons_succ]
                    refine wpAnyH_take (i := 26) (v := .int .u64 (n : Int)) rfl (by kernel_rfl) (by kernel_rfl) (by kernel_rfl) (fun _ _ _ h => h) (Or.inl ⟨by kernel_rfl, ?_⟩) (by assumption) ?_
                    · intro wz hSw
                      go_simp
                    try simp only [Act.put, List.getElem_toArray, List.getElem_cons_succ, List.getElem_cons_zero, List.setIfInBounds_toArray, List.set_cons_zero, List.set_cons_succ]
                    refine wpAnyH_take (i := 27) (v := .pointer (some ⟨g, n * 3, none⟩)) rfl (by kernel_rfl) (by kernel_rfl) (by kernel_rfl) (fun _ _ _ h => h) (Or.inl ⟨by kernel_rfl, ?_⟩) (by assumption) ?_
                    · intro wz hSw
                      go_simp
                    try simp only [Act.put, List.getElem_toArray, List.getElem_cons_succ, List.getElem_cons_zero, List.setIfInBounds_toArray, List.set_cons_zero, List.set_cons_succ]
                    refine wpAnyH_take (i := 28) (v := .pointer (some ⟨g, n * 3 + 2, none⟩)) rfl (by kernel_rfl) (by kernel_rfl) (by kernel_rfl) (fun _ _ _ h => h) (Or.inl ⟨by kernel_rfl, ?_⟩) (by assumption) ?_
                    · intro wz hSw
                      go_simp
                    try simp only [Act.put, List.getElem_toArray, List.getElem_cons_succ, List.getElem_cons_zero, List.setIfInBounds_toArray, List.set_cons_zero, List.set_cons_succ]
                    refine wpAnyH_take (i := 29) (v := .string xs) rfl (by kernel_rfl) (by kernel_rfl) (by kernel_rfl) (fun _ _ _ h => h) (Or.inl ⟨by kernel_rfl, ?_⟩) (by assumption) ?_
                    · intro wz hSw
                      obtain ⟨h0, h1, h2⟩ := GR.out wz hSw
                      go_simp
                    try simp only [Act.put, List.getElem_toArray, List.getElem_cons_succ, List.getElem_cons_zero, List.setIfInBounds_toArray, List.set_cons_zero, List.set_cons_succ]
                    refine wpAnyH_ready (rs := [23]) (by kernel_rfl) (by simp) ?_
                    refine AllReadyH.cons rfl (fun K hK => ?_) AllReadyH.nil
                    go_simp
                    go_at_call 22
                    refine (HSUM.out wd).mono ?_
                    rintro er x2 ⟨rfl, b1⟩
                    have B_x2 : Hid (Below wd.heap.size wd x2) := Lib.hid (B_wd.out.trans (b1.mono B_wd.out.size))
                    clear b1
                    go_wp2_with fail
                    refine hK.out _ _ B_x2.out (fun hHeld => ?_)
                    clear hK K
                    try simp only [Act.put, List.getElem_toArray, List.getElem_cons_succ, List.getElem_cons_zero, List.setIfInBounds_toArray, List.set_cons_zero, List.set_cons_succ]
                    refine wpAnyH_take (i := 30) (v := .bool true) rfl (by kernel_rfl) (by kernel_rfl) (by kernel_rfl) (fun _ _ _ h => h) (Or.inl ⟨by kernel_rfl, ?_⟩) (by assumption) ?_
                    · intro wz hSw
                      go_simp
                    try simp only [Act.put, List.getElem_toArray, List.getElem_cons_succ, List.getElem_cons_zero, List.setIfInBounds_toArray, List.set_cons_zero, List.set_cons_succ]
                    refine wpAnyH_take (i := 31) (v := .bool true) rfl (by kernel_rfl) (by kernel_rfl) (by kernel_rfl) (fun _ _ _ h => h) (Or.inl ⟨by kernel_rfl, ?_⟩) (by assumption) ?_
                    · intro wz hSw
                      go_simp
                    refine wpAnyH_done (by kernel_rfl) ?_ _
                    refine NoPanic.normal ?_
                    have HBx : Hid (Below w.heap.size w x2) := HBd.out.trans (B_x2.out.mono HBd.out.size)
                    have HRx := Lib.hid (HR.out.same ((B_x2.out.block g HLd.out.2.2.1).trans HGd.out))
                    have HDx := Lib.hid (HD.out.same (Nat.le_trans HZd.out B_x2.out.size) ((B_x2.out.block (F + 1) HLd.out.2.1).trans HDe.out))
                    have HFx := Lib.hid ((B_x2.out.block F HLd.out.1).trans HFd.out)
                    have HCx : Hid (∀ i (hi : i < L.length), x2.cell? ⟨gs, off + i, none⟩ = some (.string L[i])) := fun i hi => (B_x2.out.cell (p := ⟨gs, off + i, none⟩) HLd.out.2.2.2).trans (HCd.out i hi)
                    have HEx := Lib.hid ((B_x2.out.cell (p := ⟨gs, off + k, none⟩) HLd.out.2.2.2).trans HEd.out)
                    have HXx := Lib.hid ((B_x2.out.block w.heap.size (by have := HLd.out.2.2.1; omega)).trans HXd.out)
                    have hsx : F + 2 ≤ x2.heap.size := Nat.le_trans hsz (Nat.le_trans HZd.out B_x2.out.size)
                    clear HBd HR HD HF HC HX HB B_x2 GC GD GR GE HLd HFd HDd HGd HEd HDe HCd HXd HZd hHeld B_wd HTK HSUM
                    go_wp2_with fail
                    go_roundw
                    case rel => exact ⟨k + 1, l', dn, by omega, by go_num, HNX.out _ _ hs, HL, HRx, HDx, HFx, HCx, HXx, HBx, hsx⟩
                    case measure => simp [intOf]; omega
              · have g1 : decide ((q : Int) ≤ (n : Int)) = true := by rw [decide_eq_true_iff]; omega
                have g2 : decide (q ≤ n) = true := by rw [decide_eq_true_iff]; omega
                have hs : takeS l' dn t = (l', dn) := by
                  exact HTS.out.1 (List.getElem?_eq_none (by have := HL.out; omega))
                clear hok HTS
                go_wp2_with fail
                refine (HTK.out _).mono ?_
                rintro e wt ⟨rfl, rfl⟩
                go_wp2_with fail
                go_quiet (fail)
                go_wp2_with fail
                go_roundw
                case rel => exact ⟨k + 1, l', dn, by omega, by go_num, HNX.out _ _ hs, HL, HR.out.same rfl, HD.out.same (Nat.le_refl _) rfl, HF.out, HC.out, HX.out, below_drewN HB.out _, by simpa using hsz⟩
                case measure => simp [intOf]; omega
            · have ge : ((e' : Int) != 0) = true := by simp; omega
              have hs : takeS l' dn t = (l', dn) := by
                cases hx : l'[n]? with
                | none => exact HTS.out.1 hx
                | some y => rw [HTS.out.2 y hx, if_neg (fun hh => he hh.1)]
              clear hok HTS
              go_wp2_with fail
              refine (HTK.out _).mono ?_
              rintro e wt ⟨rfl, rfl⟩
              go_wp2_with fail
              go_quiet (fail)
              go_wp2_with fail
              go_roundw
              case rel => exact ⟨k + 1, l', dn, by omega, by go_num, HNX.out _ _ hs, HL, HR.out.same rfl, HD.out.same (Nat.le_refl _) rfl, HF.out, HC.out, HX.out, below_drewN HB.out _, by simpa using hsz⟩
              case measure => simp [intOf]; omega
          · obtain rfl : k = L.length := by omega
            rw [List.take_length] at HN
            obtain ⟨r0, r1, r2, r3, rf⟩ := cells4 HX.out
            go_wp2_with fail
            obtain ⟨W9, hW9, c0, c1, c2, c3, hs9, hb9⟩ := set4_pl HB.out HX.out (.int .i64 (a : Nat)) (.int .i64 (b : Nat)) (.int .i64 (c : Nat)) (.slice (some ⟨g, 0, none⟩) q cap)
            rw [← hW9]
            have hgw : RowW W9 g l' := HR.out.same (hs9 g (by omega))
            clear hW9 r0 r1 r2 r3 rf
            refine bodyPost_ret (v := .tuple #[.agg #[.int .i64 (a : Nat), .int .i64 (b : Nat), .int .i64 (c : Nat), .slice (some ⟨g, 0, none⟩) q cap], .int .i64 0]) (by simp [results, Tryz.f8, go_sem, c0, c1, c2, c3]) rfl ?_
            exact ⟨⟨fun h => (by rw [HN.out] at h; cases h), fun a' b' c' l2 dn' h => by
              rw [HN.out] at h
              cases h
              exact ⟨g, cap, by rw [HL.out], hgw, by rw [HL.out]; exact hcl, hcm2, by omega⟩⟩, hb9⟩
    · obtain rfl : j = L.length := by omega
      rw [List.take_length] at HR
      go_wp2_with fail
      obtain ⟨W9, hW9, c0, c1, c2, c3, _, hb9⟩ := set4_pl HB.out HX.out (.int .i64 0) (.int .i64 0) (.int .i64 0) (.slice none 0 0)
      rw [← hW9]
      clear hW9 r0 r1 r2 r3 rf
      refine bodyPost_ret (v := .tuple #[.agg #[.int .i64 0, .int .i64 0, .int .i64 0, .slice none 0 0], .int .i64 5]) (by simp [results, Tryz.f8, go_sem, c0, c1, c2, c3]) rfl ?_
      exact ⟨⟨fun _ => rfl, fun _ _ _ _ _ h => (by rw [HR.out] at h; cases h)⟩, hb9⟩
end Go.Proofs.YtfpofcfoeajkiaaGreat
