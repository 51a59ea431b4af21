/- Texts of this claim's author, packed: ScrRHead, ScrMap. Conditions: none. -/
import Derived.Test.YtfpofcfoeajkiaaGreatQR13
import Derived.Test.YtfpofcfoeajkiaaGreatProg
import Derived.Maps.Own
import Derived.Maps.OwnSet
/- The ward of a frame's text: siloref45.head (printed by gen-scr-rhead.py). -/
namespace Go.Proofs.YtfpofcfoeajkiaaGreat
open Go.RowKit
set_option linter.unusedVariables false
set_option linter.unusedSimpArgs false
set_option maxRecDepth 20000 in
set_option maxHeartbeats 8000000 in
theorem rhead_any (s : ByteArray) (hs : s.size ≤ 1000000) (w : World) :
    Calls Tryz.prog 20 #[.string s] w fun e w' => HeadPost w.heap.size (headL s.data.toList) e w' ∧ Below w.heap.size w w' := by
  obtain ⟨wE, hwE⟩ : ∃ wE, wE = (w.alloc (.cells #[.int .i64 0, .int .i64 0, .int .i64 0, .slice none 0 0] 24)).alloc (.cells #[.int .u64 ((0 : Nat) : Int), .int .u64 ((0 : Nat) : Int), .int .u64 ((0 : Nat) : Int)] 82) := ⟨_, rfl⟩
  have HB0 : Hid (Below w.heap.size w wE) := by unfold Hid; rw [hwE]; exact ((Below.refl _ _).alloc (Nat.le_refl _) _).alloc (by simp) _
  have HQ0 : Hid (wE.heap[w.heap.size]? = some (.cells #[.int .i64 0, .int .i64 0, .int .i64 0, .slice none 0 0] 24)) := by unfold Hid; rw [hwE]; exact (Below.heap_alloc _ _ _ (by simp)).trans (World.alloc_heap_new w _)
  have HV0 : Hid (wE.heap[w.heap.size + 1]? = some (.cells #[.int .u64 ((0 : Nat) : Int), .int .u64 ((0 : Nat) : Int), .int .u64 ((0 : Nat) : Int)] 82)) := by
    unfold Hid; rw [hwE]
    have h := World.alloc_heap_new (w.alloc (.cells #[.int .i64 0, .int .i64 0, .int .i64 0, .slice none 0 0] 24)) (.cells #[.int .u64 ((0 : Nat) : Int), .int .u64 ((0 : Nat) : Int), .int .u64 ((0 : Nat) : Int)] 82)
    rwa [World.size_alloc] at h
  have HWE : Hid ((w.alloc (.cells #[.int .i64 0, .int .i64 0, .int .i64 0, .slice none 0 0] 24)).alloc (.cells #[.int .u64 0, .int .u64 0, .int .u64 0] 82) = wE) := hwE.symm
  clear hwE
  go_enter Tryz.func20, Tryz.ntmps20
  go_wp2_with fail
  rw [HWE.out]
  go_loopw [0, 5] (fun a i wr => ∃ (j p q r : Nat) (T : ByteArray), j ≤ 3 ∧ i = .int .i64 j ∧ a = .string T ∧ T.size ≤ s.size ∧ Hid (wr.heap[w.heap.size + 1]? = some (.cells #[.int .u64 p, .int .u64 q, .int .u64 r] 82)) ∧ Hid (wr.heap[w.heap.size]? = some (.cells #[.int .i64 0, .int .i64 0, .int .i64 0, .slice none 0 0] 24)) ∧ Hid (numsL s.data.toList = numsG (3 - j) ([p, q, r].take j) T.data.toList) ∧ Hid (Below w.heap.size w wr)) (fun _ i _ => 3 - (intOf i).toNat)
  case atStart => exact ⟨0, 0, 0, 0, s, Nat.zero_le _, rfl, rfl, Nat.le_refl _, HV0, HQ0, Lib.hid rfl, HB0⟩
  case round =>
    obtain ⟨j, p, q, r, T, hj, rfl, rfl, hT, HV, HQ, HN, HB⟩ := hrel
    clear HV0 HQ0 HB0 HWE
    have hlv := (Array.getElem?_eq_some_iff.1 HV.out).1
    by_cases hlt : j < 3
    · have hlt' : (j : Int) < 3 := by omega
      have HTK := Lib.hid (fun W => refTake_any T (by unfold maxLen; omega) W)
      obtain ⟨x, k, c, v0⟩ : ∃ x k c, vTake T.data.toList = (x, k, c) := ⟨_, _, _, rfl⟩
      have hok : c = 0 → k ≤ T.size := fun h => by have := (vTake_le T.data.toList (by rw [v0]; exact h)).1; rw [v0] at this; simpa using this
      have hxl := (vTake_lt T.data.toList).1
      rw [v0] at HTK hxl
      have HST : Hid (∀ (n : Nat) vs, numsG (n + 1) vs T.data.toList = if c = 0 ∧ x ≤ 65536 then numsG n (vs ++ [x]) (T.extract k T.size).data.toList else none) := fun n vs => by rw [numsG, v0, extract_toS]
      dsimp only at HTK hxl
      clear v0
      by_cases hc : c = 0 ∧ x ≤ 65536
      · obtain ⟨hc0, hx6⟩ := hc
        have hk := hok hc0
        subst hc0
        have dx : decide ((65536 : Int) < (x : Int)) = false := by rw [decide_eq_false_iff_not]; omega
        have dx2 : decide (65536 < x) = false := by rw [decide_eq_false_iff_not]; omega
        have HT1 : Hid ((T.extract k T.size).size ≤ s.size) := by unfold Hid; rw [ByteArray.size_extract]; omega
        have HN1 : Hid (numsL s.data.toList = numsG (3 - (j + 1)) (([p, q, r].take j) ++ [x]) (T.extract k T.size).data.toList) := by
          unfold Hid
          rw [HN.out, show 3 - j = (3 - (j + 1)) + 1 by omega, HST.out, if_pos ⟨rfl, hx6⟩]
        clear hok HST HN
        have gk1 : ((k : Nat) : Int) ≤ (T.size : Int) := by omega
        have gk2 : (0 : Int) ≤ ((k : Nat) : Int) := by omega
        have gk3 : (((k : Nat) : Int)).toNat = k := Int.toNat_natCast _
        have HBs := Lib.hid (fun i => HB.out.setCell (p := ⟨w.heap.size + 1, i, none⟩) (by dsimp only; omega) (.int .u64 (x : Int)))
        have HQs : Hid (∀ i, (wr.setCell ⟨w.heap.size + 1, i, none⟩ (.int .u64 (x : Int))).heap[w.heap.size]? = some (.cells #[.int .i64 0, .int .i64 0, .int .i64 0, .slice none 0 0] 24)) := fun i => (Below.heap_setCell _ _ _ _ (by dsimp only; omega)).trans HQ.out
        obtain ⟨c0, c1, c2, cf⟩ := cells3b HV.out
        obtain ⟨s0, s1, s2⟩ := set3b (u := .int .u64 (x : Int)) HV.out
        rcases (show j = 0 ∨ j = 1 ∨ j = 2 by omega) with rfl | rfl | rfl
        · have cj := c0
          have fj := cf 0
          have HVn := Lib.hid s0
          have HBn := Lib.hid (HBs.out 0)
          have HQn := Lib.hid (HQs.out 0)
          clear c0 c1 c2 cf s0 s1 s2 HBs HQs HV HQ HB
          go_wp2_with fail
          refine (HTK.out _).mono ?_
          rintro e wt ⟨rfl, rfl⟩
          clear HTK
          go_wp2_with fail
          go_roundw
          case rel => exact ⟨1, x, q, r, _, by omega, by go_num, rfl, HT1.out, HVn, HQn, HN1, HBn⟩
          case measure => simp [intOf]
        · have cj := c1
          have fj := cf 1
          have HVn := Lib.hid s1
          have HBn := Lib.hid (HBs.out 1)
          have HQn := Lib.hid (HQs.out 1)
          clear c0 c1 c2 cf s0 s1 s2 HBs HQs HV HQ HB
          go_wp2_with fail
          refine (HTK.out _).mono ?_
          rintro e wt ⟨rfl, rfl⟩
          clear HTK
          go_wp2_with fail
          go_roundw
          case rel => exact ⟨2, p, x, r, _, by omega, by go_num, rfl, HT1.out, HVn, HQn, HN1, HBn⟩
          case measure => simp [intOf]
        · have cj := c2
          have fj := cf 2
          have HVn := Lib.hid s2
          have HBn := Lib.hid (HBs.out 2)
          have HQn := Lib.hid (HQs.out 2)
          clear c0 c1 c2 cf s0 s1 s2 HBs HQs HV HQ HB
          go_wp2_with fail
          refine (HTK.out _).mono ?_
          rintro e wt ⟨rfl, rfl⟩
          clear HTK
          go_wp2_with fail
          go_roundw
          case rel => exact ⟨3, p, q, x, _, by omega, by go_num, rfl, HT1.out, HVn, HQn, HN1, HBn⟩
          case measure => simp [intOf]
      · have HNN : Hid (headL s.data.toList = none) := by
          refine headL_none ?_
          rw [HN.out, show 3 - j = (3 - (j + 1)) + 1 by omega, HST.out, if_neg hc]
        clear HST HN hok
        by_cases hc0 : c = 0
        · have hx6 : 65536 < x := by omega
          have dc : ((c : Int) != 0) = false := by simp [hc0]
          have dx : decide ((65536 : Int) < (x : Int)) = true := by rw [decide_eq_true_iff]; omega
          have dx2 : decide (65536 < x) = true := by rw [decide_eq_true_iff]; omega
          clear hc
          subst hc0
          obtain ⟨c0, c1, c2, c3, cf⟩ := cells4b HQ.out
          have f0 := cf 0
          have f1 := cf 1
          have f2 := cf 2
          have f3 := cf 3
          clear cf
          go_wp2_with fail
          refine (HTK.out _).mono ?_
          rintro e wt ⟨rfl, rfl⟩
          clear HTK
          go_wp2_with fail
          (try simp only [Exit.inBlock, Exit.then])
          refine bodyPost_cellS (V := .agg #[.int .i64 0, .int .i64 0, .int .i64 0, .slice none 0 0]) rfl rfl ?_ rfl ?_
          · go_simp
          · exact ⟨⟨(fun _ => ⟨0, 0, 0, none, 0, 0, rfl⟩), (fun a b c l h => by rw [HNN.out] at h; cases h)⟩, set4_below (Nat.le_refl _) HB.out _ _ _ _⟩
        · have dc : ((c : Int) != 0) = true := by simp; omega
          clear hc
          obtain ⟨c0, c1, c2, c3, cf⟩ := cells4b HQ.out
          have f0 := cf 0
          have f1 := cf 1
          have f2 := cf 2
          have f3 := cf 3
          clear cf
          go_wp2_with fail
          refine (HTK.out _).mono ?_
          rintro e wt ⟨rfl, rfl⟩
          clear HTK
          go_wp2_with fail
          (try simp only [Exit.inBlock, Exit.then])
          refine bodyPost_cellS (V := .agg #[.int .i64 0, .int .i64 0, .int .i64 0, .slice none 0 0]) rfl rfl ?_ rfl ?_
          · go_simp
          · exact ⟨⟨(fun _ => ⟨0, 0, 0, none, 0, 0, rfl⟩), (fun a b c l h => by rw [HNN.out] at h; cases h)⟩, set4_below (Nat.le_refl _) HB.out _ _ _ _⟩
    · obtain rfl : j = 3 := by omega
      rw [show ((3 : Nat) : Int) = 3 from rfl]
      have hnum : numsL s.data.toList = some ([p, q, r], T.data.toList) := HN.out
      obtain ⟨_, _, _, e1, hp6, hq6, hr6, hTl⟩ := numsL_spec hnum
      cases e1
      have HHS := Lib.hid (headL_some hnum)
      have hTT : T.data.toList.length = T.size := by simp
      rw [hTT] at HHS
      clear hnum hTT hTl HN
      obtain ⟨c0, c1, c2, cf⟩ := cells3b HV.out
      clear cf
      obtain ⟨w2, hw2⟩ : ∃ w2, w2 = wr.alloc (.cells #[.int .i64 p, .int .i64 q, .int .i64 r, .slice none 0 0] 24) := ⟨_, rfl⟩
      have hb2 : Below wr.heap.size wr w2 := by rw [hw2]; exact (Below.refl _ _).alloc (Nat.le_refl _) _
      have HV2 : Hid (w2.heap[wr.heap.size]? = some (.cells #[.int .i64 p, .int .i64 q, .int .i64 r, .slice none 0 0] 24)) := by unfold Hid; rw [hw2]; exact World.alloc_heap_new _ _
      have HQ2 := Lib.hid ((hb2.block _ (by omega)).trans HQ.out)
      have HB2 := Lib.hid (HB.out.trans (hb2.mono HB.out.size))
      have hlt2 : wr.heap.size < w2.heap.size := (Array.getElem?_eq_some_iff.1 HV2.out).1
      have HW2 := Lib.hid hw2
      obtain ⟨wo, rfl⟩ : ∃ wo : World, wo = wr := ⟨_, rfl⟩
      have wp1 : IntKind.i64.wrap (p : Int) = (p : Int) := by rw [IntKind.wrap_i64]; omega
      have wq1 : IntKind.i64.wrap (q : Int) = (q : Int) := by rw [IntKind.wrap_i64]; omega
      have wr1 : IntKind.i64.wrap (r : Int) = (r : Int) := by rw [IntKind.wrap_i64]; omega
      obtain ⟨d0, d1, d2, d3, _⟩ := cells4b HV2.out
      obtain ⟨g0, g1, g2, g3, gf⟩ := cells4b HQ.out
      have hbs : w.heap.size ≤ wo.heap.size := HB.out.size
      rw [hw2] at d0 d1 d2 d3
      clear hw2 hb2 hj hlt
      by_cases hm : T.size = (p + q) * 32
      · have dm : ((T.size : Int) != ((p : Int) + (q : Int)) * 32) = false := by rw [bne_eq_false_iff_eq]; omega
        obtain ⟨n, hn⟩ : ∃ n : Nat, n = p + q := ⟨_, rfl⟩
        have hnI : (p : Int) + (q : Int) = (n : Int) := by omega
        have dm2 : ((T.size : Int) != (n : Int) * 32) = false := by rw [bne_eq_false_iff_eq]; omega
        have hn3 : n ≤ 131072 := by omega
        have HNN := Lib.hid hn
        have HRN : Hid (T.size = n * 32) := by unfold Hid; rw [hn]; exact hm
        clear hn hm
        go_wp2_with fail
        rw [← HW2.out]
        clear d0 d1 d2 d3 c0 c1 c2 g0 g1 g2 g3 gf
        go_loopw [10] (fun i wr => ∃ (j : Nat) (A : Option Addr) (cap : Nat), j ≤ n ∧ i = .int .i64 j ∧ w2.heap.size ≤ wr.heap.size ∧ Hid (wr.heap[wo.heap.size]? = some (.cells #[.int .i64 p, .int .i64 q, .int .i64 r, .slice A j cap] 24)) ∧ Hid (wr.heap[w.heap.size]? = some (.cells #[.int .i64 0, .int .i64 0, .int .i64 0, .slice none 0 0] 24)) ∧ Hid (wr.ownsRow w2.heap.size 46 3 (.slice A j cap) (shdOf j T.data.toList).length (shCells (shdOf j T.data.toList))) ∧ Hid (Below w.heap.size w wr)) (fun i _ => n - (intOf i).toNat)
        case atStart => exact ⟨0, none, 0, Nat.zero_le _, rfl, Nat.le_refl _, HV2, HQ2, World.ownsRow_nil _ _ _ _, HB2⟩
        case round =>
          obtain ⟨j, A, cap, hj, rfl, hsz, HV, HQ, HO, HB⟩ := hrel
          obtain ⟨y0, y1, y2, y3, _⟩ := cells4b HV.out
          by_cases hlt : j < n
          · have hlt' : (j : Int) < n := by omega
            obtain ⟨lo, hlo⟩ : ∃ lo, lo = j * 32 := ⟨_, rfl⟩
            obtain ⟨hi, hhi⟩ : ∃ hi, hi = (j + 1) * 32 := ⟨_, rfl⟩
            have hl1 : lo ≤ hi := by omega
            have hl2 : hi ≤ T.size := by have := HRN.out; omega
            have HXT : Hid (shdAt T.data.toList j = ((j : Int), (⟨#[]⟩ : ByteArray), T.extract lo hi)) := by
              unfold Hid shdAt
              congr 2
              apply ByteArray.ext
              apply Array.toList_inj.1
              rw [Lib.extract_data, show hi - lo = 32 by omega, show lo = 32 * j by omega]
            have HSU : Hid (shdOf (j + 1) T.data.toList = shdOf j T.data.toList ++ [((j : Int), (⟨#[]⟩ : ByteArray), T.extract lo hi)]) := by unfold Hid; rw [shdOf_succ, HXT.out]
            have HOL : Hid ((shdOf j T.data.toList).length = j) := shdOf_len _ _
            have HLO := Lib.hid hlo
            have HHI := Lib.hid hhi
            generalize shdOf j T.data.toList = xs at *
            clear hlo hhi HXT
            have hl3 : (lo : Int) ≤ (hi : Int) := by omega
            have hl4 : (hi : Int) ≤ (T.size : Int) := by omega
            have hl5 : (0 : Int) ≤ (lo : Int) := by omega
            have HOd : Hid (wr.drew.ownsRow w2.heap.size 46 3 (.slice A j cap) xs.length (shCells xs)) := HO.out
            have HVd : Hid (wr.drew.heap[wo.heap.size]? = some (.cells #[.int .i64 p, .int .i64 q, .int .i64 r, .slice A j cap] 24)) := HV.out
            have HQd : Hid (wr.drew.heap[w.heap.size]? = some (.cells #[.int .i64 0, .int .i64 0, .int .i64 0, .slice none 0 0] 24)) := HQ.out
            have HBd : Hid (Below w.heap.size w wr.drew) := HB.out.drew
            have hszd : w2.heap.size ≤ wr.drew.heap.size := hsz
            clear HO HV HQ HB hsz
            go_wp2_with fail
            clear y0 y1 y2 y3
            obtain ⟨x, hx⟩ : ∃ x, x = T.extract lo hi := ⟨_, rfl⟩
            have HXE := Lib.hid hx
            rw [← hx] at HSU
            clear hx
            refine wp_region_noPanic ?_
            refine wp_region_held_drew (S := fun _ => True) (by kernel_rfl) trivial (fun hHeld => ?_)
            generalize wr.drew = wd at *
            refine wpAnyH_take (i := 0) (v := .pointer (some ⟨wo.heap.size, 3, none⟩)) rfl (by kernel_rfl) (by kernel_rfl) (by kernel_rfl) (fun _ _ _ h => h) (Or.inl ⟨by kernel_rfl, ?_⟩) (by assumption) ?_
            · intro wz hSw
              go_simp
            try simp only [Act.put, List.getElem_toArray, List.getElem_cons_succ, List.getElem_cons_zero, List.setIfInBounds_toArray, List.set_cons_zero, List.set_cons_succ]
            refine wpAnyH_take (i := 2) (v := .int .i64 (j : Int)) rfl (by kernel_rfl) (by kernel_rfl) (by kernel_rfl) (fun _ _ _ h => h) (Or.inl ⟨by kernel_rfl, ?_⟩) (by assumption) ?_
            · intro wz hSw
              go_simp
            try simp only [Act.put, List.getElem_toArray, List.getElem_cons_succ, List.getElem_cons_zero, List.setIfInBounds_toArray, List.set_cons_zero, List.set_cons_succ]
            refine wpAnyH_take (i := 3) (v := .string T) rfl (by kernel_rfl) (by kernel_rfl) (by kernel_rfl) (fun _ _ _ h => h) (Or.inl ⟨by kernel_rfl, ?_⟩) (by assumption) ?_
            · intro wz hSw
              go_simp
            try simp only [Act.put, List.getElem_toArray, List.getElem_cons_succ, List.getElem_cons_zero, List.setIfInBounds_toArray, List.set_cons_zero, List.set_cons_succ]
            refine wpAnyH_take (i := 4) (v := .int .i64 (j : Int)) rfl (by kernel_rfl) (by kernel_rfl) (by kernel_rfl) (fun _ _ _ h => h) (Or.inl ⟨by kernel_rfl, ?_⟩) (by assumption) ?_
            · intro wz hSw
              go_simp
            try simp only [Act.put, List.getElem_toArray, List.getElem_cons_succ, List.getElem_cons_zero, List.setIfInBounds_toArray, List.set_cons_zero, List.set_cons_succ]
            refine wpAnyH_take (i := 5) (v := .int .i64 (lo : Int)) rfl (by kernel_rfl) (by kernel_rfl) (by kernel_rfl) (fun _ _ _ h => h) (Or.inl ⟨by kernel_rfl, ?_⟩) (by assumption) ?_
            · intro wz hSw
              go_simp
              first | done | (have h1 := HLO.out; have h2 := HHI.out; (try rw [IntKind.wrap_i64]); omega)
            try simp only [Act.put, List.getElem_toArray, List.getElem_cons_succ, List.getElem_cons_zero, List.setIfInBounds_toArray, List.set_cons_zero, List.set_cons_succ]
            refine wpAnyH_take (i := 6) (v := .int .i64 (j : Int)) rfl (by kernel_rfl) (by kernel_rfl) (by kernel_rfl) (fun _ _ _ h => h) (Or.inl ⟨by kernel_rfl, ?_⟩) (by assumption) ?_
            · intro wz hSw
              go_simp
            try simp only [Act.put, List.getElem_toArray, List.getElem_cons_succ, List.getElem_cons_zero, List.setIfInBounds_toArray, List.set_cons_zero, List.set_cons_succ]
            refine wpAnyH_take (i := 7) (v := .int .i64 ((j : Int) + 1)) rfl (by kernel_rfl) (by kernel_rfl) (by kernel_rfl) (fun _ _ _ h => h) (Or.inl ⟨by kernel_rfl, ?_⟩) (by assumption) ?_
            · intro wz hSw
              go_simp
              first | done | (have h1 := HLO.out; have h2 := HHI.out; (try rw [IntKind.wrap_i64]); omega)
            try simp only [Act.put, List.getElem_toArray, List.getElem_cons_succ, List.getElem_cons_zero, List.setIfInBounds_toArray, List.set_cons_zero, List.set_cons_succ]
            refine wpAnyH_take (i := 8) (v := .int .i64 (hi : Int)) rfl (by kernel_rfl) (by kernel_rfl) (by kernel_rfl) (fun _ _ _ h => h) (Or.inl ⟨by kernel_rfl, ?_⟩) (by assumption) ?_
            · intro wz hSw
              go_simp
              first | done | (have h1 := HLO.out; have h2 := HHI.out; (try rw [IntKind.wrap_i64]); omega)
            try simp only [Act.put, List.getElem_toArray, List.getElem_cons_succ, List.getElem_cons_zero, List.setIfInBounds_toArray, List.set_cons_zero, List.set_cons_succ]
            refine wpAnyH_take (i := 9) (v := .string x) rfl (by kernel_rfl) (by kernel_rfl) (by kernel_rfl) (fun _ _ _ h => h) (Or.inl ⟨by kernel_rfl, ?_⟩) (by assumption) ?_
            · intro wz hSw
              have hh := HXE.out
              go_simp
            try simp only [Act.put, List.getElem_toArray, List.getElem_cons_succ, List.getElem_cons_zero, List.setIfInBounds_toArray, List.set_cons_zero, List.set_cons_succ]
            refine wpAnyH_take (i := 10) (v := .agg #[.int .i64 (j : Int), .string ⟨#[]⟩, .string x]) rfl (by kernel_rfl) (by kernel_rfl) (by kernel_rfl) (fun _ _ _ h => h) (Or.inl ⟨by kernel_rfl, ?_⟩) (by assumption) ?_
            · intro wz hSw
              go_simp
            try simp only [Act.put, List.getElem_toArray, List.getElem_cons_succ, List.getElem_cons_zero, List.setIfInBounds_toArray, List.set_cons_zero, List.set_cons_succ]
            have HVa : Hid ((wd.alloc (.cells #[.int .i64 (j : Int), .string ⟨#[]⟩, .string x] 46)).heap[wo.heap.size]? = some (.cells #[.int .i64 p, .int .i64 q, .int .i64 r, .slice A j cap] 24)) := (Below.heap_alloc _ _ _ (by omega)).trans HVd.out
            have HQa : Hid ((wd.alloc (.cells #[.int .i64 (j : Int), .string ⟨#[]⟩, .string x] 46)).heap[w.heap.size]? = some (.cells #[.int .i64 0, .int .i64 0, .int .i64 0, .slice none 0 0] 24)) := (Below.heap_alloc _ _ _ (by omega)).trans HQd.out
            have HOa : Hid ((wd.alloc (.cells #[.int .i64 (j : Int), .string ⟨#[]⟩, .string x] 46)).ownsRow w2.heap.size 46 3 (.slice A j cap) xs.length (shCells xs)) := HOd.out.alloc _
            have HNa : Hid ((wd.alloc (.cells #[.int .i64 (j : Int), .string ⟨#[]⟩, .string x] 46)).heap[wd.heap.size]? = some (.cells #[.int .i64 (j : Int), .string ⟨#[]⟩, .string x] 46 (0, 0))) := World.alloc_heap_new _ _
            have HBa : Hid (Below w.heap.size w (wd.alloc (.cells #[.int .i64 (j : Int), .string ⟨#[]⟩, .string x] 46))) := HBd.out.alloc HBd.out.size _
            have hsza : w2.heap.size ≤ (wd.alloc (.cells #[.int .i64 (j : Int), .string ⟨#[]⟩, .string x] 46)).heap.size := by rw [World.size_alloc]; omega
            have d3 := (cells4b HVd.out).2.2.2.1
            have e3 := (cells4b HVa.out).2.2.2.1
            refine wpAnyH_ready (rs := [1, 11]) (by kernel_rfl) (by simp) ?_
            refine AllReadyH.cons rfl (fun K hK => ?_) (AllReadyH.cons rfl (fun K hK => ?_) AllReadyH.nil)
            · go_simp
              refine hK.out _ _ trivial (fun hHeld => ?_)
              clear hK K
              try simp only [Act.put, List.getElem_toArray, List.getElem_cons_succ, List.getElem_cons_zero, List.setIfInBounds_toArray, List.set_cons_zero, List.set_cons_succ]
              refine wpAnyH_ready (rs := [11]) (by kernel_rfl) (by simp) ?_
              refine AllReadyH.cons rfl (fun K hK => ?_) AllReadyH.nil
              go_simp
              go_wp2_with fail
              refine hK.out _ _ trivial (fun hHeld => ?_)
              clear hK K
              try simp only [Act.put, List.getElem_toArray, List.getElem_cons_succ, List.getElem_cons_zero, List.setIfInBounds_toArray, List.set_cons_zero, List.set_cons_succ]
              clear d3 e3
              generalize wd.alloc (.cells #[.int .i64 (j : Int), .string ⟨#[]⟩, .string x] 46) = we at *
              refine wpAnyH_ready (rs := [12]) (by kernel_rfl) (by simp) ?_
              refine AllReadyH.cons rfl (fun K hK => ?_) AllReadyH.nil
              simp only [Region.wanted, if_true]
              refine wp_push_shd (.tmp 64) (.tmp 74) 22 rfl Tryz.underlying22 w2.heap.size (.slice A j cap) xs (by go_simp) HOa.out wd.heap.size 1 ((j : Int), (⟨#[]⟩ : ByteArray), x) (by go_simp) HNa.out (by have := HOL.out; omega) hsza (fun v' w4 o4 g4 => ?_)
              have HB4 : Hid (Below w.heap.size w w4) := HBa.out.grown g4 HBa.out.size (fun q hq => by have := (HOa.out.lt q hq).1; omega)
              have hne : ∀ b, b < w2.heap.size → some b ≠ (Value.slice A j cap).ownBlock := fun b hb e => by have := (HOa.out.lt b e.symm).1; omega
              have HV4 : Hid (w4.heap[wo.heap.size]? = some (.cells #[.int .i64 p, .int .i64 q, .int .i64 r, .slice A j cap] 24)) := (g4.block _ (by omega) (hne _ hlt2)).trans HVa.out
              have HQ4 : Hid (w4.heap[w.heap.size]? = some (.cells #[.int .i64 0, .int .i64 0, .int .i64 0, .slice none 0 0] 24)) := (g4.block _ (by omega) (hne _ (by omega))).trans HQa.out
              obtain ⟨g5, cap5, rfl⟩ : ∃ g5 cap5, v' = .slice (some ⟨g5, 0, none⟩) (j + 1) cap5 := by
                have hl := HOL.out
                rcases o4.2 with ⟨_, h0⟩ | ⟨gg, cc, _, e, _⟩
                · simp at h0
                · exact ⟨gg, cc, by rw [e]; congr 1; simp; omega⟩
              have HO4 : Hid (w4.ownsRow w2.heap.size 46 3 (.slice (some ⟨g5, 0, none⟩) (j + 1) cap5) (shdOf (j + 1) T.data.toList).length (shCells (shdOf (j + 1) T.data.toList))) := by unfold Hid; rw [HSU.out]; exact o4
              have hs4 : w2.heap.size ≤ w4.heap.size := Nat.le_trans hsza g4.size
              obtain ⟨c0, c1, c2, c3, cf⟩ := cells4b HV4.out
              have f3 := cf 3
              refine hK.out _ _ trivial (fun hHeld => ?_)
              clear hK K o4 g4 hne cf c0 c1 c2
              try simp only [Act.put, List.getElem_toArray, List.getElem_cons_succ, List.getElem_cons_zero, List.setIfInBounds_toArray, List.set_cons_zero, List.set_cons_succ]
              refine wpAnyH_take (i := 13) (v := .pointer (some ⟨wo.heap.size, 3, none⟩)) rfl (by kernel_rfl) (by kernel_rfl) (by kernel_rfl) (fun _ _ _ h => h) (Or.inl ⟨by kernel_rfl, ?_⟩) (by assumption) ?_
              · intro wz hSw
                go_simp
              try simp only [Act.put, List.getElem_toArray, List.getElem_cons_succ, List.getElem_cons_zero, List.setIfInBounds_toArray, List.set_cons_zero, List.set_cons_succ]
              refine wpAnyH_ready (rs := [14]) (by kernel_rfl) (by simp) ?_
              refine AllReadyH.cons rfl (fun K hK => ?_) AllReadyH.nil
              have HV5 := Lib.hid (set4b (v := .slice (some ⟨g5, 0, none⟩) (j + 1) cap5) HV4.out)
              have HQ5 : Hid ((w4.setCell ⟨wo.heap.size, 3, none⟩ (.slice (some ⟨g5, 0, none⟩) (j + 1) cap5)).heap[w.heap.size]? = some (.cells #[.int .i64 0, .int .i64 0, .int .i64 0, .slice none 0 0] 24)) := (Below.heap_setCell _ _ _ _ (by dsimp only; omega)).trans HQ4.out
              have HO5 := Lib.hid (ownsRow_setCell_below HO4.out (a := ⟨wo.heap.size, 3, none⟩) hlt2 (.slice (some ⟨g5, 0, none⟩) (j + 1) cap5))
              have HB5 := Lib.hid (HB4.out.setCell (p := ⟨wo.heap.size, 3, none⟩) (by dsimp only; omega) (.slice (some ⟨g5, 0, none⟩) (j + 1) cap5))
              have hs5 : w2.heap.size ≤ (w4.setCell ⟨wo.heap.size, 3, none⟩ (.slice (some ⟨g5, 0, none⟩) (j + 1) cap5)).heap.size := by rw [World.size_setCell]; exact hs4
              go_simp
              refine hK.out _ _ trivial (fun hHeld => ?_)
              clear hK K c3 f3
              generalize w4.setCell ⟨wo.heap.size, 3, none⟩ (.slice (some ⟨g5, 0, none⟩) (j + 1) cap5) = w5 at *
              refine wpAnyH_done (by kernel_rfl) ?_ _
              refine NoPanic.normal ?_
              go_wp2_with fail
              go_roundw
              case rel => exact ⟨j + 1, _, _, by omega, by go_num, hs5, HV5, HQ5, HO5, HB5⟩
              case measure => simp [intOf]; omega
            · go_simp
              go_wp2_with fail
              refine hK.out _ _ trivial (fun hHeld => ?_)
              clear hK K
              try simp only [Act.put, List.getElem_toArray, List.getElem_cons_succ, List.getElem_cons_zero, List.setIfInBounds_toArray, List.set_cons_zero, List.set_cons_succ]
              refine wpAnyH_ready (rs := [1]) (by kernel_rfl) (by simp) ?_
              refine AllReadyH.cons rfl (fun K hK => ?_) AllReadyH.nil
              go_simp
              refine hK.out _ _ trivial (fun hHeld => ?_)
              clear hK K
              try simp only [Act.put, List.getElem_toArray, List.getElem_cons_succ, List.getElem_cons_zero, List.setIfInBounds_toArray, List.set_cons_zero, List.set_cons_succ]
              clear d3 e3
              generalize wd.alloc (.cells #[.int .i64 (j : Int), .string ⟨#[]⟩, .string x] 46) = we at *
              refine wpAnyH_ready (rs := [12]) (by kernel_rfl) (by simp) ?_
              refine AllReadyH.cons rfl (fun K hK => ?_) AllReadyH.nil
              simp only [Region.wanted, if_true]
              refine wp_push_shd (.tmp 64) (.tmp 74) 22 rfl Tryz.underlying22 w2.heap.size (.slice A j cap) xs (by go_simp) HOa.out wd.heap.size 1 ((j : Int), (⟨#[]⟩ : ByteArray), x) (by go_simp) HNa.out (by have := HOL.out; omega) hsza (fun v' w4 o4 g4 => ?_)
              have HB4 : Hid (Below w.heap.size w w4) := HBa.out.grown g4 HBa.out.size (fun q hq => by have := (HOa.out.lt q hq).1; omega)
              have hne : ∀ b, b < w2.heap.size → some b ≠ (Value.slice A j cap).ownBlock := fun b hb e => by have := (HOa.out.lt b e.symm).1; omega
              have HV4 : Hid (w4.heap[wo.heap.size]? = some (.cells #[.int .i64 p, .int .i64 q, .int .i64 r, .slice A j cap] 24)) := (g4.block _ (by omega) (hne _ hlt2)).trans HVa.out
              have HQ4 : Hid (w4.heap[w.heap.size]? = some (.cells #[.int .i64 0, .int .i64 0, .int .i64 0, .slice none 0 0] 24)) := (g4.block _ (by omega) (hne _ (by omega))).trans HQa.out
              obtain ⟨g5, cap5, rfl⟩ : ∃ g5 cap5, v' = .slice (some ⟨g5, 0, none⟩) (j + 1) cap5 := by
                have hl := HOL.out
                rcases o4.2 with ⟨_, h0⟩ | ⟨gg, cc, _, e, _⟩
                · simp at h0
                · exact ⟨gg, cc, by rw [e]; congr 1; simp; omega⟩
              have HO4 : Hid (w4.ownsRow w2.heap.size 46 3 (.slice (some ⟨g5, 0, none⟩) (j + 1) cap5) (shdOf (j + 1) T.data.toList).length (shCells (shdOf (j + 1) T.data.toList))) := by unfold Hid; rw [HSU.out]; exact o4
              have hs4 : w2.heap.size ≤ w4.heap.size := Nat.le_trans hsza g4.size
              obtain ⟨c0, c1, c2, c3, cf⟩ := cells4b HV4.out
              have f3 := cf 3
              refine hK.out _ _ trivial (fun hHeld => ?_)
              clear hK K o4 g4 hne cf c0 c1 c2
              try simp only [Act.put, List.getElem_toArray, List.getElem_cons_succ, List.getElem_cons_zero, List.setIfInBounds_toArray, List.set_cons_zero, List.set_cons_succ]
              refine wpAnyH_take (i := 13) (v := .pointer (some ⟨wo.heap.size, 3, none⟩)) rfl (by kernel_rfl) (by kernel_rfl) (by kernel_rfl) (fun _ _ _ h => h) (Or.inl ⟨by kernel_rfl, ?_⟩) (by assumption) ?_
              · intro wz hSw
                go_simp
              try simp only [Act.put, List.getElem_toArray, List.getElem_cons_succ, List.getElem_cons_zero, List.setIfInBounds_toArray, List.set_cons_zero, List.set_cons_succ]
              refine wpAnyH_ready (rs := [14]) (by kernel_rfl) (by simp) ?_
              refine AllReadyH.cons rfl (fun K hK => ?_) AllReadyH.nil
              have HV5 := Lib.hid (set4b (v := .slice (some ⟨g5, 0, none⟩) (j + 1) cap5) HV4.out)
              have HQ5 : Hid ((w4.setCell ⟨wo.heap.size, 3, none⟩ (.slice (some ⟨g5, 0, none⟩) (j + 1) cap5)).heap[w.heap.size]? = some (.cells #[.int .i64 0, .int .i64 0, .int .i64 0, .slice none 0 0] 24)) := (Below.heap_setCell _ _ _ _ (by dsimp only; omega)).trans HQ4.out
              have HO5 := Lib.hid (ownsRow_setCell_below HO4.out (a := ⟨wo.heap.size, 3, none⟩) hlt2 (.slice (some ⟨g5, 0, none⟩) (j + 1) cap5))
              have HB5 := Lib.hid (HB4.out.setCell (p := ⟨wo.heap.size, 3, none⟩) (by dsimp only; omega) (.slice (some ⟨g5, 0, none⟩) (j + 1) cap5))
              have hs5 : w2.heap.size ≤ (w4.setCell ⟨wo.heap.size, 3, none⟩ (.slice (some ⟨g5, 0, none⟩) (j + 1) cap5)).heap.size := by rw [World.size_setCell]; exact hs4
              go_simp
              refine hK.out _ _ trivial (fun hHeld => ?_)
              clear hK K c3 f3
              generalize w4.setCell ⟨wo.heap.size, 3, none⟩ (.slice (some ⟨g5, 0, none⟩) (j + 1) cap5) = w5 at *
              refine wpAnyH_done (by kernel_rfl) ?_ _
              refine NoPanic.normal ?_
              go_wp2_with fail
              go_roundw
              case rel => exact ⟨j + 1, _, _, by omega, by go_num, hs5, HV5, HQ5, HO5, HB5⟩
              case measure => simp [intOf]; omega
          · obtain rfl : j = n := by omega
            have HFT := Lib.hid (fun W (h : ShdB W (.slice A j cap) (shdOf j T.data.toList)) => rfit_any W (p : Int) (q : Int) (r : Int) _ (shdOf j T.data.toList) h (by rw [shdOf_len]; have := HRN.out; omega) (fun x hx => by
              obtain ⟨i, hi, rfl⟩ := List.mem_map.1 hx
              show (⟨((T.data.toList.drop (32 * i)).take 32).toArray⟩ : ByteArray).size ≤ 1000000
              rw [bs_sizeT, List.length_take]; omega))
            have HJN : Hid (shdOf (p + q) T.data.toList = shdOf j T.data.toList) := by rw [← HNN.out]; exact rfl
            have HOL : Hid ((shdOf j T.data.toList).length = j) := shdOf_len _ _
            have HRS : Hid (T.size = (p + q) * 32) := by unfold Hid; rw [← HNN.out]; exact HRN.out
            have HOd : Hid (wr.drew.ownsRow w2.heap.size 46 3 (.slice A j cap) (shdOf j T.data.toList).length (shCells (shdOf j T.data.toList))) := HO.out
            have HVd : Hid (wr.drew.heap[wo.heap.size]? = some (.cells #[.int .i64 p, .int .i64 q, .int .i64 r, .slice A j cap] 24)) := HV.out
            have HQd : Hid (wr.drew.heap[w.heap.size]? = some (.cells #[.int .i64 0, .int .i64 0, .int .i64 0, .slice none 0 0] 24)) := HQ.out
            have HBd : Hid (Below w.heap.size w wr.drew) := HB.out.drew
            have hszd : w2.heap.size ≤ wr.drew.heap.size := hsz
            generalize shdOf j T.data.toList = L at *
            clear HO HV HQ HB hsz
            go_wp2_with fail
            obtain ⟨i0, i1, i2, i3, _⟩ := cells4b HVd.out
            refine wp_region_noPanic ?_
            refine wp_region_held_drew (S := fun w' => w'.cell? ⟨wo.heap.size, 0, none⟩ = some (.int .i64 (p : Int)) ∧ w'.cell? ⟨wo.heap.size, 1, none⟩ = some (.int .i64 (q : Int)) ∧ w'.cell? ⟨wo.heap.size, 2, none⟩ = some (.int .i64 (r : Int)) ∧ w'.cell? ⟨wo.heap.size, 3, none⟩ = some (.slice A j cap)) (by kernel_rfl) ⟨i0, i1, i2, i3⟩ (fun hHeld => ?_)
            clear i0 i1 i2 i3
            generalize wr.drew = wd at *
            refine wpAnyH_take (i := 0) (v := .agg #[.int .i64 (p : Int), .int .i64 (q : Int), .int .i64 (r : Int), .slice A j cap]) rfl (by kernel_rfl) (by kernel_rfl) (by kernel_rfl) (fun _ _ _ h => h) (Or.inl ⟨by kernel_rfl, ?_⟩) (by assumption) ?_
            · intro wz hSw
              obtain ⟨h0, h1, h2, h3⟩ := hSw
              go_simp
            try simp only [Act.put, List.getElem_toArray, List.getElem_cons_succ, List.getElem_cons_zero, List.setIfInBounds_toArray, List.set_cons_zero, List.set_cons_succ]
            refine wpAnyH_take (i := 1) (v := .agg #[.int .i64 (p : Int), .int .i64 (q : Int), .int .i64 (r : Int), .slice A j cap]) rfl (by kernel_rfl) (by kernel_rfl) (by kernel_rfl) (fun _ _ _ h => h) (Or.inl ⟨by kernel_rfl, ?_⟩) (by assumption) ?_
            · intro wz hSw
              obtain ⟨h0, h1, h2, h3⟩ := hSw
              go_simp
            try simp only [Act.put, List.getElem_toArray, List.getElem_cons_succ, List.getElem_cons_zero, List.setIfInBounds_toArray, List.set_cons_zero, List.set_cons_succ]
            refine wpAnyH_ready (rs := [2]) (by kernel_rfl) (by simp) ?_
            refine AllReadyH.cons rfl (fun K hK => ?_) AllReadyH.nil
            have HFW := Lib.hid (HFT.out wd (by have h := ShdB.of_owns HOd.out; exact h))
            go_simp
            go_at_call 29
            refine HFW.out.mono ?_
            rintro er x2 ⟨rfl, b1⟩
            have HBx := Lib.hid (HBd.out.trans (b1.mono HBd.out.size))
            have HVx : Hid (x2.heap[wo.heap.size]? = some (.cells #[.int .i64 p, .int .i64 q, .int .i64 r, .slice A j cap] 24)) := (b1.block _ (by omega)).trans HVd.out
            have HQx : Hid (x2.heap[w.heap.size]? = some (.cells #[.int .i64 0, .int .i64 0, .int .i64 0, .slice none 0 0] 24)) := (b1.block _ (by omega)).trans HQd.out
            have HOx : Hid (x2.ownsRow w2.heap.size 46 3 (.slice A j cap) L.length (shCells L)) := HOd.out.kept (grown_of_belowS b1 none) (by
              by_cases e : (Value.slice A j cap).ownBlock = none
              · exact .inl e
              · exact .inr e)
            obtain ⟨i0, i1, i2, i3, _⟩ := cells4b HVx.out
            clear b1 HVd HQd HOd HBd HFW
            go_wp2_with fail
            refine hK.out _ _ ⟨i0, i1, i2, i3⟩ (fun hHeld => ?_)
            clear hK K i0 i1 i2 i3
            try simp only [Act.put, List.getElem_toArray, List.getElem_cons_succ, List.getElem_cons_zero, List.setIfInBounds_toArray, List.set_cons_zero, List.set_cons_succ]
            obtain ⟨c0, c1, c2, c3, cf⟩ := cells4b HQx.out
            have f0 := cf 0
            have f1 := cf 1
            have f2 := cf 2
            have f3 := cf 3
            have hSn : ((((x2.setCell ⟨w.heap.size, 0, none⟩ (.int .i64 (p : Int))).setCell ⟨w.heap.size, 1, none⟩ (.int .i64 (q : Int))).setCell ⟨w.heap.size, 2, none⟩ (.int .i64 (r : Int))).setCell ⟨w.heap.size, 3, none⟩ (.slice A j cap)).heap[wo.heap.size]? = some (.cells #[.int .i64 p, .int .i64 q, .int .i64 r, .slice A j cap] 24) := (set4_keep (by omega) _ _ _ _).trans HVx.out
            obtain ⟨i0, i1, i2, i3, _⟩ := cells4b hSn
            have HBn := Lib.hid (set4_below (Nat.le_refl _) HBx.out (.int .i64 (p : Int)) (.int .i64 (q : Int)) (.int .i64 (r : Int)) (.slice A j cap))
            have HOn := Lib.hid (set4_owns HOx.out (show w.heap.size < w2.heap.size by omega) (.int .i64 (p : Int)) (.int .i64 (q : Int)) (.int .i64 (r : Int)) (.slice A j cap))
            refine wpAnyH_ready (rs := [3]) (by kernel_rfl) (by simp) ?_
            refine AllReadyH.cons rfl (fun K hK => ?_) AllReadyH.nil
            go_simp
            refine hK.out _ _ ⟨i0, i1, i2, i3⟩ (fun hHeld => ?_)
            clear hK K c1 c2 c3 c0 cf f0 f1 f2 f3 hSn i0 i1 i2 i3
            try simp only [Act.put, List.getElem_toArray, List.getElem_cons_succ, List.getElem_cons_zero, List.setIfInBounds_toArray, List.set_cons_zero, List.set_cons_succ]
            refine wpAnyH_take (i := 4) (v := .bool (fitW p q r L)) rfl (by kernel_rfl) (by kernel_rfl) (by kernel_rfl) (fun _ _ _ h => h) (Or.inl ⟨by kernel_rfl, ?_⟩) (by assumption) ?_
            · intro wz hSw
              go_simp
            refine wpAnyH_done (by kernel_rfl) ?_ _
            refine NoPanic.normal ?_
            obtain ⟨d0, d1, d2, d3, _⟩ := cells4b HQx.out
            go_wp2_with fail
            (try simp only [Exit.inBlock, Exit.then])
            refine bodyPost_cellS (V := .agg #[.int .i64 (p : Int), .int .i64 (q : Int), .int .i64 (r : Int), .slice A j cap]) rfl rfl ?_ rfl ?_
            · go_simp
            · refine ⟨?_, HBn.out⟩
              cases hf : fitW p q r L with
              | false =>
                refine ⟨fun _ => ⟨p, q, r, A, j, cap, rfl⟩, fun a b c l h => ?_⟩
                rw [HHS.out, HJN.out, if_neg (fun hh => by rw [hf] at hh; cases hh.2)] at h
                cases h
              | true =>
                refine ⟨fun h => ?_, fun a b c l h => ?_⟩
                · rw [HHS.out, HJN.out, if_pos ⟨HRS.out, hf⟩] at h
                  cases h
                · rw [HHS.out, HJN.out, if_pos ⟨HRS.out, hf⟩] at h
                  simp only [Option.some.injEq, Prod.mk.injEq] at h
                  obtain ⟨rfl, rfl, rfl, rfl⟩ := h
                  rw [HOL.out]
                  exact ⟨A, cap, rfl, by have := owns_leS HOn.out (show w.heap.size ≤ w2.heap.size by omega); rwa [HOL.out] at this⟩
      · have dm : ((T.size : Int) != ((p : Int) + (q : Int)) * 32) = true := by rw [bne_iff_ne]; omega
        have HHN : Hid (headL s.data.toList = none) := by unfold Hid; rw [HHS.out, if_neg (fun hh => hm hh.1)]
        have f0 := gf 0
        have f1 := gf 1
        have f2 := gf 2
        have f3 := gf 3
        have hlo0 : w.heap.size < wo.heap.size := by omega
        obtain ⟨z0, z1, z2, _⟩ := cells3b HV.out
        clear hm HB2 HQ2 HV2 HW2 gf d0 d1 d2 d3
        go_wp2_with fail
        (try simp only [Exit.inBlock, Exit.then])
        refine bodyPost_cellS (V := .agg #[.int .i64 0, .int .i64 0, .int .i64 0, .slice none 0 0]) rfl rfl ?_ rfl ?_
        · go_simp
        · refine ⟨⟨(fun _ => ⟨0, 0, 0, none, 0, 0, rfl⟩), (fun a b c l h => by rw [HHN.out] at h; cases h)⟩, ?_⟩
          first
            | exact (set4_below (Nat.le_refl _) HB.out _ _ _ _).alloc (by simp [World.size_setCell]; omega) _
            | exact set4_below (Nat.le_refl _) (HB.out.alloc hbs _) _ _ _ _
end Go.Proofs.YtfpofcfoeajkiaaGreat
/- A map from numbers to bools that a call made itself, as a set of just so many. -/
namespace Go.Proofs.YtfpofcfoeajkiaaGreat
open Go.RowKit Go.Maps Go.WideMaps
set_option linter.unusedVariables false
/-- block b is a map of c keys that tells true of just those of S -/
def SetI (w : World) (b c : Nat) (S : Nat → Bool) : Prop :=
  ∃ D : DataW Unit, w.ownsMap Tryz.prog 3 (plainElem Tryz.prog 4) b c D ∧ Tidy D ∧ Maps.size D = c ∧ ∀ i : Nat, i ≤ 1000000 → D.atKey (.int .i64 (i : Int)) (.lit (.bool false)) = .lit (.bool (S i)) ∧ Maps.has D (.int .i64 (i : Int)) = S i
theorem intKeyed : Keyed Tryz.prog 3 := int_keyed Tryz.underlying3
theorem boolZeroI (w : World) : (zeroValue 4).run Tryz.prog w = .ok (.bool false) w := by kernel_rfl
theorem intKey (i : Nat) (h : i ≤ 1000000) : keyOf Tryz.prog 3 (.int .i64 (i : Int)) = some (.int .i64 (i : Int)) := keyOf_int_mk Tryz.underlying3 (by simp [Lit.wf, IntKind.min, IntKind.max, IntKind.signed, IntKind.bits]; omega)
theorem plainElem_boolI {P : Program} {e : TypeId} (he : P.underlying e = some .bool) {v : Value} {x : DataW Unit} {ps : List MemPlace} (h : plainElem P e v = some (x, ps)) {c : Bool} (hx : x = .lit (.bool c)) : v = .bool c := by
  unfold plainElem at h
  rw [he] at h
  cases v <;> simp at h
  rw [← h.1] at hx
  injection hx with hx
  injection hx with hx
  rw [hx]
theorem SetI.look {w : World} {b c : Nat} {S : Nat → Bool} (h : SetI w b c S) (i : Nat) (hi : i ≤ 1000000) : (Instr.lookup 48 (.map (some b)) (.int .i64 (i : Int)) false).run Tryz.prog w = .ok (.bool (S i)) w := by
  obtain ⟨D, h1, _, _, h2⟩ := h
  obtain ⟨v, ps, hrun, hv⟩ := h1.lookup (t := 48) (e := 4) intKeyed Tryz.underlying48 (boolZeroI w) (plainElem_bool Tryz.underlying4 false) (intKey i hi)
  rw [hrun, plainElem_boolI Tryz.underlying4 hv (h2 i hi).1]
theorem SetI.len {w : World} {b c : Nat} {S : Nat → Bool} (h : SetI w b c S) (ty : TypeId) : (Builtin.len_ #[48] ty #[.map (some b)]).run Tryz.prog w = .ok (.int .i64 (c : Int)) w := by
  obtain ⟨D, h1, _, h3, _⟩ := h
  have := h1.len (t := 48) (e := 4) Tryz.underlying48 ty
  rwa [h3] at this
theorem SetI.put {w : World} {b c : Nat} {S : Nat → Bool} (h : SetI w b c S) (i : Nat) (hi : i ≤ 1000000) (hn : c < maxLen) (hS : S i = false) :
    ∃ w', (Instr.mapUpdate 48 (.map (some b)) (.int .i64 (i : Int)) (.bool true)).run Tryz.prog w = .ok () w' ∧ SetI w' b (c + 1) (fun j => decide (j = i) || S j) ∧ w.grownBy w' (some b) := by
  obtain ⟨D, h1, ht, h3, h2⟩ := h
  obtain ⟨w', hrun, ho, hg⟩ := h1.update (t := 48) (e := 4) intKeyed Tryz.underlying48 hn (intKey i hi) (plainElem_bool Tryz.underlying4 true)
  have hk := intKeyed.key (intKey i hi)
  refine ⟨w', hrun, ⟨_, ho, ht.put hk _, ?_, fun j hj => ?_⟩, hg⟩
  · rw [size_put ht, (h2 i hi).2, hS, h3]; rfl
  · by_cases e : j = i
    · subst e
      rw [atKey_put_same ht.isMap hk, has_put_same ht.isMap hk]
      simp
    · have hne : (Lit.int IntKind.i64 (j : Int)) ≠ .int .i64 (i : Int) := fun e' => by injection e' with _ e'; omega
      rw [atKey_put_other hne, has_put_other hne, (h2 j hj).1, (h2 j hj).2]
      simp [e]
theorem SetI.kept {w w' : World} {b c : Nat} {S : Nat → Bool} {row : Option Nat} (h : SetI w b c S) (hg : w.grownBy w' row) (hne : some b ≠ row) : SetI w' b c S := by
  obtain ⟨D, h1, h2⟩ := h
  exact ⟨D, h1.kept hg hne, h2⟩
theorem SetI.lt {w : World} {b c : Nat} {S : Nat → Bool} (h : SetI w b c S) : b < w.heap.size := by
  obtain ⟨D, h1, _⟩ := h
  exact h1.lt
theorem SetI.same {w w' : World} {b c : Nat} {S : Nat → Bool} (h : SetI w b c S) (hk : w'.heap[b]? = w.heap[b]?) : SetI w' b c S := by
  obtain ⟨D, ⟨es, clock, hb, hr⟩, h2⟩ := h
  exact ⟨D, ⟨es, clock, hk.trans hb, hr⟩, h2⟩
theorem SetI.no_cell {w : World} {b c : Nat} {S : Nat → Bool} (h : SetI w b c S) (o : Nat) : w.cell? ⟨b, o, none⟩ = none := by
  obtain ⟨D, ⟨es, clock, hb, _⟩, _⟩ := h
  simp [World.cell?, hb]
set_option maxRecDepth 100000 in
theorem SetI.made (w : World) : SetI (w.alloc (.map #[] 0)) w.heap.size 0 (fun _ => false) :=
  ⟨_, World.ownsMap_made w _ _ _, tidy_empty, rfl, fun i _ => ⟨rfl, rfl⟩⟩
end Go.Proofs.YtfpofcfoeajkiaaGreat
