/- Texts of this claim's author, packed: ShaRefSumP. Conditions: none. -/
import Derived.Test.YtfpofcfoeajkiaaGreatQB22
import Derived.Test.YtfpofcfoeajkiaaGreatQB23
import Derived.Deep.AppendLies
/- siloref04.Sum: its walk. -/
namespace Go.Proofs.YtfpofcfoeajkiaaGreat
open Go.RowKit
set_option linter.unusedVariables false
theorem one_at (w : World) (c : UInt8) : (w.alloc (.cells #[.int .u8 c.toNat] 5)).cell? ⟨w.heap.size, 0, none⟩ = some (.int .u8 c.toNat) := by
  have hh : (w.alloc (.cells #[.int .u8 c.toNat] 5)).heap[w.heap.size]? = some (.cells #[.int .u8 c.toNat] 5 (0, 0)) := by
    show (w.heap.push _)[w.heap.size]? = _
    simp
  rw [Lib.cell_of_heap hh]; rfl
theorem zero64b : (#[Value.int .u8 0, Value.int .u8 0, Value.int .u8 0, Value.int .u8 0, Value.int .u8 0, Value.int .u8 0, Value.int .u8 0, Value.int .u8 0, Value.int .u8 0, Value.int .u8 0, Value.int .u8 0, Value.int .u8 0, Value.int .u8 0, Value.int .u8 0, Value.int .u8 0, Value.int .u8 0, Value.int .u8 0, Value.int .u8 0, Value.int .u8 0, Value.int .u8 0, Value.int .u8 0, Value.int .u8 0, Value.int .u8 0, Value.int .u8 0, Value.int .u8 0, Value.int .u8 0, Value.int .u8 0, Value.int .u8 0, Value.int .u8 0, Value.int .u8 0, Value.int .u8 0, Value.int .u8 0, Value.int .u8 0, Value.int .u8 0, Value.int .u8 0, Value.int .u8 0, Value.int .u8 0, Value.int .u8 0, Value.int .u8 0, Value.int .u8 0, Value.int .u8 0, Value.int .u8 0, Value.int .u8 0, Value.int .u8 0, Value.int .u8 0, Value.int .u8 0, Value.int .u8 0, Value.int .u8 0, Value.int .u8 0, Value.int .u8 0, Value.int .u8 0, Value.int .u8 0, Value.int .u8 0, Value.int .u8 0, Value.int .u8 0, Value.int .u8 0, Value.int .u8 0, Value.int .u8 0, Value.int .u8 0, Value.int .u8 0, Value.int .u8 0, Value.int .u8 0, Value.int .u8 0, Value.int .u8 0] : Array Value) = bytesOf 64 (fun _ => 0) := by rfl
theorem bytesOf_set {n j : Nat} (f : Nat → UInt8) (v : UInt8) (h : j < n) : (bytesOf n f).setIfInBounds j (.int .u8 v.toNat) = bytesOf n (updB f j v) := by
  apply Array.ext_getElem?
  intro i
  rw [Array.getElem?_setIfInBounds, bytesOf_size]
  by_cases e : j = i
  · subst e; rw [if_pos rfl, if_pos h, bytesOf_get _ h]; simp [updB]
  · rw [if_neg e]
    by_cases hi : i < n
    · rw [bytesOf_get _ hi, bytesOf_get _ hi]; simp [updB, Ne.symm e]
    · rw [Array.getElem?_eq_none (by rw [bytesOf_size]; omega), Array.getElem?_eq_none (by rw [bytesOf_size]; omega)]
theorem Row.setB {w : World} {b : Nat} {t : TypeId} {n j : Nat} {f : Nat → UInt8} (h : Row w b t (bytesOf n f)) (v : UInt8) (hj : j < n) : Row (w.setCell ⟨b, j, none⟩ (.int .u8 v.toNat)) b t (bytesOf n (updB f j v)) := by
  unfold Row
  rw [heap_setCell_same w b j _ t _ h, bytesOf_set f v hj]
def xUp (l : List UInt8) (k i : Nat) : UInt8 := if i < k then l.getD i 0 else 0
theorem xUp_next (l : List UInt8) (k : Nat) (hk : k < 64) : updB (xUp l k) k (l.getD k 0) = xUp l (k + 1) := by
  funext i
  unfold updB xUp
  by_cases e : i = k
  · subst e; rw [if_pos rfl, if_pos (by omega)]
  · rw [if_neg e]
    by_cases h : i < k
    · rw [if_pos h, if_pos (by omega)]
    · rw [if_neg h, if_neg (by omega)]
theorem xUp_all (l : List UInt8) : bytesOf 64 (xUp l 64) = bytesOf 64 (fun i => l.getD i 0) := by
  have : ∀ j, j < 64 → xUp l 64 j = l.getD j 0 := fun j hj => by unfold xUp; rw [if_pos hj]
  exact congrArg List.toArray (List.map_congr_left fun j hj => by rw [this j (by simpa using hj)])
def lenOfV (v : Value) : Nat := match v with | .slice _ n _ => n | _ => 0
/-- the world behind the append of one byte that a literal holds -/
theorem below_app {B g : Nat} {a w w' : World} {o : Obj} (h : Below B a w) (hB : B ≤ w.heap.size) (hg : (w.alloc o).grownBy w' (some g)) (hgB : B ≤ g) : Below B a w' :=
  (h.alloc hB o).grown hg (by simp; omega) (fun k hk => by injection hk with hk; omega)
set_option maxRecDepth 20000 in
set_option maxHeartbeats 8000000 in
theorem refSum_any (s : ByteArray) (w : World) (hs : s.size ≤ 100000000000) :
    Calls Tryz.prog 22 #[.string s] w fun e w' => e = .returned (.string (shaSum s.data.toList)) ∧ Below w.heap.size w w' := by
  obtain ⟨i0, hi, hz0, hz1, hz2⟩ := info_parts bldByte
  obtain ⟨W2, cap0, hcv, hr0, hb0⟩ := RowB.made w s (by omega)
  have HR0 := Lib.hid hr0; clear hr0
  have HB0 := Lib.hid hb0; clear hb0
  have rm : (s.size : Int) * 8 % 18446744073709551616 = ((8 * s.size : Nat) : Int) := by omega
  have rm1 : (s.size : Int) % 18446744073709551616 = (s.size : Int) := by omega
  have hsl : s.data.toList.length = s.size := by simp
  have HSL := Lib.hid hsl; clear hsl
  go_enter Tryz.func22, Tryz.ntmps22
  go_wp2_with (at_builtin; refine RowB.wp rfl _ _ 83 rfl w.heap.size w.heap.size cap0 s.data.toList 5 i0 Tryz.underlying83 hi hz0 hz1 hz2 (by rw [HSL.out]; rfl) (HR0.out.alloc _) W2.heap.size 1 128 rfl (by exact one_at W2 128) (by rw [HSL.out]; omega) (by have := HB0.out.size; simp; omega) ?_)
  intro g1 cap1 w1 hr1 hg1
  have HB1 := Lib.hid (below_app HB0.out HB0.out.size hg1 (Nat.le_refl _))
  have HR1 := Lib.hid hr1
  clear hr1 hg1 HB0 HR0 hcv rm rm1
  obtain ⟨n, hn⟩ : ∃ n : Nat, n = s.size := ⟨_, rfl⟩
  have hn11 : n ≤ 100000000000 := by omega
  obtain ⟨L, hL⟩ : ∃ L, L = s.data.toList := ⟨_, rfl⟩
  have hLn : L.length = n := by rw [hL, hn]; exact HSL.out
  rw [← hL] at HR1
  have HL := Lib.hid hL
  go_wp2_with fail
  rw [← hn]
  clear hs HSL hL
  obtain ⟨m, hm⟩ : ∃ m : Nat, m = 8 * n := ⟨_, rfl⟩
  have rm : (n : Int) * 8 = (m : Int) := by omega
  rw [rm]
  clear rm hn
  have HM8 := Lib.hid hm; clear hm
  have HLn := Lib.hid hLn; clear hLn
  have hzl := zeros_lt n
  go_loopw [4] (fun v wr => ∃ (j g cap : Nat) (M : List UInt8), j ≤ zeros n ∧ v = .slice (some ⟨g, 0, none⟩) M.length cap ∧ Hid (M = L ++ [128] ++ List.replicate j 0) ∧ Hid (RowB wr w.heap.size g cap M) ∧ Hid (Below w.heap.size w wr)) (fun v _ => n + 200 - lenOfV v)
  case atStart => exact ⟨0, g1, cap1, L ++ [128], Nat.zero_le _, by rw [List.length_append, HLn.out]; rfl, by simp [Hid], HR1.out, HB1.out⟩
  case round =>
    obtain ⟨j, g, cap, M, hj, rfl, HM, HR, HB⟩ := hrel
    have hML : M.length = n + 1 + j := by rw [HM.out, List.length_append, List.length_append, HLn.out]; simp
    have hMb : M.length + 1 ≤ 140737488351232 := by omega
    have q1 : (M.length : Int).tmod 64 = (M.length : Int) % 64 := Int.tmod_eq_emod_of_nonneg (by omega)
    by_cases hlt : j < zeros n
    · have hne := zeros_not n j hlt
      have z1 : ((M.length : Int) % 64 == 56) = false := by rw [beq_eq_false_iff_ne]; omega
      have z2 : ((M.length : Int) % 64 != 56) = true := by rw [bne_iff_ne]; omega
      have HML := Lib.hid hML
      clear hne hML
      go_wp2_with (at_builtin; refine RowB.wp rfl _ _ 83 rfl w.heap.size g cap M 5 i0 Tryz.underlying83 hi hz0 hz1 hz2 rfl (HR.out.alloc _) wr.heap.size 1 0 rfl (by exact one_at wr 0) hMb (by have := HB.out.size; simp; omega) ?_)
      intro g2 cap2 w2 hr2 hg2
      have HB2 := Lib.hid (below_app HB.out HB.out.size hg2 HR.out.base)
      have HR2 := Lib.hid hr2
      have HM2 : Hid (M ++ [0] = L ++ [128] ++ List.replicate (j + 1) 0) := by unfold Hid; rw [HM.out, List.replicate_succ', ← List.append_assoc]
      clear hr2 hg2
      go_wp2
      go_roundw
      case rel => exact ⟨j + 1, g2, cap2, M ++ [0], hlt, by rw [List.length_append]; rfl, HM2, HR2.out, HB2.out⟩
      case measure => simp [lenOfV, HML.out]; omega
    · obtain rfl : j = zeros n := by omega
      have heq := zeros_end n
      have z1 : ((M.length : Int) % 64 == 56) = true := by rw [beq_iff_eq]; omega
      have z2 : ((M.length : Int) % 64 != 56) = false := by rw [bne_eq_false_iff_eq]; omega
      have HML := Lib.hid hML
      clear heq hML
      go_wp2_with fail
      obtain ⟨L1, hL1⟩ : ∃ L1, L1 = M := ⟨_, rfl⟩
      have HL1 : Hid (L1 = L ++ [128] ++ List.replicate (zeros n) 0) := by rw [hL1]; exact HM.out
      have HL1n : Hid (L1.length = n + 1 + zeros n) := by rw [hL1]; exact HML.out
      rw [← hL1] at HR ⊢
      clear hL1 HM HML hMb z1 z2 q1
      have y56 := nAt_eq m 56
      have y48 := nAt_eq m 48
      have y40 := nAt_eq m 40
      have y32 := nAt_eq m 32
      have y24 := nAt_eq m 24
      have y16 := nAt_eq m 16
      have y8 := nAt_eq m 8
      have y0 := nAt_eq m 0
      simp only [Nat.reducePow, Int.natCast_ediv, Int.cast_ofNat_Int, Nat.div_one] at y56 y48 y40 y32 y24 y16 y8 y0
      go_loopw [4, 5] (fun v i wr => ∃ (j g cap : Nat) (M : List UInt8), j ≤ 8 ∧ i = .int .i64 (7 - (j : Int)) ∧ v = .slice (some ⟨g, 0, none⟩) M.length cap ∧ Hid (M = L1 ++ (len8 m).take j) ∧ Hid (RowB wr w.heap.size g cap M) ∧ Hid (Below w.heap.size w wr)) (fun _ i _ => (intOf i + 1).toNat)
      case atStart => exact ⟨0, g, cap, L1, by omega, rfl, rfl, by simp [Hid], HR.out, HB.out⟩
      case round =>
        clear HR HB
        obtain ⟨j, g, cap, M, hj, rfl, rfl, HM, HR, HB⟩ := hrel
        have hMb : M.length + 1 ≤ 140737488351232 := by
          rw [HM.out, List.length_append, HL1n.out, List.length_take]
          have : (len8 m).length = 8 := rfl
          omega
        by_cases hlt8 : j < 8
        · have hj8 : j = 0 ∨ j = 1 ∨ j = 2 ∨ j = 3 ∨ j = 4 ∨ j = 5 ∨ j = 6 ∨ j = 7 := by omega
          rcases hj8 with rfl | rfl | rfl | rfl | rfl | rfl | rfl | rfl
          · go_wp2_with (at_builtin; refine RowB.wp rfl _ _ 83 rfl w.heap.size g cap M 5 i0 Tryz.underlying83 hi hz0 hz1 hz2 rfl (HR.out.alloc _) wr.heap.size 1 (nAt m 56) rfl (by exact one_at wr (nAt m 56)) hMb (by have := HB.out.size; simp; omega) ?_)
            intro g2 cap2 w2 hr2 hg2
            have HB2 := Lib.hid (below_app HB.out HB.out.size hg2 HR.out.base)
            have HR2 := Lib.hid hr2
            have HM2 : Hid (M ++ [nAt m 56] = L1 ++ (len8 m).take (0 + 1)) := by unfold Hid; rw [HM.out, List.append_assoc]; rfl
            clear hr2 hg2
            go_wp2
            go_roundw
            case rel => exact ⟨0 + 1, g2, cap2, _, by omega, by go_num, by rw [List.length_append]; rfl, HM2, HR2.out, HB2.out⟩
            case measure => simp [intOf]
          · go_wp2_with (at_builtin; refine RowB.wp rfl _ _ 83 rfl w.heap.size g cap M 5 i0 Tryz.underlying83 hi hz0 hz1 hz2 rfl (HR.out.alloc _) wr.heap.size 1 (nAt m 48) rfl (by exact one_at wr (nAt m 48)) hMb (by have := HB.out.size; simp; omega) ?_)
            intro g2 cap2 w2 hr2 hg2
            have HB2 := Lib.hid (below_app HB.out HB.out.size hg2 HR.out.base)
            have HR2 := Lib.hid hr2
            have HM2 : Hid (M ++ [nAt m 48] = L1 ++ (len8 m).take (1 + 1)) := by unfold Hid; rw [HM.out, List.append_assoc]; rfl
            clear hr2 hg2
            go_wp2
            go_roundw
            case rel => exact ⟨1 + 1, g2, cap2, _, by omega, by go_num, by rw [List.length_append]; rfl, HM2, HR2.out, HB2.out⟩
            case measure => simp [intOf]
          · go_wp2_with (at_builtin; refine RowB.wp rfl _ _ 83 rfl w.heap.size g cap M 5 i0 Tryz.underlying83 hi hz0 hz1 hz2 rfl (HR.out.alloc _) wr.heap.size 1 (nAt m 40) rfl (by exact one_at wr (nAt m 40)) hMb (by have := HB.out.size; simp; omega) ?_)
            intro g2 cap2 w2 hr2 hg2
            have HB2 := Lib.hid (below_app HB.out HB.out.size hg2 HR.out.base)
            have HR2 := Lib.hid hr2
            have HM2 : Hid (M ++ [nAt m 40] = L1 ++ (len8 m).take (2 + 1)) := by unfold Hid; rw [HM.out, List.append_assoc]; rfl
            clear hr2 hg2
            go_wp2
            go_roundw
            case rel => exact ⟨2 + 1, g2, cap2, _, by omega, by go_num, by rw [List.length_append]; rfl, HM2, HR2.out, HB2.out⟩
            case measure => simp [intOf]
          · go_wp2_with (at_builtin; refine RowB.wp rfl _ _ 83 rfl w.heap.size g cap M 5 i0 Tryz.underlying83 hi hz0 hz1 hz2 rfl (HR.out.alloc _) wr.heap.size 1 (nAt m 32) rfl (by exact one_at wr (nAt m 32)) hMb (by have := HB.out.size; simp; omega) ?_)
            intro g2 cap2 w2 hr2 hg2
            have HB2 := Lib.hid (below_app HB.out HB.out.size hg2 HR.out.base)
            have HR2 := Lib.hid hr2
            have HM2 : Hid (M ++ [nAt m 32] = L1 ++ (len8 m).take (3 + 1)) := by unfold Hid; rw [HM.out, List.append_assoc]; rfl
            clear hr2 hg2
            go_wp2
            go_roundw
            case rel => exact ⟨3 + 1, g2, cap2, _, by omega, by go_num, by rw [List.length_append]; rfl, HM2, HR2.out, HB2.out⟩
            case measure => simp [intOf]
          · go_wp2_with (at_builtin; refine RowB.wp rfl _ _ 83 rfl w.heap.size g cap M 5 i0 Tryz.underlying83 hi hz0 hz1 hz2 rfl (HR.out.alloc _) wr.heap.size 1 (nAt m 24) rfl (by exact one_at wr (nAt m 24)) hMb (by have := HB.out.size; simp; omega) ?_)
            intro g2 cap2 w2 hr2 hg2
            have HB2 := Lib.hid (below_app HB.out HB.out.size hg2 HR.out.base)
            have HR2 := Lib.hid hr2
            have HM2 : Hid (M ++ [nAt m 24] = L1 ++ (len8 m).take (4 + 1)) := by unfold Hid; rw [HM.out, List.append_assoc]; rfl
            clear hr2 hg2
            go_wp2
            go_roundw
            case rel => exact ⟨4 + 1, g2, cap2, _, by omega, by go_num, by rw [List.length_append]; rfl, HM2, HR2.out, HB2.out⟩
            case measure => simp [intOf]
          · go_wp2_with (at_builtin; refine RowB.wp rfl _ _ 83 rfl w.heap.size g cap M 5 i0 Tryz.underlying83 hi hz0 hz1 hz2 rfl (HR.out.alloc _) wr.heap.size 1 (nAt m 16) rfl (by exact one_at wr (nAt m 16)) hMb (by have := HB.out.size; simp; omega) ?_)
            intro g2 cap2 w2 hr2 hg2
            have HB2 := Lib.hid (below_app HB.out HB.out.size hg2 HR.out.base)
            have HR2 := Lib.hid hr2
            have HM2 : Hid (M ++ [nAt m 16] = L1 ++ (len8 m).take (5 + 1)) := by unfold Hid; rw [HM.out, List.append_assoc]; rfl
            clear hr2 hg2
            go_wp2
            go_roundw
            case rel => exact ⟨5 + 1, g2, cap2, _, by omega, by go_num, by rw [List.length_append]; rfl, HM2, HR2.out, HB2.out⟩
            case measure => simp [intOf]
          · go_wp2_with (at_builtin; refine RowB.wp rfl _ _ 83 rfl w.heap.size g cap M 5 i0 Tryz.underlying83 hi hz0 hz1 hz2 rfl (HR.out.alloc _) wr.heap.size 1 (nAt m 8) rfl (by exact one_at wr (nAt m 8)) hMb (by have := HB.out.size; simp; omega) ?_)
            intro g2 cap2 w2 hr2 hg2
            have HB2 := Lib.hid (below_app HB.out HB.out.size hg2 HR.out.base)
            have HR2 := Lib.hid hr2
            have HM2 : Hid (M ++ [nAt m 8] = L1 ++ (len8 m).take (6 + 1)) := by unfold Hid; rw [HM.out, List.append_assoc]; rfl
            clear hr2 hg2
            go_wp2
            go_roundw
            case rel => exact ⟨6 + 1, g2, cap2, _, by omega, by go_num, by rw [List.length_append]; rfl, HM2, HR2.out, HB2.out⟩
            case measure => simp [intOf]
          · go_wp2_with (at_builtin; refine RowB.wp rfl _ _ 83 rfl w.heap.size g cap M 5 i0 Tryz.underlying83 hi hz0 hz1 hz2 rfl (HR.out.alloc _) wr.heap.size 1 (nAt m 0) rfl (by exact one_at wr (nAt m 0)) hMb (by have := HB.out.size; simp; omega) ?_)
            intro g2 cap2 w2 hr2 hg2
            have HB2 := Lib.hid (below_app HB.out HB.out.size hg2 HR.out.base)
            have HR2 := Lib.hid hr2
            have HM2 : Hid (M ++ [nAt m 0] = L1 ++ (len8 m).take (7 + 1)) := by unfold Hid; rw [HM.out, List.append_assoc]; rfl
            clear hr2 hg2
            go_wp2
            go_roundw
            case rel => exact ⟨7 + 1, g2, cap2, _, by omega, by go_num, by rw [List.length_append]; rfl, HM2, HR2.out, HB2.out⟩
            case measure => simp [intOf]
        · obtain rfl : j = 8 := by omega
          have HMp : Hid (M = padOf L) := by
            unfold Hid padOf padL
            rw [HM.out, HL1.out, HLn.out, ← HM8.out]
            simp [len8]
          clear HM y56 y48 y40 y32 y24 y16 y8 y0
          go_wp2_with fail
          refine (refFirst_any _).mono ?_
          rintro e w3 ⟨rfl, b3⟩
          have HA0 : Hid (cellsOf 8 (fun i => shaFirst.getD i 0) = cellsOf 8 (blocksF H0 M 0)) := rfl
          rw [HA0.out]
          have HL8 : ∀ F, Hid ((Tryz.prog.info? 85).map (·.size) = some (cellsOf 8 F).size) := fun F => by unfold Hid; rw [cellsOf_size]; kernel_rfl
          have HO8 : ∀ F, Hid ((cellsOf 8 F).all (·.oneCell') = true) := fun F => cellsOf_one' _ _
          have HMQ : Hid (M.length = 64 * nBlk n) := by unfold Hid; rw [HMp.out, padOf_len, HLn.out]
          have HR3 := Lib.hid (HR.out.below b3 HR.out.lt)
          have hwr3 := b3.size
          have HB3 := Lib.hid (HB.out.trans (b3.mono HB.out.size))
          clear b3 HR HB HA0 HL1 HL1n HR1 HB1
          have HN := Lib.hid (row_new w3 85 (cellsOf 8 (fun _ => 0)))
          have HF0 : Hid (∀ F, blocksF H0 M 0 = F → Row ((w3.alloc (.cells (cellsOf 8 (fun _ => 0)) 85)).setRow w3.heap.size (cellsOf 8 F)) w3.heap.size 85 (cellsOf 8 F)) := fun F _ => setRow_heap _ _ _ (cellsOf 8 F) _ _ HN.out
          go_wp2_with (rw [zero8]; refine wpList_store_row rfl _ _ _ rfl w3.heap.size (cellsOf 8 (blocksF H0 M 0)) rfl rfl 85 _ HN.out (HL8 _).out rfl (HO8 _).out ?_)
          have hK := HF0.out _ rfl
          have hR3 : RowB ((w3.alloc (.cells (cellsOf 8 (fun _ => 0)) 85)).setRow w3.heap.size (cellsOf 8 (blocksF H0 M 0))) w.heap.size g cap M := (HR3.out.alloc _).same (by simp [World.setRow]) (setRow_other _ _ _ _ (by have := HR3.out.lt; omega))
          have hB3 : Below w.heap.size w ((w3.alloc (.cells (cellsOf 8 (fun _ => 0)) 85)).setRow w3.heap.size (cellsOf 8 (blocksF H0 M 0))) := below_setRow (HB3.out.alloc HB3.out.size _) HB3.out.size _
          have hg3 : g < w3.heap.size := HR3.out.lt
          have hw3 : w.heap.size ≤ w3.heap.size := HB3.out.size
          generalize ((w3.alloc (.cells (cellsOf 8 (fun _ => 0)) 85)).setRow w3.heap.size (cellsOf 8 (blocksF H0 M 0))) = w4 at *
          have HK := Lib.hid hK
          have HR4 := Lib.hid hR3
          have HB4 := Lib.hid hB3
          clear hK hR3 hB3 HF0 HN HR3 HB3 hwr3
          generalize w3.heap.size = hb at *
          go_loopw [7] (fun i wr => ∃ j e : Nat, e = 64 * j ∧ j ≤ nBlk n ∧ i = .int .i64 (e : Int) ∧ Hid (RowB wr w.heap.size g cap M) ∧ Hid (Row wr hb 85 (cellsOf 8 (blocksF H0 M j))) ∧ Hid (Below w.heap.size w wr)) (fun i _ => M.length - (intOf i).toNat)
          case atStart => exact ⟨0, 0, rfl, Nat.zero_le _, rfl, HR4.out, HK.out, HB4.out⟩
          case round =>
            clear HR4 HK HB4
            obtain ⟨j, e, he, hj, rfl, HR, HK, HB⟩ := hrel
            by_cases hltq : j < nBlk n
            · have hMq := HMQ.out
              have HNX := Lib.hid (blocksF_snoc j H0 M)
              obtain ⟨bl, hbl⟩ : ∃ bl, bl = (M.drop (64 * j)).take 64 := ⟨_, rfl⟩
              rw [← hbl] at HNX
              have hbll : bl.length = 64 := by rw [hbl, List.length_take, List.length_drop]; omega
              have hbg : ∀ k, k < 64 → M.getD (e + k) 0 = bl.getD k 0 := by
                intro k hk
                rw [hbl, List.getD_eq_getElem?_getD, List.getD_eq_getElem?_getD, List.getElem?_take, if_pos hk, List.getElem?_drop, he]
              have HBG := Lib.hid hbg
              have HRB : Hid (∀ w, Calls Tryz.prog 47 #[.agg (cellsOf 8 (blocksF H0 M j)), .agg (bytesOf 64 (fun i => bl.getD i 0))] w fun e w' => e = .returned (.agg (cellsOf 8 (blocksF H0 M (j + 1)))) ∧ Below w.heap.size w w') := by
                unfold Hid; intro w; rw [HNX.out]; exact refBlock_any _ bl hbll w
              have he1 : e + 64 ≤ M.length := by rw [he, HMQ.out]; omega
              have he2 : (e : Int) < (M.length : Int) := by omega
              have HE := Lib.hid he
              clear hbl hbg he hMq HNX
              have HL8a := HL8 (blocksF H0 M j)
              have HL8b := HL8 (blocksF H0 M (j + 1))
              have HO8b := HO8 (blocksF H0 M (j + 1))
              have HAA : Hid ((cellsOf 8 (blocksF H0 M j)).size = (cellsOf 8 (blocksF H0 M (j + 1))).size) := by unfold Hid; rw [cellsOf_size, cellsOf_size]
              generalize cellsOf 8 (blocksF H0 M j) = A at *
              generalize hA2 : cellsOf 8 (blocksF H0 M (j + 1)) = A2 at *
              have HA2 := Lib.hid hA2; clear hA2
              go_wp2_with fail
              rw [zero64b]
              have HX0 := Lib.hid (row_new wr 87 (bytesOf 64 (xUp bl 0)))
              have hxz : bytesOf 64 (fun _ => 0) = bytesOf 64 (xUp bl 0) := rfl
              rw [hxz]
              clear hxz
              have HR5 := Lib.hid (HR.out.alloc (.cells (bytesOf 64 (xUp bl 0)) 87))
              have HK5 := Lib.hid (HK.out.alloc (.cells (bytesOf 64 (xUp bl 0)) 87))
              have HB5 := Lib.hid (HB.out.alloc HB.out.size (.cells (bytesOf 64 (xUp bl 0)) 87))
              have hgx : g < wr.heap.size := HR.out.lt
              have hbx : hb < wr.heap.size := HK.out.lt
              have hwx : w.heap.size ≤ wr.heap.size := HB.out.size
              generalize (wr.alloc (.cells (bytesOf 64 (xUp bl 0)) 87)) = w5 at *
              generalize wr.heap.size = xb at *
              clear HR HK HB
              go_loopw [9] (fun i wr => ∃ k : Nat, k ≤ 64 ∧ i = .int .i64 (k : Int) ∧ Hid (Row wr xb 87 (bytesOf 64 (xUp bl k))) ∧ Hid (w5.grownBy wr (some xb))) (fun i _ => 64 - (intOf i).toNat)
              case atStart => exact ⟨0, by omega, rfl, HX0.out, World.grownBy.refl _ _⟩
              case round =>
                obtain ⟨k, hk, rfl, HX, HG⟩ := hrel
                by_cases hlt64 : k < 64
                · have ec : wr.cell? ⟨g, e + k, none⟩ = some (.int .u8 (M.getD (e + k) 0).toNat) := (HR5.out.grown HG.out (by simp; omega)).at (e + k) (by omega)
                  rw [HBG.out k hlt64] at ec
                  have ex := HX.out.cellB (j := k) hlt64
                  have fx := HX.out.free k
                  have HXN := Lib.hid (xUp_next bl k hlt64)
                  generalize xUp bl k k = z at *
                  generalize bl.getD k 0 = c at *
                  have a1 : (0 : Int) ≤ (e : Int) + (k : Int) := by omega
                  have a2 : (e : Int) + (k : Int) < (M.length : Int) := by omega
                  have a3 : (k : Int) < 64 := by omega
                  have a4 : ((e : Int) + (k : Int)).toNat = e + k := by omega
                  have a5 : IntKind.i64.wrap ((e : Int) + (k : Int)) = (e : Int) + (k : Int) := IntWalk.i64_in _ (by omega)
                  go_wp2_with fail
                  have HX2 : Hid (Row (wr.setCell ⟨xb, k, none⟩ (.int .u8 c.toNat)) xb 87 (bytesOf 64 (xUp bl (k + 1)))) := by rw [← HXN.out]; exact HX.out.setB c hlt64
                  have HG2 : Hid (w5.grownBy (wr.setCell ⟨xb, k, none⟩ (.int .u8 c.toNat)) (some xb)) := grown_then HG.out (grown_setCell _ _ _ _)
                  go_roundw
                  case rel => exact ⟨k + 1, hlt64, by go_num, HX2, HG2⟩
                  case measure => simp [intOf]; omega
                · obtain rfl : k = 64 := by omega
                  have HX6 : Hid (Row wr xb 87 (bytesOf 64 (fun i => bl.getD i 0))) := by rw [← xUp_all]; exact HX.out
                  have HK6 : Hid (Row wr hb 85 A) := (HG.out.block hb HK5.out.lt (by simp; omega)).trans HK5.out
                  have HR6 := Lib.hid (HR5.out.grown HG.out (by simp; omega))
                  have HB6 := Lib.hid (HB5.out.grown HG.out HB5.out.size (fun k hk => by injection hk with hk; omega))
                  have hL64 : Hid ((Tryz.prog.info? 87).map (·.size) = some (bytesOf 64 (fun i => bl.getD i 0)).size) := by unfold Hid; rw [bytesOf_size]; kernel_rfl
                  have hhw : hb < wr.heap.size := HK6.out.lt
                  have hgw : g < wr.heap.size := HR6.out.lt
                  have hww : w.heap.size ≤ wr.heap.size := HB6.out.size
                  clear HX HG HX0 HR5 HK5 HB5
                  generalize (bytesOf 64 (fun i => bl.getD i 0)) = X at *
                  go_wp2_with (first | (refine wpList_load_row rfl _ _ rfl hb rfl 85 A (0, 0) _ HK6.out Tryz.underlying85 rfl HL8a.out ?_) | (refine wpList_load_row rfl _ _ rfl xb rfl 87 X (0, 0) _ HX6.out Tryz.underlying87 rfl hL64.out ?_))
                  refine (HRB.out _).mono ?_
                  rintro er w6 ⟨rfl, b6⟩
                  have HK7 := Lib.hid (HK6.out.below b6 hhw)
                  have HR7 := Lib.hid (HR6.out.below b6 hgw)
                  have HB7 := Lib.hid (HB6.out.trans (b6.mono hww))
                  have hk8 : Row (w6.setRow hb A2) hb 85 A2 := setRow_heap _ _ _ _ _ _ HK7.out
                  have hr8 : RowB (w6.setRow hb A2) w.heap.size g cap M := HR7.out.same (by simp [World.setRow]) (setRow_other _ _ _ _ (by omega))
                  have hb8 : Below w.heap.size w (w6.setRow hb A2) := below_setRow HB7.out hw3 _
                  have HK8 := Lib.hid hk8
                  have HR8 := Lib.hid hr8
                  have HB8 := Lib.hid hb8
                  clear hk8 hr8 hb8 b6 HK6 HR6 HB6 HX6
                  go_wp2_with (refine wpList_store_row rfl _ _ _ rfl hb A2 rfl rfl 85 A HK7.out HL8b.out HAA.out HO8b.out ?_)
                  go_wp2
                  go_roundw
                  case rel => exact ⟨j + 1, e + 64, by rw [HE.out]; omega, hltq, by go_num, HR8.out, by rw [HA2.out]; exact HK8.out, HB8.out⟩
                  case measure => simp [intOf]; omega
            · obtain rfl : j = nBlk n := by omega
              have hem : ¬ ((e : Int) < (M.length : Int)) := by rw [HMQ.out, he]; omega
              have HE := Lib.hid he
              clear he
              have HF : Hid (shaSum s.data.toList = ⟨(hUp (blocksF H0 M (nBlk n)) 8).toArray⟩) := by
                unfold Hid; rw [shaSum_eq, ← HL.out, HMp.out, HLn.out]
              generalize blocksF H0 M (nBlk n) = F at *
              go_wp2_with fail
              go_loopw [10, 11] (fun v i wr => ∃ k : Nat, k ≤ 8 ∧ i = .int .i64 k ∧ Hid (wr.ownsRow w.heap.size 5 1 v (hUp F k).length (Lib.byteCells (hUp F k))) ∧ Hid (Row wr hb 85 (cellsOf 8 F)) ∧ Hid (Below w.heap.size w wr)) (fun _ i _ => 8 - (intOf i).toNat)
              case atStart => exact ⟨0, by omega, rfl, World.ownsRow_nil _ _ _ _, HK.out, HB.out⟩
              case round =>
                clear HK HB
                obtain ⟨k, hk, rfl, HO, HK, HB⟩ := hrel
                by_cases hlt8 : k < 8
                · have HNX := Lib.hid (hUp_succ F k)
                  have hlen := hUp_len F k
                  have ek := HK.out.cell (j := k) hlt8
                  generalize hUp F k = out at *
                  generalize F k = x at *
                  have y3 := by3 x
                  have y2 := by2 x
                  have y1 := by1 x
                  have y0 := by0 x
                  have HL4 : Hid (word4 x = [(x >>> 24).toUInt8, (x >>> 16).toUInt8, (x >>> 8).toUInt8, x.toUInt8]) := rfl
                  generalize (x >>> 24).toUInt8 = c3 at *
                  generalize (x >>> 16).toUInt8 = c2 at *
                  generalize (x >>> 8).toUInt8 = c1 at *
                  generalize x.toUInt8 = c0 at *
                  have y3' : (c3.toNat : Int) % 256 = (c3.toNat : Int) := by have := c3.toNat_lt; omega
                  have hsz : w.heap.size ≤ wr.heap.size := HB.out.size
                  have lk : (k : Int) < 8 := by omega
                  have hown := HO.out
                  go_wp2_with fail
                  refine wp_region_noPanic ?_
                  refine wp_region_held_drew (S := fun w' => w'.cell? ⟨hb, k, none⟩ = some (.int .u32 x.toNat)) (by kernel_rfl) ek (fun hHeld => ?_)
                  refine wpAnyH_take (i := 0) (v := u10) rfl (by kernel_rfl) (by kernel_rfl) (by kernel_rfl) (fun _ _ _ h => h) (Or.inl ⟨by rfl, ?_⟩) hHeld ?_
                  · intro w hSw
                    go_simp
                  refine wpAnyH_take (i := 1) (v := .int .i64 (k : Int)) rfl (by kernel_rfl) (by kernel_rfl) (by kernel_rfl) (fun _ _ _ h => h) (Or.inl ⟨by rfl, ?_⟩) hHeld ?_
                  · intro w hSw
                    go_simp
                  refine wpAnyH_take (i := 2) (v := .pointer (some ⟨hb, k, none⟩)) rfl (by kernel_rfl) (by kernel_rfl) (by kernel_rfl) (fun _ _ _ h => h) (Or.inl ⟨by rfl, ?_⟩) hHeld ?_
                  · intro w hSw
                    go_simp
                  refine wpAnyH_take (i := 3) (v := .int .u32 (x.toNat : Int)) rfl (by kernel_rfl) (by kernel_rfl) (by kernel_rfl) (fun _ _ _ h => h) (Or.inl ⟨by rfl, ?_⟩) hHeld ?_
                  · intro w hSw
                    go_simp
                  refine wpAnyH_take (i := 4) (v := .int .u32 (c3.toNat : Int)) rfl (by kernel_rfl) (by kernel_rfl) (by kernel_rfl) (fun _ _ _ h => h) (Or.inl ⟨by rfl, ?_⟩) hHeld ?_
                  · intro w hSw
                    go_simp
                  refine wpAnyH_take (i := 5) (v := .int .u8 (c3.toNat : Int)) rfl (by kernel_rfl) (by kernel_rfl) (by kernel_rfl) (fun _ _ _ h => h) (Or.inl ⟨by rfl, ?_⟩) hHeld ?_
                  · intro w hSw
                    go_simp
                    rw [IntKind.wrap_u8]; exact y3'
                  refine wpAnyH_take (i := 6) (v := .int .i64 (k : Int)) rfl (by kernel_rfl) (by kernel_rfl) (by kernel_rfl) (fun _ _ _ h => h) (Or.inl ⟨by rfl, ?_⟩) hHeld ?_
                  · intro w hSw
                    go_simp
                  refine wpAnyH_take (i := 7) (v := .pointer (some ⟨hb, k, none⟩)) rfl (by kernel_rfl) (by kernel_rfl) (by kernel_rfl) (fun _ _ _ h => h) (Or.inl ⟨by rfl, ?_⟩) hHeld ?_
                  · intro w hSw
                    go_simp
                  refine wpAnyH_take (i := 8) (v := .int .u32 (x.toNat : Int)) rfl (by kernel_rfl) (by kernel_rfl) (by kernel_rfl) (fun _ _ _ h => h) (Or.inl ⟨by rfl, ?_⟩) hHeld ?_
                  · intro w hSw
                    go_simp
                  refine wpAnyH_take (i := 9) (v := .int .u32 ((x.toNat : Int) / 65536)) rfl (by kernel_rfl) (by kernel_rfl) (by kernel_rfl) (fun _ _ _ h => h) (Or.inl ⟨by rfl, ?_⟩) hHeld ?_
                  · intro w hSw
                    go_simp
                  refine wpAnyH_take (i := 10) (v := .int .u8 (c2.toNat : Int)) rfl (by kernel_rfl) (by kernel_rfl) (by kernel_rfl) (fun _ _ _ h => h) (Or.inl ⟨by rfl, ?_⟩) hHeld ?_
                  · intro w hSw
                    go_simp
                    rw [IntKind.wrap_u8]; exact y2
                  refine wpAnyH_take (i := 11) (v := .int .i64 (k : Int)) rfl (by kernel_rfl) (by kernel_rfl) (by kernel_rfl) (fun _ _ _ h => h) (Or.inl ⟨by rfl, ?_⟩) hHeld ?_
                  · intro w hSw
                    go_simp
                  refine wpAnyH_take (i := 12) (v := .pointer (some ⟨hb, k, none⟩)) rfl (by kernel_rfl) (by kernel_rfl) (by kernel_rfl) (fun _ _ _ h => h) (Or.inl ⟨by rfl, ?_⟩) hHeld ?_
                  · intro w hSw
                    go_simp
                  refine wpAnyH_take (i := 13) (v := .int .u32 (x.toNat : Int)) rfl (by kernel_rfl) (by kernel_rfl) (by kernel_rfl) (fun _ _ _ h => h) (Or.inl ⟨by rfl, ?_⟩) hHeld ?_
                  · intro w hSw
                    go_simp
                  refine wpAnyH_take (i := 14) (v := .int .u32 ((x.toNat : Int) / 256)) rfl (by kernel_rfl) (by kernel_rfl) (by kernel_rfl) (fun _ _ _ h => h) (Or.inl ⟨by rfl, ?_⟩) hHeld ?_
                  · intro w hSw
                    go_simp
                  refine wpAnyH_take (i := 15) (v := .int .u8 (c1.toNat : Int)) rfl (by kernel_rfl) (by kernel_rfl) (by kernel_rfl) (fun _ _ _ h => h) (Or.inl ⟨by rfl, ?_⟩) hHeld ?_
                  · intro w hSw
                    go_simp
                    rw [IntKind.wrap_u8]; exact y1
                  refine wpAnyH_take (i := 16) (v := .int .i64 (k : Int)) rfl (by kernel_rfl) (by kernel_rfl) (by kernel_rfl) (fun _ _ _ h => h) (Or.inl ⟨by rfl, ?_⟩) hHeld ?_
                  · intro w hSw
                    go_simp
                  refine wpAnyH_take (i := 17) (v := .pointer (some ⟨hb, k, none⟩)) rfl (by kernel_rfl) (by kernel_rfl) (by kernel_rfl) (fun _ _ _ h => h) (Or.inl ⟨by rfl, ?_⟩) hHeld ?_
                  · intro w hSw
                    go_simp
                  refine wpAnyH_take (i := 18) (v := .int .u32 (x.toNat : Int)) rfl (by kernel_rfl) (by kernel_rfl) (by kernel_rfl) (fun _ _ _ h => h) (Or.inl ⟨by rfl, ?_⟩) hHeld ?_
                  · intro w hSw
                    go_simp
                  refine wpAnyH_take (i := 19) (v := .int .u8 (c0.toNat : Int)) rfl (by kernel_rfl) (by kernel_rfl) (by kernel_rfl) (fun _ _ _ h => h) (Or.inl ⟨by rfl, ?_⟩) hHeld ?_
                  · intro w hSw
                    go_simp
                    rw [IntKind.wrap_u8]; exact y0
                  refine wpAnyH_ready (rs := [20]) (by kernel_rfl) (by simp) ?_
                  refine AllReadyH.cons rfl (fun K hK => ?_) AllReadyH.nil
                  go_simp
                  have hne : some hb ≠ Value.ownBlock u10 := fun e => Lib.ownBlock_ne hown HK.out (by decide) e.symm
                  refine hK.out _ _ ((World.cell?_alloc_some wr ⟨hb, k, none⟩ _ (by rw [ek]; rfl)).trans ek) (fun hHeld2 => ?_)
                  clear hK K
                  refine wpAnyH_ready (rs := [21]) (by kernel_rfl) (by simp) ?_
                  refine AllReadyH.cons rfl (fun K hK => ?_) AllReadyH.nil
                  refine step_append_lies _ rfl (.tmp 66) (.tmp 86) 83 rfl w.heap.size 5 i0 (.int .u8 0) 1 1 Tryz.underlying83 hi hz0 hz1 hz2 rfl (by decide) _ _ _ rfl (hown.alloc _).drew ⟨wr.heap.size, 0, none⟩ 4 4 [.int .u8 c3.toNat, .int .u8 c2.toNat, .int .u8 c1.toNat, .int .u8 c0.toNat] rfl rfl (by intro j u hj; match j, hj with | 0, hj => simp at hj; subst hj; simp [Addr.add] | 1, hj => simp at hj; subst hj; simp [Addr.add] | 2, hj => simp at hj; subst hj; simp [Addr.add] | 3, hj => simp at hj; subst hj; simp [Addr.add]) (by intro u hu; simp at hu; rcases hu with rfl | rfl | rfl | rfl <;> rfl) (by decide) (by rw [hlen]; unfold maxLen; omega) (by rw [hlen]; omega) (by simp; omega) _ rfl ?_
                  intro g' cap' w7 hown1 hgrow1 hat1 hlt1
                  have hc7 := hgrow1.cell hHeld2 hne
                  have HB7 : Hid (Below w.heap.size w w7) := (HB.out.alloc hsz _).drew.grown hgrow1 (by simp; omega) (fun k hk => (hown.lt k hk).1)
                  have HO7 : Hid (w7.ownsRow w.heap.size 5 1 (.slice (some ⟨g', 0, none⟩) (out.length + 4) cap') (out ++ word4 x).length (Lib.byteCells (out ++ word4 x))) := by
                    unfold Hid; rw [HL4.out, show Lib.byteCells (out ++ [c3, c2, c1, c0]) = Lib.byteCells out ++ [.int .u8 c3.toNat, .int .u8 c2.toNat, .int .u8 c1.toNat, .int .u8 c0.toNat] by simp [Lib.byteCells]]
                    rw [List.length_append]; exact hown1
                  have HK7 : Hid (Row w7 hb 85 (cellsOf 8 F)) := (hgrow1.block hb (by have := HK.out.lt; simp; omega) hne).trans (HK.out.alloc _).drew
                  clear hown1 hgrow1 hat1 hown hne hHeld hHeld2
                  refine hK.out _ _ hc7 (fun hHeld => ?_)
                  clear hK K
                  refine wpAnyH_take (i := 22) (v := .slice (some ⟨g', 0, none⟩) (out.length + 4) cap') rfl (by kernel_rfl) (by kernel_rfl) (by kernel_rfl) (fun _ _ _ h => h) (Or.inl ⟨by rfl, ?_⟩) hHeld ?_
                  · intro w hSw
                    go_simp
                  refine wpAnyH_done (by kernel_rfl) ?_ _
                  refine NoPanic.normal ?_
                  go_wp2
                  go_roundw
                  case rel => exact ⟨k + 1, by omega, by go_num, by rw [HNX.out]; (first | exact HO7.out | (have := HO7.out; rw [hlen] at this; exact this)), HK7.out, HB7.out⟩
                  case measure => simp [intOf]; omega
                · obtain rfl : k = 8 := by omega
                  have hn8 : hUp F 8 ≠ [] := by intro e; have := hUp_len F 8; rw [e] at this; cases this
                  have hcv := own_str _ _ _ _ HO.out hn8
                  clear hn8
                  go_wp2
                  go_ret
                  exact ⟨by rw [HF.out]; rfl, HB.out⟩
end Go.Proofs.YtfpofcfoeajkiaaGreat
