/- slices.Insert of one frame into a row of the call's own. -/
import Derived.Test.YtjgjhjecgdndjaaRowK
namespace Go.Proofs.Ytjgjhjecgdndjaa
open Go.RowKit Go.Lib
set_option linter.unusedVariables false
set_option linter.unusedSimpArgs false
theorem frmInfo : (Try.prog.info? 24).map (fun i => (i.zero, i.size, i.bytes)) = some (some (.agg #[.int .u64 0, .int .i64 0, .int .i64 0, .string ByteArray.empty]), 4, 40) := by kernel_rfl
set_option maxRecDepth 20000 in
set_option maxHeartbeats 4000000 in
theorem insert_room (g n c i vb vc : Nat) (cur : Array Value) (xs ys : List Value) (w : World) (hi : i < n) (hroom : n + 1 ≤ c) (hc63 : c ≤ 9223372036854775807) (hvb : vb ≠ g)
    (hg : w.heap[g]? = some (.cells cur 24 (0, 0))) (hcs : cur.size = c * 4) (hx : cur.toList.take (n * 4) = xs) (hv : w.heap[vb]? = some (.cells ys.toArray 24 (0, 0))) (hy : ys.length = 4) (h1x : ∀ v ∈ xs, v.oneCell' = true) (h1y : ∀ v ∈ ys, v.oneCell' = true) :
    Calls Try.prog 54 #[.slice (some ⟨g, 0, none⟩) n c, .int .i64 i, .slice (some ⟨vb, 0, none⟩) 1 vc] w fun e w' =>
      e = .returned (.slice (some ⟨g, 0, none⟩) (n + 1) c) ∧ ∃ cur', w' = w.drew.setRow g cur' ∧ cur'.size = cur.size ∧ cur'.toList.take ((n + 1) * 4) = xs.take (i * 4) ++ ys ++ xs.drop (i * 4) := by
  have hz2 : ¬ ((i : Int) = (n : Int)) := by omega
  have hw1 : IntKind.i64.wrap ((i : Int) + 1) = (i : Int) + 1 := by rw [IntKind.wrap_i64]; omega
  have hb1 : (0 : Int) ≤ (i : Int) + 1 := by omega
  have hin : i ≤ n := by omega
  have htn : ((i : Int) + 1).toNat = i + 1 := by omega
  have hb2 : ¬ (c = i + 1) := by omega
  have hb3 : (i : Int) ≤ (n : Int) + 1 := by omega
  have hb4 : ¬ (c = i) := by omega
  have hov : ∀ lb cb, (callFunc 64 #[.slice (some ⟨vb, 0, none⟩) 1 vc, .slice (some ⟨g, (i + 1) * 4, none⟩) lb cb]).run Try.prog w = .ok (.value (.bool false)) w := fun lb cb => by
    rw [run_callFunc_extern Try.func64 (by kernel_rfl) (by kernel_rfl) (by kernel_rfl) (e := Extern.SlicesOverlaps.overlaps #[35, 35] #[4]) (by kernel_rfl),
      Lib.run_overlaps_apart w 35 4 24 Try.underlying35 4 Try.sizeOf24 ⟨vb, 0, none⟩ ⟨g, (i + 1) * 4, none⟩ 1 vc lb cb hvb 24 24 4 (c * 4) (by simp [World.shape?, hv, hy]) (by simp [World.shape?, hg, hcs]) (by omega) (by simp [World.frozen?, hv]) (by simp [World.frozen?, hv])]
    rfl
  have hxl : xs.length = n * 4 := by rw [← hx, List.length_take, Array.length_toList]; omega
  have hcl : cur.toList.length = c * 4 := by rw [Array.length_toList, hcs]
  obtain ⟨mid, hmid⟩ : ∃ mid : List Value, mid = cur.toList.take ((i + 1) * 4) ++ xs.drop (i * 4) ++ cur.toList.drop ((i + 1) * 4 + (xs.drop (i * 4)).length) := ⟨_, rfl⟩
  obtain ⟨k1, k2, k3⟩ := row_shift cur.toList xs ys 4 n i hx hi hy (by omega) mid hmid
  have hT := Try.underlying35
  have hsz : (Try.prog.info? 24).map (·.size) = some 4 := by
    obtain ⟨i0, hi0, h0, h1, h2⟩ := info_parts frmInfo
    rw [hi0]; simp [h1]
  have hcp1 : ∀ ty dc sc, (Builtin.copy_ #[35, 35] ty #[.slice (some ⟨g, (i + 1) * 4, none⟩) (n - i) dc, .slice (some ⟨g, i * 4, none⟩) (n + 1 - i) sc]).run Try.prog w.drew = .ok (goInt (n - i : Nat)) (w.drew.setRow g mid.toArray) := fun ty dc sc => by
    rw [hmid]
    refine run_copy_rowK w.drew _ _ ty 24 g ((i + 1) * 4) (n - i) dc ⟨g, i * 4, none⟩ (n + 1 - i) sc cur 24 (xs.drop (i * 4)) 4 (n - i) hT hsz hg (by simp only [Nat.min_def]; split <;> omega) (by rw [List.length_drop, hxl]; omega) (fun j v hj => ?_) (by rw [List.length_drop, hxl, hcs]; omega) (fun v hv => h1x v (List.mem_of_mem_drop hv))
    rw [Addr.add_lit]
    rw [List.getElem?_drop, ← hx] at hj
    have hlt : i * 4 + j < n * 4 := by
      refine Decidable.byContradiction fun hh => ?_
      rw [List.getElem?_eq_none (by rw [List.length_take]; omega)] at hj
      cases hj
    rw [List.getElem?_take_of_lt hlt] at hj
    show w.cell? _ = _
    simp only [World.cell?, hg]
    simpa using hj
  obtain ⟨W1, hW1⟩ : ∃ W1, W1 = w.drew.setRow g mid.toArray := ⟨_, rfl⟩
  rw [← hW1] at hcp1
  have hg1 : W1.heap[g]? = some (.cells mid.toArray 24 (0, 0)) := by rw [hW1]; exact setRow_heap w.drew g cur _ _ _ hg
  have hv1 : W1.heap[vb]? = some (.cells ys.toArray 24 (0, 0)) := by rw [hW1]; exact (setRow_other w.drew g vb _ hvb).trans hv
  have hcp2 : ∀ ty dc, (Builtin.copy_ #[35, 35] ty #[.slice (some ⟨g, i * 4, none⟩) (n + 1 - i) dc, .slice (some ⟨vb, 0, none⟩) 1 vc]).run Try.prog W1 = .ok (goInt (1 : Nat)) (W1.setRow g (mid.take (i * 4) ++ ys ++ mid.drop (i * 4 + ys.length)).toArray) := fun ty dc => by
    have := run_copy_rowK W1 35 35 ty 24 g (i * 4) (n + 1 - i) dc ⟨vb, 0, none⟩ 1 vc mid.toArray 24 ys 4 1 hT hsz hg1 (by simp only [Nat.min_def]; split <;> omega) hy (fun j v hj => ?_) (by simp only [List.size_toArray]; omega) h1y
    · simpa using this
    · rw [Addr.add_lit]
      simp only [World.cell?, hv1]
      simpa using hj
  have mixed : Try.prog.follows .mixedOrders = true := by kernel_rfl
  have HW1 := Lib.hid hW1
  have HK2 := Lib.hid k2
  have HK3 := Lib.hid k3
  have HCS := Lib.hid hcs
  have HCL := Lib.hid hcl
  clear hW1 k1 k2 k3 hmid hcl hcs hxl hx hg hv hg1 hv1 hT hsz h1x h1y hy
  go_enter Try.func54, Try.ntmps54
  go_wp2_with (simp only [hov])
  go_region_law_o (refine step_copy_runI rfl _ _ 35 35 rfl _ _ (by simp [Act.eval, Act.put]) (by simp [Act.eval, Act.put]) (hcp1 _ _ _) ?_)
  go_wp2_with (at_builtin; refine wpList_copy_runI _ rfl _ _ 35 35 rfl _ _ rfl rfl (hcp2 _ _) ?_)
  go_ret
  refine ⟨rfl, (mid.take (i * 4) ++ ys ++ mid.drop (i * 4 + ys.length)).toArray, ?_, ?_, HK3.out⟩
  · rw [HW1.out, setRow_setRow]; simp [List.append_assoc]
  · rw [List.size_toArray, HK2.out, HCL.out, HCS.out]
set_option maxRecDepth 20000 in
set_option maxHeartbeats 4000000 in
theorem insert_grow (g n c i vb vc : Nat) (cur : Array Value) (xs ys : List Value) (w : World) (hi : i < n) (hnc : n ≤ c) (hroom : c < n + 1) (hn : n ≤ 1000000000)
    (hg : w.heap[g]? = some (.cells cur 24 (0, 0))) (hcs : cur.size = c * 4) (hx : cur.toList.take (n * 4) = xs) (hv : w.heap[vb]? = some (.cells ys.toArray 24 (0, 0))) (hy : ys.length = 4) (h1x : ∀ v ∈ xs, v.oneCell' = true) (h1y : ∀ v ∈ ys, v.oneCell' = true) :
    Calls Try.prog 54 #[.slice (some ⟨g, 0, none⟩) n c, .int .i64 i, .slice (some ⟨vb, 0, none⟩) 1 vc] w fun e w' =>
      ∃ G cur', e = .returned (.slice (some ⟨w.heap.size, 0, none⟩) (n + 1) G) ∧ n + 1 ≤ G ∧ G ≤ maxLen ∧ w'.heap[w.heap.size]? = some (.cells cur' 24 (0, 0)) ∧ cur'.size = G * 4 ∧ cur'.toList.take ((n + 1) * 4) = xs.take (i * 4) ++ ys ++ xs.drop (i * 4) ∧ w.grownBy w' none := by
  have hz2 : ¬ ((i : Int) = (n : Int)) := by omega
  have hz3 : (c : Int) < (n : Int) + 1 := by omega
  obtain ⟨i0, hi0, hz0, hzs, hzb⟩ := info_parts frmInfo
  have hsz : (Try.prog.info? 24).map (·.size) = some 4 := by rw [hi0]; simp [hzs]
  have hT := Try.underlying35
  have hxl : xs.length = n * 4 := by rw [← hx, List.length_take, Array.length_toList]; omega
  have hgl : g < w.heap.size := (Array.getElem?_eq_some_iff.1 hg).1
  have hvl : vb < w.heap.size := (Array.getElem?_eq_some_iff.1 hv).1
  have hkk : (n : Int) + 1 - (i : Int) = ((n + 1 - i : Nat) : Int) := by omega
  have hik : i + (n + 1 - i) = n + 1 := by omega
  have hcell : ∀ j v, xs[j]? = some v → w.cell? ⟨g, j, none⟩ = some v := fun j v hj => by
    rw [← hx] at hj
    have hlt : j < n * 4 := by
      refine Decidable.byContradiction fun hh => ?_
      rw [List.getElem?_eq_none (by rw [List.length_take]; omega)] at hj
      cases hj
    rw [List.getElem?_take_of_lt hlt] at hj
    simp only [World.cell?, hg]
    simpa using hj
  have hold : (Builtin.firstCells i0.size i (.slice (some ⟨g, 0, none⟩) i c)).run Try.prog w.drew = .ok (xs.take (i * 4)).toArray w.drew := by
    rw [hzs]
    exact run_firstCells_some w.drew 4 i ⟨g, 0, none⟩ i c (xs.take (i * 4)) (by rw [List.length_take]; omega) (fun j v hj => by
      rw [Addr.add_lit, Nat.zero_add]
      rw [List.getElem?_take] at hj
      split at hj
      · exact hcell j v hj
      · cases hj)
  have hrz : ∀ ty, (Builtin.append_ #[35, 3] ty #[.slice (some ⟨g, 0, none⟩) i c, .int .i64 ((n : Int) + 1 - (i : Int))]).run Try.prog w =
      .ok (.slice (some ⟨w.heap.size, 0, none⟩) (n + 1) (grownCap w (n + 1) c 24)) (w.drew.alloc (.cells ((xs.take (i * 4)).toArray ++ Builtin.zeroCells (Value.agg #[.int .u64 0, .int .i64 0, .int .i64 0, .string ByteArray.empty]).cells (n + 1 - i) ++ Builtin.zeroCells (Value.agg #[.int .u64 0, .int .i64 0, .int .i64 0, .string ByteArray.empty]).cells (grownCap w (n + 1) c 24 - (n + 1))) 24)) := fun ty => by
    have h := Lib.run_append_grow_zeros w 35 3 ty 24 i0 _ .i64 .i64 hT Try.underlying3 hi0 hz0 (some ⟨g, 0, none⟩) i c (xs.take (i * 4)) hold (n + 1 - i) (by omega) (by omega) (by omega) (by omega) (by rw [hzb]; omega) (by rw [hzb, hik]; exact growslice_fits hroom (by omega))
    rw [hik] at h
    rw [hkk]
    exact h
  obtain ⟨G, hG⟩ : ∃ G, G = grownCap w (n + 1) c 24 := ⟨_, rfl⟩
  rw [← hG] at hrz
  have hGn : n + 1 ≤ G := by rw [hG]; exact grownCap_ge w _ _ _
  have hGm : G ≤ maxLen := by rw [hG]; exact grownCap_le_maxLen w (n + 1) c 24 (by unfold maxLen; omega)
  have hG63 : G ≤ 9223372036854775807 := by unfold maxLen at hGm; omega
  obtain ⟨ROW, hROW⟩ : ∃ ROW : Array Value, ROW = (xs.take (i * 4)).toArray ++ Builtin.zeroCells (Value.agg #[.int .u64 0, .int .i64 0, .int .i64 0, .string ByteArray.empty]).cells (n + 1 - i) ++ Builtin.zeroCells (Value.agg #[.int .u64 0, .int .i64 0, .int .i64 0, .string ByteArray.empty]).cells (G - (n + 1)) := ⟨_, rfl⟩
  rw [← hROW] at hrz
  have hz3c : (Value.agg #[.int .u64 0, .int .i64 0, .int .i64 0, .string ByteArray.empty]).cells.size = 4 := rfl
  have hRl : ROW.size = G * 4 := by
    rw [hROW, Array.size_append, Array.size_append, size_zeroCells, size_zeroCells, hz3c, List.size_toArray, List.length_take]
    omega
  have hR0 : ROW.toList.take (i * 4) = xs.take (i * 4) := by
    rw [hROW, Array.toList_append, Array.toList_append, List.append_assoc, List.take_append_of_le_length (by simp; omega), List.take_of_length_le (by simp; omega)]
  obtain ⟨W1, hW1⟩ : ∃ W1, W1 = w.drew.alloc (.cells ROW 24) := ⟨_, rfl⟩
  rw [← hW1] at hrz
  obtain ⟨cur1, hcur1⟩ : ∃ cur1 : List Value, cur1 = ROW.toList.take (i * 4) ++ ys ++ ROW.toList.drop (i * 4 + ys.length) := ⟨_, rfl⟩
  obtain ⟨k1, k2, k3⟩ := row_grow ROW.toList cur1 xs ys 4 n i hxl hi hy (by rw [Array.length_toList]; omega) hR0 hcur1
  obtain ⟨fin, hfin⟩ : ∃ fin : List Value, fin = cur1.take ((i + 1) * 4) ++ xs.drop (i * 4) ++ cur1.drop ((i + 1) * 4 + (xs.drop (i * 4)).length) := ⟨_, rfl⟩
  rw [← hfin] at k2 k3
  have hWg1 : W1.heap[w.heap.size]? = some (.cells ROW 24 (0, 0)) := by rw [hW1]; exact heap_alloc_new w.drew _
  have hWv1 : W1.heap[vb]? = some (.cells ys.toArray 24 (0, 0)) := by rw [hW1]; exact (heap_alloc_old w.drew _ hvl).trans hv
  have hWo1 : W1.heap[g]? = some (.cells cur 24 (0, 0)) := by rw [hW1]; exact (heap_alloc_old w.drew _ hgl).trans hg
  have hcpA : ∀ (W : World), W.heap = W1.heap → ∀ ty dc, (Builtin.copy_ #[35, 35] ty #[.slice (some ⟨w.heap.size, i * 4, none⟩) (n + 1 - i) dc, .slice (some ⟨vb, 0, none⟩) 1 vc]).run Try.prog W = .ok (goInt (1 : Nat)) (W.setRow w.heap.size cur1.toArray) := fun W hW ty dc => by
    have := run_copy_rowK W 35 35 ty 24 w.heap.size (i * 4) (n + 1 - i) dc ⟨vb, 0, none⟩ 1 vc ROW 24 ys 4 1 hT hsz (by rw [hW]; exact hWg1) (by simp only [Nat.min_def]; split <;> omega) hy (fun j v hj => ?_) (by omega) h1y
    · rw [hcur1]; exact this
    · rw [Addr.add_lit]
      simp only [World.cell?, hW, hWv1]
      simpa using hj
  obtain ⟨W2, hW2⟩ : ∃ W2, W2 = W1.setRow w.heap.size cur1.toArray := ⟨_, rfl⟩
  have hWg2 : W2.heap[w.heap.size]? = some (.cells cur1.toArray 24 (0, 0)) := by rw [hW2]; exact setRow_heap W1 _ _ _ _ _ hWg1
  have hWo2 : W2.heap[g]? = some (.cells cur 24 (0, 0)) := by rw [hW2]; exact (setRow_other W1 _ g _ (by omega)).trans hWo1
  have hcpB : ∀ (W : World), W.heap = W2.heap → ∀ ty dc sc, (Builtin.copy_ #[35, 35] ty #[.slice (some ⟨w.heap.size, (i + 1) * 4, none⟩) (n - i) dc, .slice (some ⟨g, i * 4, none⟩) (n - i) sc]).run Try.prog W = .ok (goInt (n - i : Nat)) (W.setRow w.heap.size fin.toArray) := fun W hW ty dc sc => by
    have := run_copy_rowK W 35 35 ty 24 w.heap.size ((i + 1) * 4) (n - i) dc ⟨g, i * 4, none⟩ (n - i) sc cur1.toArray 24 (xs.drop (i * 4)) 4 (n - i) hT hsz (by rw [hW]; exact hWg2) (by simp) (by rw [List.length_drop, hxl]; omega) (fun j v hj => ?_) (by rw [List.length_drop, hxl, List.size_toArray, k1, Array.length_toList]; omega) (fun v hv => h1x v (List.mem_of_mem_drop hv))
    · rw [hfin]; exact this
    · rw [Addr.add_lit]
      rw [List.getElem?_drop] at hj
      have := hcell (i * 4 + j) v hj
      simp only [World.cell?, hg] at this
      simp only [World.cell?, hW, hWo2]
      exact this
  have mixed : Try.prog.follows .mixedOrders = true := by kernel_rfl
  have hGi : ¬ (G = i) := by omega
  have hGim : ¬ (G = i + 1) := by omega
  have hci : ¬ (c = i) := by omega
  have hw1 : IntKind.i64.wrap ((i : Int) + 1) = (i : Int) + 1 := by rw [IntKind.wrap_i64]; omega
  have hb1 : (0 : Int) ≤ (i : Int) + 1 := by omega
  have hin : i ≤ n := by omega
  have htn : ((i : Int) + 1).toNat = i + 1 := by omega
  have hb3 : (i : Int) ≤ (n : Int) := by omega
  have hend : ∀ W : World, W.heap = W2.heap → W.os = w.os → W.tape = w.tape → W.output = w.output → (W.setRow w.heap.size fin.toArray).heap[w.heap.size]? = some (.cells fin.toArray 24 (0, 0)) ∧ w.grownBy (W.setRow w.heap.size fin.toArray) none := by
    intro W hW a1 a2 a3
    refine ⟨setRow_heap W _ _ _ _ _ (by rw [hW]; exact hWg2), a1, a2, a3, ?_, fun k hk _ => ?_⟩
    · have e1 : (W.setRow w.heap.size fin.toArray).heap.size = W.heap.size := by simp [World.setRow]
      rw [e1, hW, hW2]
      have e2 : (W1.setRow w.heap.size cur1.toArray).heap.size = W1.heap.size := by simp [World.setRow]
      rw [e2, hW1]; simp
    · rw [setRow_other W _ k _ (by omega), hW, hW2, setRow_other W1 _ k _ (by omega), hW1]
      exact heap_alloc_old w.drew _ hk
  have HE := Lib.hid hend
  have HK2 := Lib.hid k2
  have HK3 := Lib.hid k3
  have HRL := Lib.hid hRl
  have HGM := Lib.hid hGm
  subst hW2
  subst hW1
  have hcpA1 := hcpA (w.alloc (.cells ROW 24)).drew rfl
  have hcpB1 := hcpB ((w.alloc (.cells ROW 24)).drew.setRow w.heap.size cur1.toArray).drew rfl
  clear hcpA hcpB
  clear hend hfin k1 k2 k3 hRl hGm hkk hik hold hROW hG hcur1 hR0 hxl hx hg hv hWg1 hWv1 hWo1 hWg2 hWo2 hcell hT hsz h1x h1y hy hz0 hzs hzb hi0 hcs hz3c
  go_enter Try.func54, Try.ntmps54
  go_wp2_with (first
    | (at_builtin; refine Lib.wpList_append_run _ rfl _ _ _ _ rfl _ _ rfl rfl _ _ (hrz _) ?_)
    | (at_builtin; refine wpList_copy_runI _ rfl _ _ 35 35 rfl _ _ rfl rfl (hcpA1 _ _) ?_))
  go_region_law_o (refine step_copy_runI rfl _ _ 35 35 rfl _ _ (by simp [Act.eval, Act.put]) (by simp [Act.eval, Act.put]) (hcpB1 _ _ _) ?_)
  go_wp2
  go_ret
  exact ⟨G, fin.toArray, rfl, hGn, HGM.out, (HE.out ((w.alloc (.cells ROW 24)).drew.setRow w.heap.size cur1.toArray).drew rfl rfl rfl rfl).1, by rw [List.size_toArray, HK2.out, Array.length_toList, HRL.out], HK3.out, (HE.out ((w.alloc (.cells ROW 24)).drew.setRow w.heap.size cur1.toArray).drew rfl rfl rfl rfl).2⟩
def InsPost (w : World) (base : Nat) (v : Value) (n : Nat) (zs : List Value) (e : Ending) (w' : World) : Prop := ∃ v', e = .returned v' ∧ w'.ownsRow base 24 4 v' (n + 1) zs ∧ w.grownBy w' v.ownBlock
set_option maxRecDepth 20000 in
set_option maxHeartbeats 4000000 in
theorem insert_end (base n vb vc : Nat) (v : Value) (xs ys : List Value) (w : World) (hn : n ≤ 1000000000) (hown : w.ownsRow base 24 4 v n xs) (hb : base ≤ w.heap.size)
    (hv : w.heap[vb]? = some (.cells ys.toArray 24 (0, 0))) (hy : ys.length = 4) (h1y : ∀ v ∈ ys, v.oneCell' = true) :
    Calls Try.prog 54 #[v, .int .i64 n, .slice (some ⟨vb, 0, none⟩) 1 vc] w (InsPost w base v n (xs ++ ys)) := by
  obtain ⟨i0, hi0, hz0, hzs, hzb⟩ := info_parts frmInfo
  have HO := Lib.hid hown
  have HI := Lib.hid hi0
  have HZ := Lib.hid hz0
  have HZS := Lib.hid hzs
  have HZB := Lib.hid hzb
  have HY := Lib.hid hy
  have HC : Hid (∀ (j : Nat) (u : Value), ys[j]? = some u → w.cell? ((⟨vb, 0, none⟩ : Addr).add j) = some u) := by
    intro j u hj
    rw [Addr.add_lit]
    simp only [World.cell?, hv]
    simpa using hj
  have H1 := Lib.hid h1y
  have hcase : ∃ A c, v = .slice A n c ∧ (A = none → n = 0 ∧ c = 0) ∧ n ≤ c ∧ c ≤ 9223372036854775807 := by
    rcases hown.2 with ⟨h, h0⟩ | ⟨g, cap, cur, h, _, _, h1, h2, _⟩
    · exact ⟨none, 0, by rw [h, h0], fun _ => ⟨h0, rfl⟩, by omega, by omega⟩
    · exact ⟨_, cap, h, fun e => by (cases e), h1, by unfold maxLen at h2; omega⟩
  obtain ⟨A, c, rfl, hA, hnc, hc63⟩ := hcase
  clear hown hi0 hz0 hzs hzb hy hv h1y
  cases A with
  | none =>
    obtain ⟨rfl, rfl⟩ := hA rfl
    clear hA
    go_enter Try.func54, Try.ntmps54
    go_wp2_with (at_builtin; refine wpList_append_own _ rfl _ _ 35 rfl base 24 i0 _ 4 40 Try.underlying35 HI.out HZ.out HZS.out HZB.out rfl (by decide) _ _ _ rfl HO.out ⟨vb, 0, none⟩ 1 vc ys rfl (by rw [HY.out]) HC.out H1.out (by unfold maxLen; omega) (by omega) hb ?_)
    intro v' w' h1 h2 _
    have HH1 := Lib.hid h1
    have HH2 := Lib.hid h2
    clear h1 h2
    go_wp2_with fail
    go_ret
    exact ⟨_, rfl, HH1.out, HH2.out⟩
  | some a =>
    clear hA
    obtain ⟨ab, ao, asp⟩ := a
    go_enter Try.func54, Try.ntmps54
    go_wp2_with (at_builtin; refine wpList_append_own _ rfl _ _ 35 rfl base 24 i0 _ 4 40 Try.underlying35 HI.out HZ.out HZS.out HZB.out rfl (by decide) _ _ _ rfl HO.out ⟨vb, 0, none⟩ 1 vc ys rfl (by rw [HY.out]) HC.out H1.out (by unfold maxLen; omega) (by omega) hb ?_)
    all_goals
      intro v' w' h1 h2 _
      have HH1 := Lib.hid h1
      have HH2 := Lib.hid h2
      clear h1 h2
      go_wp2_with fail
      go_ret
      exact ⟨_, rfl, HH1.out, HH2.out⟩
theorem insert_own (base n i vb vc : Nat) (v : Value) (xs ys : List Value) (w : World) (hi : i ≤ n) (hn : n ≤ 1000000000) (hown : w.ownsRow base 24 4 v n xs) (hb : base ≤ w.heap.size)
    (hv : w.heap[vb]? = some (.cells ys.toArray 24 (0, 0))) (hne : v.ownBlock ≠ some vb) (hy : ys.length = 4) (h1x : ∀ v ∈ xs, v.oneCell' = true) (h1y : ∀ v ∈ ys, v.oneCell' = true) :
    Calls Try.prog 54 #[v, .int .i64 i, .slice (some ⟨vb, 0, none⟩) 1 vc] w (InsPost w base v n (xs.take (i * 4) ++ ys ++ xs.drop (i * 4))) := by
  have hxl := hown.1
  by_cases hin : i = n
  · subst hin
    rw [List.take_of_length_le (by omega), List.drop_eq_nil_of_le (by omega), List.append_nil]
    exact insert_end base i vb vc v xs ys w hn hown hb hv hy h1y
  · rcases hown.2 with ⟨h, h0⟩ | ⟨g, cap, cur, rfl, hbg, hg, h1, h2, h3, h4⟩
    · omega
    · have hvb : vb ≠ g := fun e => hne (by simp [Value.ownBlock, e])
      by_cases hroom : n + 1 ≤ cap
      · refine (insert_room g n cap i vb vc cur xs ys w (by omega) hroom (by unfold maxLen at h2; omega) hvb hg h3 h4 hv hy h1x h1y).mono ?_
        rintro e w' ⟨rfl, cur', rfl, e1, e2⟩
        refine ⟨_, rfl, ⟨by simp; omega, .inr ⟨g, cap, cur', rfl, hbg, setRow_heap w.drew g cur _ _ _ hg, hroom, h2, by rw [e1, h3], e2⟩⟩, rfl, rfl, rfl, by simp [World.setRow], fun k hk hne' => setRow_other w.drew g k _ (fun e => hne' (by simp [Value.ownBlock, e]))⟩
      · refine (insert_grow g n cap i vb vc cur xs ys w (by omega) h1 (by omega) hn hg h3 h4 hv hy h1x h1y).mono ?_
        rintro e w' ⟨G, cur', rfl, e1, e2, e3, e4, e5, e6⟩
        exact ⟨_, rfl, ⟨by simp; omega, .inr ⟨_, G, cur', rfl, hb, e3, e1, e2, e4, e5⟩⟩, e6.os, e6.tape, e6.output, e6.size, fun k hk _ => e6.block k hk (by simp)⟩
end Go.Proofs.Ytjgjhjecgdndjaa
