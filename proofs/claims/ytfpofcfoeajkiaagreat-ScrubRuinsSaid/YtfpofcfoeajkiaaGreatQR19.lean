/- Texts of this claim's author, packed: ScrGuard. Conditions: none. -/
import Derived.Test.YtfpofcfoeajkiaaGreatQR13
import Derived.Test.YtfpofcfoeajkiaaGreatQR18
import Derived.Test.YtfpofcfoeajkiaaGreatQR08
/- scrub.Guard: shards of a text (printed by gen-scr-guard.py). -/
namespace Go.Proofs.YtfpofcfoeajkiaaGreat
open Go.RowKit
set_option linter.unusedVariables false
set_option linter.unusedSimpArgs false
def grdAt (l : List ByteArray) (i : Nat) : Shd := ((i : Int), l.getD i .empty, shaSum (l.getD i .empty).data.toList)
def grdOf (l : List ByteArray) (n : Nat) : List Shd := (List.range n).map (grdAt l)
theorem grdOf_succ (l : List ByteArray) (n : Nat) : grdOf l (n + 1) = grdOf l n ++ [grdAt l n] := by unfold grdOf; rw [List.range_succ, List.map_append]; rfl
theorem grdOf_len (l : List ByteArray) (n : Nat) : (grdOf l n).length = n := by simp [grdOf]
def allG (s : ByteArray) (k p : Nat) : List ByteArray := splitL s k ++ makeL (splitL s k) p
def guardL (s : ByteArray) (k p : Nat) : List Shd := grdOf (allG s k p) (allG s k p).length
theorem bodyPost_cell1 {P : Program} {fn : Func} {R : Ending → World → Prop} {a : Act} {w : World} {V : Value} {a1 : Tmp} {t1 : TypeId} {ad : Addr} (h : fn.results = #[.cell a1 t1]) (hp : a.tmps.getD a1 undef = .pointer (some ad)) (hl : (loadVar t1 ad).run P w = .ok V w) (hd : a.defers = [])
    (hR : R (.returned V) w) : bodyPost P fn R .ret a w :=
  ⟨hd, _, by simp only [results, h, List.mapM_toArray, List.mapM_cons, List.mapM_nil, hp, asAddr]; simp [hl], hR⟩
set_option maxRecDepth 20000 in
set_option maxHeartbeats 2000000 in
theorem shard_any (n : Int) (s : ByteArray) (hs : s.size ≤ 1000000) (w : World) :
    Calls Tryz.prog 36 #[.int .i64 n, .string s] w fun e w' => e = .returned (.agg #[.int .i64 n, .string s, .string (shaSum s.data.toList)]) ∧ Below w.heap.size w w' := by
  have HS := Lib.hid (fun W => shaSum_any s W (by omega))
  obtain ⟨X, hX⟩ : ∃ X, X = shaSum s.data.toList := ⟨_, rfl⟩
  rw [← hX] at HS ⊢
  clear hX
  have q0 := World.alloc_heap_new w (.cells #[.int .i64 0, .string ⟨#[]⟩, .string ⟨#[]⟩] 46)
  obtain ⟨wE, hwE⟩ : ∃ wE, wE = w.alloc (.cells #[.int .i64 0, .string ⟨#[]⟩, .string ⟨#[]⟩] 46) := ⟨_, rfl⟩
  have HB0 : Hid (Below w.heap.size w wE) := by unfold Hid; rw [hwE]; exact (Below.refl _ _).alloc (Nat.le_refl _) _
  rw [← hwE] at q0
  have HQ0 := Lib.hid q0
  have HWE := Lib.hid hwE.symm
  clear q0 hwE
  go_enter Tryz.func36, Tryz.ntmps36
  go_wp2_with fail
  rw [show w.alloc _ = wE from HWE.out]
  refine (HS.out _).mono ?_
  rintro e w1 ⟨rfl, b1⟩
  have HB1 : Hid (Below w.heap.size w w1) := HB0.out.trans (b1.mono HB0.out.size)
  obtain ⟨c0, c1, c2, cf⟩ := cells3b ((b1.block _ (Array.getElem?_eq_some_iff.1 HQ0.out).1).trans HQ0.out)
  have f0 := cf 0
  have f1 := cf 1
  have f2 := cf 2
  clear b1 cf HQ0 HB0 HWE HS
  go_wp2_with fail
  (try simp only [Exit.inBlock, Exit.then])
  refine bodyPost_cell1 (V := .agg #[.int .i64 n, .string s, .string X]) rfl rfl ?_ rfl ?_
  · go_simp
  exact ⟨rfl, ((HB1.out.setCell (p := ⟨w.heap.size, 0, none⟩) (Nat.le_refl _) _).setCell (p := ⟨w.heap.size, 1, none⟩) (Nat.le_refl _) _).setCell (p := ⟨w.heap.size, 2, none⟩) (Nat.le_refl _) _⟩
set_option maxRecDepth 20000 in
set_option maxHeartbeats 8000000 in
theorem guard_ok (s : ByteArray) (k p : Nat) (w : World) (hk0 : 0 < k) (hk : k ≤ 16) (hp0 : 0 < p) (hp : p ≤ 16) (hs : s.size ≤ 65536) (hf : firstN (splitL s k) ≤ 1000000000) (hn0 : 0 < (allG s k p).length) (hn : (allG s k p).length ≤ 1000) (hz : ∀ x ∈ allG s k p, x.size ≤ 1000000) :
    Calls Tryz.prog 12 #[.string s, .int .i64 k, .int .i64 p] w fun e w' => ∃ A c, e = .returned (.tuple #[.agg #[.int .i64 k, .int .i64 p, .int .i64 s.size, .slice A (allG s k p).length c], .int .i64 0]) ∧ w'.ownsRow w.heap.size 46 3 (.slice A (allG s k p).length c) (guardL s k p).length (shCells (guardL s k p)) ∧ Below w.heap.size w w' := by
  have HK : Hid (∀ w, Calls Tryz.prog 32 #[.int .i64 k] w fun e w' => e = .returned (.bool true) ∧ w = w') := fun w => by
    have h := pfew_any k w; rwa [show fewK k = true by unfold fewK; simp; omega] at h
  have HP : Hid (∀ w, Calls Tryz.prog 32 #[.int .i64 p] w fun e w' => e = .returned (.bool true) ∧ w = w') := fun w => by
    have h := pfew_any p w; rwa [show fewK p = true by unfold fewK; simp; omega] at h
  have HSP := Lib.hid (fun W => split_any s k W (by omega))
  have HMK := Lib.hid (fun W va (ha : StrsB W va (splitL s k)) => make_any W va (splitL s k) p ha hf)
  have hd : decide ((s.size : Int) > 65536) = false := by simp; omega
  have hAL : allG s k p = splitL s k ++ makeL (splitL s k) p := rfl
  unfold guardL
  rw [hAL] at hn0 hn hz ⊢
  clear hAL hf
  generalize splitL s k = L1 at *
  generalize splitE k = E1 at *
  generalize makeL L1 p = L2 at *
  generalize makeE L1 p = E2 at *
  obtain ⟨L, hL⟩ : ∃ L, L = L1 ++ L2 := ⟨_, rfl⟩
  rw [← hL] at hn0 hn hz ⊢
  obtain ⟨n, hN⟩ : ∃ n, n = L.length := ⟨_, rfl⟩
  rw [← hN] at hn0 hn ⊢
  have h12 : L1.length ≤ 1000000 ∧ L2.length ≤ 1000000 := by rw [hL, List.length_append] at hN; omega
  have HN := Lib.hid hN.symm
  have HZ := Lib.hid hz
  have HL12 := Lib.hid hL.symm
  clear hL hN hz
  have q0 := World.alloc_heap_new w (.cells #[.int .i64 0, .int .i64 0, .int .i64 0, .slice none 0 0] 24)
  obtain ⟨wE, hwE⟩ : ∃ wE, wE = w.alloc (.cells #[.int .i64 0, .int .i64 0, .int .i64 0, .slice none 0 0] 24) := ⟨_, rfl⟩
  have HB0 : Hid (Below w.heap.size w wE) := by unfold Hid; rw [hwE]; exact (Below.refl _ _).alloc (Nat.le_refl _) _
  rw [← hwE] at q0
  have HQ0 := Lib.hid q0
  have HWE := Lib.hid hwE.symm
  clear q0 hwE
  go_enter Tryz.func12, Tryz.ntmps12
  go_wp2_with fail
  rw [show w.alloc _ = wE from HWE.out]
  refine (HK.out _).mono ?_
  rintro e w' ⟨rfl, rfl⟩
  go_wp2_with fail
  refine (HP.out _).mono ?_
  rintro e w' ⟨rfl, rfl⟩
  go_wp2_with fail
  refine (HSP.out _).mono ?_
  rintro e w1 ⟨v1, rfl, s1, b1⟩
  have HB1 : Hid (Below w.heap.size w w1) := HB0.out.trans (b1.mono HB0.out.size)
  have HQ1 := Lib.hid ((b1.block _ (Array.getElem?_eq_some_iff.1 HQ0.out).1).trans HQ0.out)
  have HS1 := Lib.hid s1
  clear b1 s1 HK HP HSP HB0 HQ0 HWE
  go_wp2_with fail
  refine (HMK.out _ _ HS1.out.1).mono ?_
  rintro e w2 ⟨v2, rfl, s2, b2⟩
  have HB2 : Hid (Below w.heap.size w w2) := HB1.out.trans (b2.mono HB1.out.size)
  have HQ2 := Lib.hid ((b2.block _ (Array.getElem?_eq_some_iff.1 HQ1.out).1).trans HQ1.out)
  have HS1 := Lib.hid (HS1.out.below b2 (Nat.le_refl _))
  have HS2 := Lib.hid s2
  obtain ⟨A1, c1, rfl, _, _⟩ := HS1.out.1.len
  obtain ⟨A2, c2, rfl, _, _⟩ := s2.1.len
  have hQ2 := (Array.getElem?_eq_some_iff.1 HQ2.out).1
  obtain ⟨w3, hw3⟩ : ∃ w3, w3 = w2.alloc (.cells #[.int .i64 k, .int .i64 p, .int .i64 s.size, .slice none 0 0] 24) := ⟨_, rfl⟩
  obtain ⟨w4, hw4⟩ : ∃ w4, w4 = w3.alloc (.cells #[.slice A1 L1.length c1, .slice A2 L2.length c2] 37) := ⟨_, rfl⟩
  have hb3 : Below w2.heap.size w2 w3 := by rw [hw3]; exact (Below.refl _ _).alloc (Nat.le_refl _) _
  have hb4 : Below w3.heap.size w3 w4 := by rw [hw4]; exact (Below.refl _ _).alloc (Nat.le_refl _) _
  have hs3 : w3.heap.size = w2.heap.size + 1 := by rw [hw3, World.size_alloc]
  have hs4 : w4.heap.size = w2.heap.size + 2 := by rw [hw4, World.size_alloc, hs3]
  have hV3 : w3.heap[w2.heap.size]? = some (.cells #[.int .i64 k, .int .i64 p, .int .i64 s.size, .slice none 0 0] 24 (0, 0)) := by rw [hw3]; exact World.alloc_heap_new _ _
  have hb34 : Below w2.heap.size w2 w4 := hb3.trans (hb4.mono (by omega))
  have HB4 : Hid (Below w.heap.size w w4) := HB2.out.trans (hb34.mono HB2.out.size)
  have HQ4 := Lib.hid ((hb34.block _ hQ2).trans HQ2.out)
  have HV4 := Lib.hid ((hb4.block _ (by omega)).trans hV3)
  have HC := Lib.hid (concat2o w4 (w2.heap.size + 1) _ _ L1 L2 (by rw [hw4, ← hs3]; simp) (by rw [hw4, ← hs3]; simp) (HS1.out.below hb34 (Nat.le_refl _)) (HS2.out.below hb34 (Nat.le_refl _)) h12.1 h12.2 (by omega))
  rw [HL12.out, HN.out] at HC
  obtain ⟨d0, d1, d2, d3, df⟩ := cells4b hV3
  have HW3 := Lib.hid hw3
  have HW4 := Lib.hid hw4
  rw [hw3] at d0 d1 d2 d3
  clear b2 s2 HB1 HQ1 HB2 HQ2 HS1 HS2 HMK hb3 hb4 hV3 hb34 df hw3 hw4
  go_wp2_with fail
  rw [← HW3.out, ← HW4.out]
  refine HC.out.mono ?_
  rintro e w5 ⟨v5, rfl, o5, b5⟩
  obtain ⟨gs, cs, rfl, hgs, hgl, hcl⟩ : ∃ gs cs, v5 = .slice (some ⟨gs, 0, none⟩) n cs ∧ w4.heap.size ≤ gs ∧ gs < w5.heap.size ∧ ∀ i (hi : i < L.length), w5.cell? ⟨gs, 0 + i, none⟩ = some (.string L[i]) := by
    rcases o5.2 with ⟨_, h0⟩ | ⟨g, cap, cur, hv, hb, hg, _⟩
    · omega
    · refine ⟨g, cap, hv, hb, (Array.getElem?_eq_some_iff.1 hg).1, fun i hi => ?_⟩
      have c := o5.cells (g := g) (by rw [hv]; rfl) i _ (by rw [List.getElem?_map, List.getElem?_eq_getElem hi]; rfl)
      rw [add_eq] at c
      exact c
  obtain ⟨off, hoff⟩ : ∃ off, off = 0 := ⟨_, rfl⟩
  rw [← hoff] at hcl
  have HCl := Lib.hid hcl
  have HB5 : Hid (Below w.heap.size w w5) := HB4.out.trans (b5.mono HB4.out.size)
  have HQ5 := Lib.hid ((b5.block _ (by omega)).trans HQ4.out)
  have HV5 := Lib.hid ((b5.block _ (by omega)).trans HV4.out)
  obtain ⟨F, hF⟩ : ∃ F, F = w2.heap.size := ⟨_, rfl⟩
  have hgF : F < gs := by omega
  have hF5 : F < w5.heap.size := by omega
  have hwF : w.heap.size < F := by omega
  rw [← hF] at HV5 ⊢
  have HX : Hid ((some (⟨gs, 0, none⟩ : Addr)) = some ⟨gs, off, none⟩) := by unfold Hid; rw [hoff]
  rw [HX.out]
  clear hoff hF HX d0 d1 d2 d3 o5 b5 hcl HB4 HQ4 HV4 HC HW3 HW4 hs3 hs4 hgs hQ2
  go_wp2_with fail
  go_loopw [51] (fun i wr => ∃ (j : Nat) (A : Option Addr) (cap : Nat), j ≤ n ∧ i = .int .i64 j ∧ w5.heap.size ≤ wr.heap.size ∧ Hid (∀ i (hi : i < L.length), wr.cell? ⟨gs, off + i, none⟩ = some (.string L[i])) ∧ Hid (wr.heap[F]? = some (.cells #[.int .i64 k, .int .i64 p, .int .i64 s.size, .slice A j cap] 24 (0, 0))) ∧ Hid (wr.heap[w.heap.size]? = some (.cells #[.int .i64 0, .int .i64 0, .int .i64 0, .slice none 0 0] 24 (0, 0))) ∧ Hid (wr.ownsRow w5.heap.size 46 3 (.slice A j cap) (grdOf L j).length (shCells (grdOf L j))) ∧ Hid (Below w.heap.size w wr)) (fun i _ => n - (intOf i).toNat)
  case atStart => exact ⟨0, none, 0, Nat.zero_le _, rfl, Nat.le_refl _, HCl, HV5, HQ5, World.ownsRow_nil _ _ _ _, HB5⟩
  case round =>
    obtain ⟨j, A, cap, hj, rfl, hsz, HC, HV, HQ, HO, HB⟩ := hrel
    clear HCl HV5 HQ5 HB5
    by_cases hlt : j < n
    · have hltI : (j : Int) < (n : Int) := by omega
      have hjL : j < L.length := by rw [HN.out]; exact hlt
      have e1 := HC.out j hjL
      have hxs := HZ.out _ (List.getElem_mem hjL)
      have HSU : Hid (grdOf L (j + 1) = grdOf L j ++ [((j : Int), L[j], shaSum L[j].data.toList)]) := by
        unfold Hid; rw [grdOf_succ]; unfold grdAt
        rw [List.getD_eq_getElem?_getD, List.getElem?_eq_getElem hjL]; rfl
      have HOL : Hid ((grdOf L j).length = j) := grdOf_len _ _
      generalize grdOf L j = xs at *
      generalize L[j] = x at *
      have HSH := Lib.hid (fun W => shard_any j x hxs W)
      generalize shaSum x.data.toList = X at *
      go_wp2_with fail
      have HCd : Hid (∀ i (hi : i < L.length), wr.drew.cell? ⟨gs, off + i, none⟩ = some (.string L[i])) := HC.out
      have HVd : Hid (wr.drew.heap[F]? = some (.cells #[.int .i64 k, .int .i64 p, .int .i64 s.size, .slice A j cap] 24 (0, 0))) := HV.out
      have HQd : Hid (wr.drew.heap[w.heap.size]? = some (.cells #[.int .i64 0, .int .i64 0, .int .i64 0, .slice none 0 0] 24 (0, 0))) := HQ.out
      have HOd : Hid (wr.drew.ownsRow w5.heap.size 46 3 (.slice A j cap) xs.length (shCells xs)) := HO.out
      have HBd : Hid (Below w.heap.size w wr.drew) := HB.out.drew
      have hszd : w5.heap.size ≤ wr.drew.heap.size := hsz
      have d3 : wr.drew.cell? ⟨F, 3, none⟩ = some (.slice A j cap) := (cells4b HVd.out).2.2.2.1
      clear HC HV HQ HO HB hsz e1
      refine wp_region_noPanic ?_
      refine wp_region_held_drew (S := fun _ => True) (by kernel_rfl) trivial (fun hHeld => ?_)
      generalize wr.drew = wd at *
      refine wpAnyH_take (i := 0) (v := .pointer (some ⟨F, 3, none⟩)) rfl (by kernel_rfl) (by kernel_rfl) (by kernel_rfl) (fun _ _ _ h => h) (Or.inl ⟨by kernel_rfl, ?_⟩) (by assumption) ?_
      · intro wz hSw
        go_simp
      try simp only [Act.put, List.getElem_toArray, List.getElem_cons_succ, List.getElem_cons_zero, List.setIfInBounds_toArray, List.set_cons_zero, List.set_cons_succ]
      refine wpAnyH_take (i := 2) (v := .int .i64 (j : Int)) rfl (by kernel_rfl) (by kernel_rfl) (by kernel_rfl) (fun _ _ _ h => h) (Or.inl ⟨by kernel_rfl, ?_⟩) (by assumption) ?_
      · intro wz hSw
        go_simp
      try simp only [Act.put, List.getElem_toArray, List.getElem_cons_succ, List.getElem_cons_zero, List.setIfInBounds_toArray, List.set_cons_zero, List.set_cons_succ]
      refine wpAnyH_take (i := 3) (v := .string x) rfl (by kernel_rfl) (by kernel_rfl) (by kernel_rfl) (fun _ _ _ h => h) (Or.inl ⟨by kernel_rfl, ?_⟩) (by assumption) ?_
      · intro wz hSw
        go_simp
      try simp only [Act.put, List.getElem_toArray, List.getElem_cons_succ, List.getElem_cons_zero, List.setIfInBounds_toArray, List.set_cons_zero, List.set_cons_succ]
      refine wpAnyH_ready (rs := [1, 4]) (by kernel_rfl) (by simp) ?_
      refine AllReadyH.cons rfl (fun K hK => ?_) (AllReadyH.cons rfl (fun K hK => ?_) AllReadyH.nil)
      · go_simp
        refine hK.out _ _ trivial (fun hHeld => ?_)
        clear hK K
        try simp only [Act.put, List.getElem_toArray, List.getElem_cons_succ, List.getElem_cons_zero, List.setIfInBounds_toArray, List.set_cons_zero, List.set_cons_succ]
        refine wpAnyH_ready (rs := [4]) (by kernel_rfl) (by simp) ?_
        refine AllReadyH.cons rfl (fun K hK => ?_) AllReadyH.nil
        go_simp
        go_at_call 36
        refine (HSH.out _).mono ?_
        rintro er x2 ⟨rfl, b1⟩
        have HBx : Hid (Below w.heap.size w x2) := HBd.out.trans (b1.mono HBd.out.size)
        have HVx : Hid (x2.heap[F]? = some (.cells #[.int .i64 k, .int .i64 p, .int .i64 s.size, .slice A j cap] 24 (0, 0))) := (b1.block _ (by omega)).trans HVd.out
        have HQx : Hid (x2.heap[w.heap.size]? = some (.cells #[.int .i64 0, .int .i64 0, .int .i64 0, .slice none 0 0] 24 (0, 0))) := (b1.block _ (by omega)).trans HQd.out
        have HCx : Hid (∀ i (hi : i < L.length), x2.cell? ⟨gs, off + i, none⟩ = some (.string L[i])) := fun i hi => (b1.cell (p := ⟨gs, off + i, none⟩) (by dsimp only; omega)).trans (HCd.out i hi)
        have HOx : Hid (x2.ownsRow w5.heap.size 46 3 (.slice A j cap) xs.length (shCells xs)) := HOd.out.kept (grown_of_belowS b1 none) (by
          by_cases e : (Value.slice A j cap).ownBlock = none
          · exact .inl e
          · exact .inr e)
        have hsx : w5.heap.size ≤ x2.heap.size := Nat.le_trans hszd b1.size
        have d3x : x2.cell? ⟨F, 3, none⟩ = some (.slice A j cap) := (cells4b HVx.out).2.2.2.1
        clear b1 HBd HVd HQd HCd HOd hszd d3 HSH
        go_wp2_with fail
        refine hK.out _ _ trivial (fun hHeld => ?_)
        clear hK K
        try simp only [Act.put, List.getElem_toArray, List.getElem_cons_succ, List.getElem_cons_zero, List.setIfInBounds_toArray, List.set_cons_zero, List.set_cons_succ]
        refine wpAnyH_ready (rs := [5]) (by kernel_rfl) (by simp) ?_
        refine AllReadyH.cons rfl (fun K hK => ?_) AllReadyH.nil
        go_simp
        go_wp2_with fail
        refine hK.out _ _ trivial (fun hHeld => ?_)
        clear hK K
        try simp only [Act.put, List.getElem_toArray, List.getElem_cons_succ, List.getElem_cons_zero, List.setIfInBounds_toArray, List.set_cons_zero, List.set_cons_succ]
        have HVa : Hid ((x2.alloc (.cells #[.int .i64 (j : Int), .string x, .string X] 46)).heap[F]? = some (.cells #[.int .i64 k, .int .i64 p, .int .i64 s.size, .slice A j cap] 24 (0, 0))) := (Below.heap_alloc _ _ _ (by omega)).trans HVx.out
        have HQa : Hid ((x2.alloc (.cells #[.int .i64 (j : Int), .string x, .string X] 46)).heap[w.heap.size]? = some (.cells #[.int .i64 0, .int .i64 0, .int .i64 0, .slice none 0 0] 24 (0, 0))) := (Below.heap_alloc _ _ _ (by omega)).trans HQx.out
        have HCa : Hid (∀ i (hi : i < L.length), (x2.alloc (.cells #[.int .i64 (j : Int), .string x, .string X] 46)).cell? ⟨gs, off + i, none⟩ = some (.string L[i])) := fun i hi => (World.cell?_of_block (a := ⟨gs, off + i, none⟩) (Below.heap_alloc _ _ _ (by dsimp only; omega))).trans (HCx.out i hi)
        have HOa : Hid ((x2.alloc (.cells #[.int .i64 (j : Int), .string x, .string X] 46)).ownsRow w5.heap.size 46 3 (.slice A j cap) xs.length (shCells xs)) := HOx.out.alloc _
        have HNa : Hid ((x2.alloc (.cells #[.int .i64 (j : Int), .string x, .string X] 46)).heap[x2.heap.size]? = some (.cells #[.int .i64 (j : Int), .string x, .string X] 46 (0, 0))) := World.alloc_heap_new _ _
        have HBa : Hid (Below w.heap.size w (x2.alloc (.cells #[.int .i64 (j : Int), .string x, .string X] 46))) := HBx.out.alloc HBx.out.size _
        have hsa : w5.heap.size ≤ (x2.alloc (.cells #[.int .i64 (j : Int), .string x, .string X] 46)).heap.size := by rw [World.size_alloc]; omega
        have d3a : (x2.alloc (.cells #[.int .i64 (j : Int), .string x, .string X] 46)).cell? ⟨F, 3, none⟩ = some (.slice A j cap) := (cells4b HVa.out).2.2.2.1
        clear HBx HVx HQx HCx HOx d3x
        generalize (x2.alloc (.cells #[.int .i64 (j : Int), .string x, .string X] 46)) = we at *
        refine wpAnyH_ready (rs := [6]) (by kernel_rfl) (by simp) ?_
        refine AllReadyH.cons rfl (fun K hK => ?_) AllReadyH.nil
        simp only [Region.wanted, if_true]
        refine wp_push_shd (.tmp 57) (.tmp 61) 22 rfl Tryz.underlying22 w5.heap.size (.slice A j cap) xs (by go_simp) HOa.out x2.heap.size 1 ((j : Int), x, X) (by go_simp) HNa.out (by have := HOL.out; omega) hsa (fun v' w4' o4 g4 => ?_)
        have HB4 : Hid (Below w.heap.size w w4') := HBa.out.grown g4 HBa.out.size (fun q hq => by have := (HOa.out.lt q hq).1; omega)
        have hne : ∀ b, b < w5.heap.size → some b ≠ (Value.slice A j cap).ownBlock := fun b hb e => by have := (HOa.out.lt b e.symm).1; omega
        have HV4 : Hid (w4'.heap[F]? = some (.cells #[.int .i64 k, .int .i64 p, .int .i64 s.size, .slice A j cap] 24 (0, 0))) := (g4.block _ (by omega) (hne _ (by omega))).trans HVa.out
        have HQ4 : Hid (w4'.heap[w.heap.size]? = some (.cells #[.int .i64 0, .int .i64 0, .int .i64 0, .slice none 0 0] 24 (0, 0))) := (g4.block _ (by omega) (hne _ (by omega))).trans HQa.out
        have HC4 : Hid (∀ i (hi : i < L.length), w4'.cell? ⟨gs, off + i, none⟩ = some (.string L[i])) := fun i hi => (World.cell?_of_block (a := ⟨gs, off + i, none⟩) (g4.block _ (by dsimp only; omega) (hne _ (by dsimp only; omega)))).trans (HCa.out i hi)
        obtain ⟨g5, cap5, rfl⟩ : ∃ g5 cap5, v' = .slice (some ⟨g5, 0, none⟩) (j + 1) cap5 := by
          have hl := HOL.out
          rcases o4.2 with ⟨_, h0⟩ | ⟨gg, cc, _, e, _⟩
          · simp at h0
          · exact ⟨gg, cc, by rw [e]; congr 1; simp; omega⟩
        have HO4 : Hid (w4'.ownsRow w5.heap.size 46 3 (.slice (some ⟨g5, 0, none⟩) (j + 1) cap5) (grdOf L (j + 1)).length (shCells (grdOf L (j + 1)))) := by unfold Hid; rw [HSU.out]; exact o4
        have hs4 : w5.heap.size ≤ w4'.heap.size := Nat.le_trans hsa g4.size
        obtain ⟨c0', c1', c2', c3', cf⟩ := cells4b HV4.out
        have f3 := cf 3
        refine hK.out _ _ trivial (fun hHeld => ?_)
        clear hK K o4 g4 hne cf c0' c1' c2' HBa HVa HQa HCa HOa HNa hsa d3a
        try simp only [Act.put, List.getElem_toArray, List.getElem_cons_succ, List.getElem_cons_zero, List.setIfInBounds_toArray, List.set_cons_zero, List.set_cons_succ]
        refine wpAnyH_take (i := 7) (v := .pointer (some ⟨F, 3, none⟩)) rfl (by kernel_rfl) (by kernel_rfl) (by kernel_rfl) (fun _ _ _ h => h) (Or.inl ⟨by kernel_rfl, ?_⟩) (by assumption) ?_
        · intro wz hSw
          go_simp
        try simp only [Act.put, List.getElem_toArray, List.getElem_cons_succ, List.getElem_cons_zero, List.setIfInBounds_toArray, List.set_cons_zero, List.set_cons_succ]
        refine wpAnyH_ready (rs := [8]) (by kernel_rfl) (by simp) ?_
        refine AllReadyH.cons rfl (fun K hK => ?_) AllReadyH.nil
        have HV6 := Lib.hid (set4b (v := .slice (some ⟨g5, 0, none⟩) (j + 1) cap5) HV4.out)
        have HQ6 : Hid ((w4'.setCell ⟨F, 3, none⟩ (.slice (some ⟨g5, 0, none⟩) (j + 1) cap5)).heap[w.heap.size]? = some (.cells #[.int .i64 0, .int .i64 0, .int .i64 0, .slice none 0 0] 24 (0, 0))) := (Below.heap_setCell _ _ _ _ (by dsimp only; omega)).trans HQ4.out
        have HC6 : Hid (∀ i (hi : i < L.length), (w4'.setCell ⟨F, 3, none⟩ (.slice (some ⟨g5, 0, none⟩) (j + 1) cap5)).cell? ⟨gs, off + i, none⟩ = some (.string L[i])) := fun i hi => (World.cell?_of_block (a := ⟨gs, off + i, none⟩) (Below.heap_setCell _ _ _ _ (by dsimp only; omega))).trans (HC4.out i hi)
        have HO6 := Lib.hid (ownsRow_setCell_below HO4.out (a := ⟨F, 3, none⟩) hF5 (.slice (some ⟨g5, 0, none⟩) (j + 1) cap5))
        have HB6 := Lib.hid (HB4.out.setCell (p := ⟨F, 3, none⟩) (by dsimp only; omega) (.slice (some ⟨g5, 0, none⟩) (j + 1) cap5))
        have hs6 : w5.heap.size ≤ (w4'.setCell ⟨F, 3, none⟩ (.slice (some ⟨g5, 0, none⟩) (j + 1) cap5)).heap.size := by rw [World.size_setCell]; exact hs4
        go_simp
        refine hK.out _ _ trivial (fun hHeld => ?_)
        clear hK K c3' f3
        generalize w4'.setCell ⟨F, 3, none⟩ (.slice (some ⟨g5, 0, none⟩) (j + 1) cap5) = w6 at *
        refine wpAnyH_done (by kernel_rfl) ?_ _
        refine NoPanic.normal ?_
        go_wp2_with fail
        go_roundw
        case rel => exact ⟨j + 1, _, _, by omega, by go_num, hs6, HC6, HV6, HQ6, HO6, HB6⟩
        case measure => simp [intOf]; omega
      · go_simp
        go_at_call 36
        refine (HSH.out _).mono ?_
        rintro er x2 ⟨rfl, b1⟩
        have HBx : Hid (Below w.heap.size w x2) := HBd.out.trans (b1.mono HBd.out.size)
        have HVx : Hid (x2.heap[F]? = some (.cells #[.int .i64 k, .int .i64 p, .int .i64 s.size, .slice A j cap] 24 (0, 0))) := (b1.block _ (by omega)).trans HVd.out
        have HQx : Hid (x2.heap[w.heap.size]? = some (.cells #[.int .i64 0, .int .i64 0, .int .i64 0, .slice none 0 0] 24 (0, 0))) := (b1.block _ (by omega)).trans HQd.out
        have HCx : Hid (∀ i (hi : i < L.length), x2.cell? ⟨gs, off + i, none⟩ = some (.string L[i])) := fun i hi => (b1.cell (p := ⟨gs, off + i, none⟩) (by dsimp only; omega)).trans (HCd.out i hi)
        have HOx : Hid (x2.ownsRow w5.heap.size 46 3 (.slice A j cap) xs.length (shCells xs)) := HOd.out.kept (grown_of_belowS b1 none) (by
          by_cases e : (Value.slice A j cap).ownBlock = none
          · exact .inl e
          · exact .inr e)
        have hsx : w5.heap.size ≤ x2.heap.size := Nat.le_trans hszd b1.size
        have d3x : x2.cell? ⟨F, 3, none⟩ = some (.slice A j cap) := (cells4b HVx.out).2.2.2.1
        clear b1 HBd HVd HQd HCd HOd hszd d3 HSH
        go_wp2_with fail
        refine hK.out _ _ trivial (fun hHeld => ?_)
        clear hK K
        try simp only [Act.put, List.getElem_toArray, List.getElem_cons_succ, List.getElem_cons_zero, List.setIfInBounds_toArray, List.set_cons_zero, List.set_cons_succ]
        refine wpAnyH_ready (rs := [1, 5]) (by kernel_rfl) (by simp) ?_
        refine AllReadyH.cons rfl (fun K hK => ?_) (AllReadyH.cons rfl (fun K hK => ?_) AllReadyH.nil)
        · go_simp
          refine hK.out _ _ trivial (fun hHeld => ?_)
          clear hK K
          try simp only [Act.put, List.getElem_toArray, List.getElem_cons_succ, List.getElem_cons_zero, List.setIfInBounds_toArray, List.set_cons_zero, List.set_cons_succ]
          refine wpAnyH_ready (rs := [5]) (by kernel_rfl) (by simp) ?_
          refine AllReadyH.cons rfl (fun K hK => ?_) AllReadyH.nil
          go_simp
          go_wp2_with fail
          refine hK.out _ _ trivial (fun hHeld => ?_)
          clear hK K
          try simp only [Act.put, List.getElem_toArray, List.getElem_cons_succ, List.getElem_cons_zero, List.setIfInBounds_toArray, List.set_cons_zero, List.set_cons_succ]
          have HVa : Hid ((x2.alloc (.cells #[.int .i64 (j : Int), .string x, .string X] 46)).heap[F]? = some (.cells #[.int .i64 k, .int .i64 p, .int .i64 s.size, .slice A j cap] 24 (0, 0))) := (Below.heap_alloc _ _ _ (by omega)).trans HVx.out
          have HQa : Hid ((x2.alloc (.cells #[.int .i64 (j : Int), .string x, .string X] 46)).heap[w.heap.size]? = some (.cells #[.int .i64 0, .int .i64 0, .int .i64 0, .slice none 0 0] 24 (0, 0))) := (Below.heap_alloc _ _ _ (by omega)).trans HQx.out
          have HCa : Hid (∀ i (hi : i < L.length), (x2.alloc (.cells #[.int .i64 (j : Int), .string x, .string X] 46)).cell? ⟨gs, off + i, none⟩ = some (.string L[i])) := fun i hi => (World.cell?_of_block (a := ⟨gs, off + i, none⟩) (Below.heap_alloc _ _ _ (by dsimp only; omega))).trans (HCx.out i hi)
          have HOa : Hid ((x2.alloc (.cells #[.int .i64 (j : Int), .string x, .string X] 46)).ownsRow w5.heap.size 46 3 (.slice A j cap) xs.length (shCells xs)) := HOx.out.alloc _
          have HNa : Hid ((x2.alloc (.cells #[.int .i64 (j : Int), .string x, .string X] 46)).heap[x2.heap.size]? = some (.cells #[.int .i64 (j : Int), .string x, .string X] 46 (0, 0))) := World.alloc_heap_new _ _
          have HBa : Hid (Below w.heap.size w (x2.alloc (.cells #[.int .i64 (j : Int), .string x, .string X] 46))) := HBx.out.alloc HBx.out.size _
          have hsa : w5.heap.size ≤ (x2.alloc (.cells #[.int .i64 (j : Int), .string x, .string X] 46)).heap.size := by rw [World.size_alloc]; omega
          have d3a : (x2.alloc (.cells #[.int .i64 (j : Int), .string x, .string X] 46)).cell? ⟨F, 3, none⟩ = some (.slice A j cap) := (cells4b HVa.out).2.2.2.1
          clear HBx HVx HQx HCx HOx d3x
          generalize (x2.alloc (.cells #[.int .i64 (j : Int), .string x, .string X] 46)) = we at *
          refine wpAnyH_ready (rs := [6]) (by kernel_rfl) (by simp) ?_
          refine AllReadyH.cons rfl (fun K hK => ?_) AllReadyH.nil
          simp only [Region.wanted, if_true]
          refine wp_push_shd (.tmp 57) (.tmp 61) 22 rfl Tryz.underlying22 w5.heap.size (.slice A j cap) xs (by go_simp) HOa.out x2.heap.size 1 ((j : Int), x, X) (by go_simp) HNa.out (by have := HOL.out; omega) hsa (fun v' w4' o4 g4 => ?_)
          have HB4 : Hid (Below w.heap.size w w4') := HBa.out.grown g4 HBa.out.size (fun q hq => by have := (HOa.out.lt q hq).1; omega)
          have hne : ∀ b, b < w5.heap.size → some b ≠ (Value.slice A j cap).ownBlock := fun b hb e => by have := (HOa.out.lt b e.symm).1; omega
          have HV4 : Hid (w4'.heap[F]? = some (.cells #[.int .i64 k, .int .i64 p, .int .i64 s.size, .slice A j cap] 24 (0, 0))) := (g4.block _ (by omega) (hne _ (by omega))).trans HVa.out
          have HQ4 : Hid (w4'.heap[w.heap.size]? = some (.cells #[.int .i64 0, .int .i64 0, .int .i64 0, .slice none 0 0] 24 (0, 0))) := (g4.block _ (by omega) (hne _ (by omega))).trans HQa.out
          have HC4 : Hid (∀ i (hi : i < L.length), w4'.cell? ⟨gs, off + i, none⟩ = some (.string L[i])) := fun i hi => (World.cell?_of_block (a := ⟨gs, off + i, none⟩) (g4.block _ (by dsimp only; omega) (hne _ (by dsimp only; omega)))).trans (HCa.out i hi)
          obtain ⟨g5, cap5, rfl⟩ : ∃ g5 cap5, v' = .slice (some ⟨g5, 0, none⟩) (j + 1) cap5 := by
            have hl := HOL.out
            rcases o4.2 with ⟨_, h0⟩ | ⟨gg, cc, _, e, _⟩
            · simp at h0
            · exact ⟨gg, cc, by rw [e]; congr 1; simp; omega⟩
          have HO4 : Hid (w4'.ownsRow w5.heap.size 46 3 (.slice (some ⟨g5, 0, none⟩) (j + 1) cap5) (grdOf L (j + 1)).length (shCells (grdOf L (j + 1)))) := by unfold Hid; rw [HSU.out]; exact o4
          have hs4 : w5.heap.size ≤ w4'.heap.size := Nat.le_trans hsa g4.size
          obtain ⟨c0', c1', c2', c3', cf⟩ := cells4b HV4.out
          have f3 := cf 3
          refine hK.out _ _ trivial (fun hHeld => ?_)
          clear hK K o4 g4 hne cf c0' c1' c2' HBa HVa HQa HCa HOa HNa hsa d3a
          try simp only [Act.put, List.getElem_toArray, List.getElem_cons_succ, List.getElem_cons_zero, List.setIfInBounds_toArray, List.set_cons_zero, List.set_cons_succ]
          refine wpAnyH_take (i := 7) (v := .pointer (some ⟨F, 3, none⟩)) rfl (by kernel_rfl) (by kernel_rfl) (by kernel_rfl) (fun _ _ _ h => h) (Or.inl ⟨by kernel_rfl, ?_⟩) (by assumption) ?_
          · intro wz hSw
            go_simp
          try simp only [Act.put, List.getElem_toArray, List.getElem_cons_succ, List.getElem_cons_zero, List.setIfInBounds_toArray, List.set_cons_zero, List.set_cons_succ]
          refine wpAnyH_ready (rs := [8]) (by kernel_rfl) (by simp) ?_
          refine AllReadyH.cons rfl (fun K hK => ?_) AllReadyH.nil
          have HV6 := Lib.hid (set4b (v := .slice (some ⟨g5, 0, none⟩) (j + 1) cap5) HV4.out)
          have HQ6 : Hid ((w4'.setCell ⟨F, 3, none⟩ (.slice (some ⟨g5, 0, none⟩) (j + 1) cap5)).heap[w.heap.size]? = some (.cells #[.int .i64 0, .int .i64 0, .int .i64 0, .slice none 0 0] 24 (0, 0))) := (Below.heap_setCell _ _ _ _ (by dsimp only; omega)).trans HQ4.out
          have HC6 : Hid (∀ i (hi : i < L.length), (w4'.setCell ⟨F, 3, none⟩ (.slice (some ⟨g5, 0, none⟩) (j + 1) cap5)).cell? ⟨gs, off + i, none⟩ = some (.string L[i])) := fun i hi => (World.cell?_of_block (a := ⟨gs, off + i, none⟩) (Below.heap_setCell _ _ _ _ (by dsimp only; omega))).trans (HC4.out i hi)
          have HO6 := Lib.hid (ownsRow_setCell_below HO4.out (a := ⟨F, 3, none⟩) hF5 (.slice (some ⟨g5, 0, none⟩) (j + 1) cap5))
          have HB6 := Lib.hid (HB4.out.setCell (p := ⟨F, 3, none⟩) (by dsimp only; omega) (.slice (some ⟨g5, 0, none⟩) (j + 1) cap5))
          have hs6 : w5.heap.size ≤ (w4'.setCell ⟨F, 3, none⟩ (.slice (some ⟨g5, 0, none⟩) (j + 1) cap5)).heap.size := by rw [World.size_setCell]; exact hs4
          go_simp
          refine hK.out _ _ trivial (fun hHeld => ?_)
          clear hK K c3' f3
          generalize w4'.setCell ⟨F, 3, none⟩ (.slice (some ⟨g5, 0, none⟩) (j + 1) cap5) = w6 at *
          refine wpAnyH_done (by kernel_rfl) ?_ _
          refine NoPanic.normal ?_
          go_wp2_with fail
          go_roundw
          case rel => exact ⟨j + 1, _, _, by omega, by go_num, hs6, HC6, HV6, HQ6, HO6, HB6⟩
          case measure => simp [intOf]; omega
        · go_simp
          go_wp2_with fail
          refine hK.out _ _ trivial (fun hHeld => ?_)
          clear hK K
          try simp only [Act.put, List.getElem_toArray, List.getElem_cons_succ, List.getElem_cons_zero, List.setIfInBounds_toArray, List.set_cons_zero, List.set_cons_succ]
          have HVa : Hid ((x2.alloc (.cells #[.int .i64 (j : Int), .string x, .string X] 46)).heap[F]? = some (.cells #[.int .i64 k, .int .i64 p, .int .i64 s.size, .slice A j cap] 24 (0, 0))) := (Below.heap_alloc _ _ _ (by omega)).trans HVx.out
          have HQa : Hid ((x2.alloc (.cells #[.int .i64 (j : Int), .string x, .string X] 46)).heap[w.heap.size]? = some (.cells #[.int .i64 0, .int .i64 0, .int .i64 0, .slice none 0 0] 24 (0, 0))) := (Below.heap_alloc _ _ _ (by omega)).trans HQx.out
          have HCa : Hid (∀ i (hi : i < L.length), (x2.alloc (.cells #[.int .i64 (j : Int), .string x, .string X] 46)).cell? ⟨gs, off + i, none⟩ = some (.string L[i])) := fun i hi => (World.cell?_of_block (a := ⟨gs, off + i, none⟩) (Below.heap_alloc _ _ _ (by dsimp only; omega))).trans (HCx.out i hi)
          have HOa : Hid ((x2.alloc (.cells #[.int .i64 (j : Int), .string x, .string X] 46)).ownsRow w5.heap.size 46 3 (.slice A j cap) xs.length (shCells xs)) := HOx.out.alloc _
          have HNa : Hid ((x2.alloc (.cells #[.int .i64 (j : Int), .string x, .string X] 46)).heap[x2.heap.size]? = some (.cells #[.int .i64 (j : Int), .string x, .string X] 46 (0, 0))) := World.alloc_heap_new _ _
          have HBa : Hid (Below w.heap.size w (x2.alloc (.cells #[.int .i64 (j : Int), .string x, .string X] 46))) := HBx.out.alloc HBx.out.size _
          have hsa : w5.heap.size ≤ (x2.alloc (.cells #[.int .i64 (j : Int), .string x, .string X] 46)).heap.size := by rw [World.size_alloc]; omega
          have d3a : (x2.alloc (.cells #[.int .i64 (j : Int), .string x, .string X] 46)).cell? ⟨F, 3, none⟩ = some (.slice A j cap) := (cells4b HVa.out).2.2.2.1
          clear HBx HVx HQx HCx HOx d3x
          generalize (x2.alloc (.cells #[.int .i64 (j : Int), .string x, .string X] 46)) = we at *
          refine wpAnyH_ready (rs := [1]) (by kernel_rfl) (by simp) ?_
          refine AllReadyH.cons rfl (fun K hK => ?_) AllReadyH.nil
          go_simp
          refine hK.out _ _ trivial (fun hHeld => ?_)
          clear hK K
          try simp only [Act.put, List.getElem_toArray, List.getElem_cons_succ, List.getElem_cons_zero, List.setIfInBounds_toArray, List.set_cons_zero, List.set_cons_succ]
          refine wpAnyH_ready (rs := [6]) (by kernel_rfl) (by simp) ?_
          refine AllReadyH.cons rfl (fun K hK => ?_) AllReadyH.nil
          simp only [Region.wanted, if_true]
          refine wp_push_shd (.tmp 57) (.tmp 61) 22 rfl Tryz.underlying22 w5.heap.size (.slice A j cap) xs (by go_simp) HOa.out x2.heap.size 1 ((j : Int), x, X) (by go_simp) HNa.out (by have := HOL.out; omega) hsa (fun v' w4' o4 g4 => ?_)
          have HB4 : Hid (Below w.heap.size w w4') := HBa.out.grown g4 HBa.out.size (fun q hq => by have := (HOa.out.lt q hq).1; omega)
          have hne : ∀ b, b < w5.heap.size → some b ≠ (Value.slice A j cap).ownBlock := fun b hb e => by have := (HOa.out.lt b e.symm).1; omega
          have HV4 : Hid (w4'.heap[F]? = some (.cells #[.int .i64 k, .int .i64 p, .int .i64 s.size, .slice A j cap] 24 (0, 0))) := (g4.block _ (by omega) (hne _ (by omega))).trans HVa.out
          have HQ4 : Hid (w4'.heap[w.heap.size]? = some (.cells #[.int .i64 0, .int .i64 0, .int .i64 0, .slice none 0 0] 24 (0, 0))) := (g4.block _ (by omega) (hne _ (by omega))).trans HQa.out
          have HC4 : Hid (∀ i (hi : i < L.length), w4'.cell? ⟨gs, off + i, none⟩ = some (.string L[i])) := fun i hi => (World.cell?_of_block (a := ⟨gs, off + i, none⟩) (g4.block _ (by dsimp only; omega) (hne _ (by dsimp only; omega)))).trans (HCa.out i hi)
          obtain ⟨g5, cap5, rfl⟩ : ∃ g5 cap5, v' = .slice (some ⟨g5, 0, none⟩) (j + 1) cap5 := by
            have hl := HOL.out
            rcases o4.2 with ⟨_, h0⟩ | ⟨gg, cc, _, e, _⟩
            · simp at h0
            · exact ⟨gg, cc, by rw [e]; congr 1; simp; omega⟩
          have HO4 : Hid (w4'.ownsRow w5.heap.size 46 3 (.slice (some ⟨g5, 0, none⟩) (j + 1) cap5) (grdOf L (j + 1)).length (shCells (grdOf L (j + 1)))) := by unfold Hid; rw [HSU.out]; exact o4
          have hs4 : w5.heap.size ≤ w4'.heap.size := Nat.le_trans hsa g4.size
          obtain ⟨c0', c1', c2', c3', cf⟩ := cells4b HV4.out
          have f3 := cf 3
          refine hK.out _ _ trivial (fun hHeld => ?_)
          clear hK K o4 g4 hne cf c0' c1' c2' HBa HVa HQa HCa HOa HNa hsa d3a
          try simp only [Act.put, List.getElem_toArray, List.getElem_cons_succ, List.getElem_cons_zero, List.setIfInBounds_toArray, List.set_cons_zero, List.set_cons_succ]
          refine wpAnyH_take (i := 7) (v := .pointer (some ⟨F, 3, none⟩)) rfl (by kernel_rfl) (by kernel_rfl) (by kernel_rfl) (fun _ _ _ h => h) (Or.inl ⟨by kernel_rfl, ?_⟩) (by assumption) ?_
          · intro wz hSw
            go_simp
          try simp only [Act.put, List.getElem_toArray, List.getElem_cons_succ, List.getElem_cons_zero, List.setIfInBounds_toArray, List.set_cons_zero, List.set_cons_succ]
          refine wpAnyH_ready (rs := [8]) (by kernel_rfl) (by simp) ?_
          refine AllReadyH.cons rfl (fun K hK => ?_) AllReadyH.nil
          have HV6 := Lib.hid (set4b (v := .slice (some ⟨g5, 0, none⟩) (j + 1) cap5) HV4.out)
          have HQ6 : Hid ((w4'.setCell ⟨F, 3, none⟩ (.slice (some ⟨g5, 0, none⟩) (j + 1) cap5)).heap[w.heap.size]? = some (.cells #[.int .i64 0, .int .i64 0, .int .i64 0, .slice none 0 0] 24 (0, 0))) := (Below.heap_setCell _ _ _ _ (by dsimp only; omega)).trans HQ4.out
          have HC6 : Hid (∀ i (hi : i < L.length), (w4'.setCell ⟨F, 3, none⟩ (.slice (some ⟨g5, 0, none⟩) (j + 1) cap5)).cell? ⟨gs, off + i, none⟩ = some (.string L[i])) := fun i hi => (World.cell?_of_block (a := ⟨gs, off + i, none⟩) (Below.heap_setCell _ _ _ _ (by dsimp only; omega))).trans (HC4.out i hi)
          have HO6 := Lib.hid (ownsRow_setCell_below HO4.out (a := ⟨F, 3, none⟩) hF5 (.slice (some ⟨g5, 0, none⟩) (j + 1) cap5))
          have HB6 := Lib.hid (HB4.out.setCell (p := ⟨F, 3, none⟩) (by dsimp only; omega) (.slice (some ⟨g5, 0, none⟩) (j + 1) cap5))
          have hs6 : w5.heap.size ≤ (w4'.setCell ⟨F, 3, none⟩ (.slice (some ⟨g5, 0, none⟩) (j + 1) cap5)).heap.size := by rw [World.size_setCell]; exact hs4
          go_simp
          refine hK.out _ _ trivial (fun hHeld => ?_)
          clear hK K c3' f3
          generalize w4'.setCell ⟨F, 3, none⟩ (.slice (some ⟨g5, 0, none⟩) (j + 1) cap5) = w6 at *
          refine wpAnyH_done (by kernel_rfl) ?_ _
          refine NoPanic.normal ?_
          go_wp2_with fail
          go_roundw
          case rel => exact ⟨j + 1, _, _, by omega, by go_num, hs6, HC6, HV6, HQ6, HO6, HB6⟩
          case measure => simp [intOf]; omega
    · obtain rfl : j = n := by omega
      obtain ⟨i0, i1, i2, i3, _⟩ := cells4b HV.out
      obtain ⟨c0, c1, c2, c3, cf⟩ := cells4b HQ.out
      have f0 := cf 0
      have f1 := cf 1
      have f2 := cf 2
      have f3 := cf 3
      have HBn := Lib.hid (set4_below (Nat.le_refl _) HB.out (.int .i64 (k : Int)) (.int .i64 (p : Int)) (.int .i64 (s.size : Int)) (.slice A j cap))
      have HOn := Lib.hid (set4_owns HO.out (show w.heap.size < w5.heap.size by omega) (.int .i64 (k : Int)) (.int .i64 (p : Int)) (.int .i64 (s.size : Int)) (.slice A j cap))
      clear HB HO HV HQ HC cf
      go_wp2_with fail
      (try simp only [Exit.inBlock, Exit.then])
      refine bodyPost_cellS (V := .agg #[.int .i64 (k : Int), .int .i64 (p : Int), .int .i64 (s.size : Int), .slice A j cap]) rfl rfl ?_ rfl ?_
      · go_simp
      · exact ⟨A, cap, rfl, owns_leS HOn.out (by omega), HBn.out⟩
end Go.Proofs.YtfpofcfoeajkiaaGreat
