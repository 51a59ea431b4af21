/- Walks: chapter 38: the counts of a text, of the document and of the program (printed by gen-lsm-rd.py). -/
import Derived.Test.YteidlngffikboaaLsmBytesQ
import Derived.Deep.RegionHeld3
import Derived.Deep.DeepCutAuto
namespace Go.Proofs.Yteidlngffikboaa
open Go.RowKit
set_option linter.unusedVariables false
set_option linter.unusedSimpArgs false
abbrev Bs (l : List UInt8) : ByteArray := ⟨l.toArray⟩
theorem bs_size (l : List UInt8) : (Bs l).size = l.length := by show l.toArray.size = l.length; simp
theorem bs_list (l : List UInt8) : (Bs l).data.toList = l := by simp
theorem bs_app (a : List UInt8) (b : ByteArray) : Bs a ++ b = Bs (a ++ b.data.toList) := by
  apply ByteArray.ext; apply Array.ext'; rw [toList_append]
/-- a row's bytes, up to a place -/
def rowC (r : List Cnt) (j : Nat) : List UInt8 := vPut r.length ++ (r.take j).flatMap cntT
theorem rowC_next (r : List Cnt) (j : Nat) (h : j < r.length) : rowC r (j + 1) = rowC r j ++ r[j].1.data.toList ++ vPut (zig r[j].2) := by
  unfold rowC
  rw [List.take_succ_eq_append_getElem h, List.flatMap_append, List.flatMap_singleton]
  unfold cntT
  simp [List.append_assoc]
theorem rowC_all (r : List Cnt) : rowC r r.length = rowT r := by unfold rowC rowT; rw [List.take_length]
abbrev GoodR (r : List Cnt) : Prop := ∀ x ∈ r, x.1.size = 32 ∧ -9223372036854775808 ≤ x.2 ∧ x.2 ≤ 9223372036854775807
theorem rowC_len {r : List Cnt} (h : GoodR r) (hl : r.length ≤ 1000000) (j : Nat) : (rowC r j).length ≤ 10 + 42 * r.length := by
  unfold rowC
  have h1 := vPut_len10 r.length (by omega)
  have h2 : ∀ l : List Cnt, GoodR l → (l.flatMap cntT).length ≤ 42 * l.length := by
    intro l
    induction l with
    | nil => intro _; simp
    | cons x l ih =>
      intro hx
      have := cntT_len x (hx x (by simp)).1 (hx x (by simp)).2
      have := ih (fun y hy => hx y (by simp [hy]))
      rw [List.flatMap_cons, List.length_append, List.length_cons]; omega
  rw [List.length_append]
  have := h2 (r.take j) (fun x hx => h x (List.mem_of_mem_take hx))
  rw [List.length_take] at this
  omega
set_option maxRecDepth 20000 in
set_option maxHeartbeats 4000000 in
theorem rbytes_any (w : World) (v : Value) (r : List Cnt) (hv : CntB w v r) (hg : GoodR r) (hl : r.length ≤ 1000000) :
    Calls Try.prog 39 #[v] w fun e w' => e = .returned (.string (Bs (fWrap (rowT r)))) ∧ Below w.heap.size w w' := by
  have HWR := Lib.hid (refWrap_any (Bs (rowT r)) (by rw [bs_size]; have := rowT_len hg hl; omega))
  rw [bs_list] at HWR
  obtain ⟨A, c, rfl, h2, h3, h4⟩ := hv
  have hc9 : c ≤ 9223372036854775807 := by unfold maxLen at h3; omega
  have HC := Lib.hid h4
  have HG := Lib.hid hg
  have HLEN : Hid (∀ j, (Bs (rowC r j)).size ≤ 50000000) := fun j => by rw [bs_size]; have := rowC_len hg hl j; omega
  have HP0 : Hid (∀ w, Calls Try.prog 67 #[.int .u64 (r.length : Int)] w fun e w' => e = .returned (.string (Bs (rowC r 0))) ∧ Below w.heap.size w w') := fun w => by
    have := refPut_any r.length (by omega) w
    unfold rowC
    rwa [List.take_zero, List.flatMap_nil, List.append_nil]
  have HEND : Hid (rowC r r.length = rowT r) := rowC_all r
  obtain ⟨n, hn⟩ : ∃ n, n = r.length := ⟨_, rfl⟩
  have HN := Lib.hid hn
  rw [← hn] at HP0 HEND h2
  rw [← hn]
  have hn1 : n ≤ 1000000 := by omega
  clear h3 h4 hg hl hn
  generalize hFF : fWrap (rowT r) = F at *
  clear hFF
  go_enter Try.func39, Try.ntmps39
  go_wp2_with fail
  refine (HP0.out _).mono ?_
  rintro e w1 ⟨rfl, b1⟩
  have HB1 := Lib.hid b1
  clear b1 HP0
  go_wp2_with fail
  go_loopw [3, 4] (fun s a wr => ∃ j : Nat, j ≤ n ∧ a = .int .i64 j ∧ s = .string (Bs (rowC r j)) ∧ Hid (Below w.heap.size w wr)) (fun _ a _ => n - (intOf a).toNat)
  case atStart => exact ⟨0, Nat.zero_le _, rfl, rfl, HB1⟩
  case round =>
    obtain ⟨j, hj, rfl, rfl, HW⟩ := hrel
    by_cases hlt : j < n
    · have hlt' : (j : Int) < (n : Int) := by omega
      have hjl : j < r.length := by rw [← HN.out]; exact hlt
      obtain ⟨b, off, rfl, hblt, hc⟩ := HC.out (by rw [← HN.out]; omega)
      obtain ⟨e1, e2⟩ := hc j hjl
      obtain ⟨hks, hnb⟩ := HG.out _ (List.getElem_mem hjl)
      have HNX : Hid (Bs (rowC r (j + 1)) = Bs (rowC r j) ++ r[j].1 ++ Bs (vPut (zig r[j].2))) := by
        unfold Hid; rw [rowC_next r j hjl, bs_app, bs_app, bs_list]
      have hs1 := HLEN.out j
      have HPP : Hid (∀ w, Calls Try.prog 67 #[.int .u64 (zig r[j].2 : Nat)] w fun e w' => e = .returned (.string (Bs (vPut (zig r[j].2)))) ∧ Below w.heap.size w w') := refPut_any (zig r[j].2) (zig_lt _ hnb)
      have hs2 : (Bs (vPut (zig r[j].2))).size ≤ 10 := by rw [bs_size]; exact vPut_len10 _ (zig_lt _ hnb)
      have HWd : Hid (Below w.heap.size w wr.drew) := HW.out.drew
      have GC0 : Hid (∀ w', Below wr.drew.heap.size wr.drew w' → w'.cell? ⟨b, off + j * 2, none⟩ = some (.string r[j].1) ∧ w'.cell? ⟨b, off + j * 2 + 1, none⟩ = some (.int .i64 r[j].2)) := fun w' hb =>
        ⟨((HWd.out.trans (hb.mono HWd.out.size)).cell (p := ⟨b, off + j * 2, none⟩) hblt).trans e1, ((HWd.out.trans (hb.mono HWd.out.size)).cell (p := ⟨b, off + j * 2 + 1, none⟩) hblt).trans e2⟩
      clear hc e1 e2
      generalize r[j].1 = key at *
      generalize r[j].2 = n0 at *
      generalize Bs (vPut (zig n0)) = Q at *
      generalize hPP : Bs (rowC r j) = P at *
      clear hPP
      have a1 : (P ++ key).size = P.size + key.size := ByteArray.size_append
      have a2 : (P ++ key ++ Q).size = P.size + key.size + Q.size := by rw [ByteArray.size_append, a1]
      go_wp2_with fail
      refine wp_region_noPanic ?_
      refine wp_region_held_drew (S := fun w' => Below wr.drew.heap.size wr.drew w') (by kernel_rfl) (Below.refl _ _) (fun hHeld => ?_)
      have GC := GC0
      clear GC0
      generalize wr.drew = wd at *
      have B_wd : Hid (Below wd.heap.size wd wd) := Below.refl _ _
      refine' wpAnyH_take (i := 0) (v := ?v0) rfl (by kernel_rfl) (by kernel_rfl) (by kernel_rfl) (fun _ _ _ h => h) (Or.inl ⟨by kernel_rfl, ?hy0⟩) (by assumption) ?rest0
      case hy0 => (intro wz hSw; go_simp; try with_reducible rfl)
      try simp only [Act.put, List.setIfInBounds_toArray, List.set_cons_zero, List.set_cons_succ]
      refine' wpAnyH_take (i := 1) (v := ?v1) rfl (by kernel_rfl) (by kernel_rfl) (by kernel_rfl) (fun _ _ _ h => h) (Or.inl ⟨by kernel_rfl, ?hy1⟩) (by assumption) ?rest1
      case hy1 => (intro wz hSw; go_simp; try with_reducible rfl)
      try simp only [Act.put, List.setIfInBounds_toArray, List.set_cons_zero, List.set_cons_succ]
      refine' wpAnyH_take (i := 2) (v := ?v2) rfl (by kernel_rfl) (by kernel_rfl) (by kernel_rfl) (fun _ _ _ h => h) (Or.inl ⟨by kernel_rfl, ?hy2⟩) (by assumption) ?rest2
      case hy2 => (intro wz hSw; go_simp; try with_reducible rfl)
      try simp only [Act.put, List.setIfInBounds_toArray, List.set_cons_zero, List.set_cons_succ]
      refine' wpAnyH_take (i := 3) (v := ?v3) rfl (by kernel_rfl) (by kernel_rfl) (by kernel_rfl) (fun _ _ _ h => h) (Or.inl ⟨by kernel_rfl, ?hy3⟩) (by assumption) ?rest3
      case hy3 => (intro wz hSw; go_simp; try with_reducible rfl)
      try simp only [Act.put, List.setIfInBounds_toArray, List.set_cons_zero, List.set_cons_succ]
      refine' wpAnyH_take (i := 4) (v := ?v4) rfl (by kernel_rfl) (by kernel_rfl) (by kernel_rfl) (fun _ _ _ h => h) (Or.inl ⟨by kernel_rfl, ?hy4⟩) (by assumption) ?rest4
      case hy4 => (intro wz hSw; go_simp; try with_reducible rfl)
      try simp only [Act.put, List.setIfInBounds_toArray, List.set_cons_zero, List.set_cons_succ]
      refine wpAnyH_take (i := 5) (v := .string key) rfl (by kernel_rfl) (by kernel_rfl) (by kernel_rfl) (fun _ _ _ h => h) (Or.inl ⟨by kernel_rfl, ?_⟩) (by assumption) ?_
      · intro wz hSw
        have hh := (GC.out wz hSw).1
        go_simp
      try simp only [Act.put, List.setIfInBounds_toArray, List.set_cons_zero, List.set_cons_succ]
      refine wpAnyH_take (i := 6) (v := .string (P ++ key)) rfl (by kernel_rfl) (by kernel_rfl) (by kernel_rfl) (fun _ _ _ h => h) (Or.inl ⟨by kernel_rfl, ?_⟩) (by assumption) ?_
      · intro wz hSw
        go_simp
        all_goals omega
      try simp only [Act.put, List.setIfInBounds_toArray, List.set_cons_zero, List.set_cons_succ]
      refine' wpAnyH_take (i := 7) (v := ?v7) rfl (by kernel_rfl) (by kernel_rfl) (by kernel_rfl) (fun _ _ _ h => h) (Or.inl ⟨by kernel_rfl, ?hy7⟩) (by assumption) ?rest7
      case hy7 => (intro wz hSw; go_simp; try with_reducible rfl)
      try simp only [Act.put, List.setIfInBounds_toArray, List.set_cons_zero, List.set_cons_succ]
      refine' wpAnyH_take (i := 8) (v := ?v8) rfl (by kernel_rfl) (by kernel_rfl) (by kernel_rfl) (fun _ _ _ h => h) (Or.inl ⟨by kernel_rfl, ?hy8⟩) (by assumption) ?rest8
      case hy8 => (intro wz hSw; go_simp; try with_reducible rfl)
      try simp only [Act.put, List.setIfInBounds_toArray, List.set_cons_zero, List.set_cons_succ]
      refine' wpAnyH_take (i := 9) (v := ?v9) rfl (by kernel_rfl) (by kernel_rfl) (by kernel_rfl) (fun _ _ _ h => h) (Or.inl ⟨by kernel_rfl, ?hy9⟩) (by assumption) ?rest9
      case hy9 => (intro wz hSw; go_simp; try with_reducible rfl)
      try simp only [Act.put, List.setIfInBounds_toArray, List.set_cons_zero, List.set_cons_succ]
      refine' wpAnyH_take (i := 10) (v := ?v10) rfl (by kernel_rfl) (by kernel_rfl) (by kernel_rfl) (fun _ _ _ h => h) (Or.inl ⟨by kernel_rfl, ?hy10⟩) (by assumption) ?rest10
      case hy10 => (intro wz hSw; go_simp; try with_reducible rfl)
      try simp only [Act.put, List.setIfInBounds_toArray, List.set_cons_zero, List.set_cons_succ]
      refine wpAnyH_take (i := 11) (v := .int .i64 n0) rfl (by kernel_rfl) (by kernel_rfl) (by kernel_rfl) (fun _ _ _ h => h) (Or.inl ⟨by kernel_rfl, ?_⟩) (by assumption) ?_
      · intro wz hSw
        have hh := (GC.out wz hSw).2
        go_simp
      try simp only [Act.put, List.setIfInBounds_toArray, List.set_cons_zero, List.set_cons_succ]
      have HZG := Lib.hid (refZig_any n0 hnb wd)
      refine wpAnyH_ready (rs := [12]) (by kernel_rfl) (by simp) ?_
      refine AllReadyH.cons rfl (fun K hK => ?_) AllReadyH.nil
      go_simp
      go_at_call 68
      refine HZG.out.mono ?_
      rintro er wy ⟨rfl, rfl⟩
      go_wp2_with fail
      refine hK.out _ _ (Below.refl _ _) (fun hHeld => ?_)
      clear hK K HZG
      try simp only [Act.put, List.setIfInBounds_toArray, List.set_cons_zero, List.set_cons_succ]
      refine wpAnyH_ready (rs := [13]) (by kernel_rfl) (by simp) ?_
      refine AllReadyH.cons rfl (fun K hK => ?_) AllReadyH.nil
      go_simp
      go_at_call 67
      refine (HPP.out wd).mono ?_
      rintro er x1 ⟨rfl, b1⟩
      have B_x1 : Hid (Below wd.heap.size wd x1) := Lib.hid (B_wd.out.trans (b1.mono B_wd.out.size))
      clear b1
      go_wp2_with fail
      refine hK.out _ _ B_x1.out (fun hHeld => ?_)
      clear hK K
      try simp only [Act.put, List.setIfInBounds_toArray, List.set_cons_zero, List.set_cons_succ]
      refine wpAnyH_take (i := 14) (v := .string (P ++ key ++ Q)) rfl (by kernel_rfl) (by kernel_rfl) (by kernel_rfl) (fun _ _ _ h => h) (Or.inl ⟨by kernel_rfl, ?_⟩) (by assumption) ?_
      · intro wz hSw
        go_simp
        all_goals omega
      refine wpAnyH_take (i := 15) (v := .string (P ++ key ++ Q)) rfl (by kernel_rfl) (by kernel_rfl) (by kernel_rfl) (fun _ _ _ h => h) (Or.inl ⟨by kernel_rfl, ?_⟩) (by assumption) ?_
      · intro wz hSw
        go_simp
      refine wpAnyH_done (by kernel_rfl) ?_ _
      refine NoPanic.normal ?_
      have HWx := Lib.hid (HWd.out.trans (B_x1.out.mono HWd.out.size))
      clear B_x1 B_wd HWd
      go_wp2_with fail
      go_roundw
      case rel => exact ⟨j + 1, by omega, by go_num, by rw [HNX.out], HWx⟩
      case measure => simp [intOf]; omega
    · obtain rfl : j = n := by omega
      rw [HEND.out]
      go_wp2_with fail
      refine (HWR.out _).mono ?_
      rintro e w2 ⟨rfl, b2⟩
      have HW2 := Lib.hid (HW.out.trans (b2.mono HW.out.size))
      clear b2
      go_wp2_with fail
      go_ret
      exact ⟨rfl, HW2.out⟩
def outC (q : List (List Cnt)) (i : Nat) : List UInt8 := (q.take i).flatMap fun r => fWrap (rowT r)
theorem outC_next (q : List (List Cnt)) (i : Nat) (h : i < q.length) : outC q (i + 1) = outC q i ++ fWrap (rowT q[i]) := by
  unfold outC
  rw [List.take_succ_eq_append_getElem h, List.flatMap_append, List.flatMap_singleton]
theorem outC_len (q : List (List Cnt)) (h : ∀ r ∈ q, (fWrap (rowT r)).length ≤ 70000) : ∀ i, (outC q i).length ≤ 70000 * q.length := by
  intro i
  have : ∀ l : List (List Cnt), (∀ r ∈ l, (fWrap (rowT r)).length ≤ 70000) → (l.flatMap fun r => fWrap (rowT r)).length ≤ 70000 * l.length := by
    intro l
    induction l with
    | nil => intro _; simp
    | cons r l ih =>
      intro hr
      have := hr r (by simp)
      have := ih (fun y hy => hr y (by simp [hy]))
      rw [List.flatMap_cons, List.length_append, List.length_cons]; omega
  have := this (q.take i) (fun r hr => h r (List.mem_of_mem_take hr))
  rw [List.length_take] at this
  unfold outC
  omega
theorem wrapT_len {r : List Cnt} (h : okR r) (hl : r.length ≤ 1500) : (fWrap (rowT r)).length ≤ 70000 ∧ GoodR r := by
  have h1 := rowT_len (okR_good h) (by omega)
  have h2 := fWrap_len (rowT r) (by omega)
  have h3 := vPut_len10 (rowT r).length (by omega)
  exact ⟨by omega, okR_good h⟩
/-- what the rows of fit counts are -/
theorem rows_fit {s : CntS} (ok : okS s) (hl : sizeS s ≤ 1500) : ∀ r ∈ s.1 :: s.2, okR r ∧ r.length ≤ 1500 := by
  intro r hr
  unfold sizeS at hl
  rcases List.mem_cons.1 hr with rfl | h
  · exact ⟨ok.1, by omega⟩
  · have := total_mem h
    exact ⟨(ok.2.1 r h).2, by omega⟩
set_option maxRecDepth 20000 in
set_option maxHeartbeats 4000000 in
theorem rwrite_any (w : World) (v : Value) (s : CntS) (hs : LsmN w v s) (hl : sizeS s ≤ 1500) (hn : s.2.length ≤ 1000) :
    Calls Try.prog 12 #[v] w fun e w' => e = .returned (.string (Bs (writeL s))) ∧ Below w.heap.size w w' := by
  have HFT : Hid (∀ w', Below w.heap.size w w' → Calls Try.prog 14 #[v] w' fun e w'' => e = .returned (.bool (fitB s)) ∧ Below w'.heap.size w' w'') := fun w' hb =>
    rfit2_any w' v s (hs.below hb (Nat.le_refl _)) (by omega) hn
  obtain ⟨vm, vr, rfl, hm, hr⟩ := hs
  obtain ⟨wE, hwE⟩ : ∃ wE, wE = w.alloc (.cells #[vm, vr] 25) := ⟨_, rfl⟩
  have HWE := Lib.hid hwE.symm
  have HBE : Hid (Below w.heap.size w wE) := by rw [hwE]; exact (Below.refl _ _).alloc (Nat.le_refl _) _
  have q1 : wE.heap[w.heap.size]? = some (.cells #[vm, vr] 25) := by rw [hwE]; exact World.alloc_heap_new w _
  have hlE : w.heap.size < wE.heap.size := by rw [hwE]; simp
  have HX : Hid (∀ w', Below wE.heap.size wE w' → w'.cell? ⟨w.heap.size, 0, none⟩ = some vm ∧ w'.cell? ⟨w.heap.size, 1, none⟩ = some vr) := fun w' hb => by
    have := (hb.block _ hlE).trans q1
    exact ⟨by unfold World.cell?; rw [this]; rfl, by unfold World.cell?; rw [this]; rfl⟩
  have HFE := Lib.hid (HFT.out wE HBE.out)
  have x0 := (HX.out wE (Below.refl _ _)).1
  have x1 := (HX.out wE (Below.refl _ _)).2
  unfold LsmV at HFE ⊢
  cases hf : fitB s with
  | false =>
    have HZ : Hid (writeL s = []) := by unfold Hid writeL; rw [if_neg (by rw [hf]; simp)]
    rw [hf] at HFE
    obtain ⟨A0, c0, rfl, z0⟩ := hm.1.shape
    obtain ⟨A, c, rfl, z1⟩ := hr.shape
    clear z0 z1
    clear q1 hwE hf hm hr HFT HX
    go_enter Try.func12, Try.ntmps12
    go_wp2_with fail
    rw [HWE.out]
    go_wp2_with fail
    refine HFE.out.mono ?_
    rintro e w1 ⟨rfl, b1⟩
    have HB1 := Lib.hid (HBE.out.trans (b1.mono HBE.out.size))
    clear b1 x0 x1
    go_wp2_with fail
    go_ret
    rw [HZ.out]
    exact ⟨rfl, HB1.out⟩
  | true =>
    rw [hf] at HFE
    have ok := ((fitB_ok (by omega)).1 hf).1
    have HZ : Hid (writeL s = outC (s.1 :: s.2) (s.2.length + 1)) := by
      unfold Hid writeL outC bytesS
      rw [if_pos hf, show s.2.length + 1 = (s.1 :: s.2).length by simp, List.take_length]
    have hrf := rows_fit ok hl
    have HQL : Hid (∀ i, (Bs (outC (s.1 :: s.2) i)).size ≤ 70070000) := fun i => by
      rw [bs_size]
      have := outC_len (s.1 :: s.2) (fun r h => (wrapT_len (hrf r h).1 (hrf r h).2).1) i
      rw [List.length_cons] at this
      omega
    have HNX : Hid (∀ i (h : i < s.2.length), Bs (outC (s.1 :: s.2) (i + 2)) = Bs (outC (s.1 :: s.2) (i + 1)) ++ Bs (fWrap (rowT s.2[i]))) := fun i h => by
      rw [outC_next _ (i + 1) (by simp; omega), bs_app, bs_list]; rfl
    have HS1 : Hid (outC (s.1 :: s.2) 1 = fWrap (rowT s.1)) := by unfold Hid outC; simp
    have HGR : Hid (∀ r ∈ s.2, GoodR r ∧ r.length ≤ 1000000 ∧ (fWrap (rowT r)).length ≤ 70000) := fun r h => by
      have h1 := hrf r (by simp [h])
      have h2 := wrapT_len h1.1 h1.2
      exact ⟨h2.2, by omega, h2.1⟩
    have HRM : Hid (∀ w', Below w.heap.size w w' → Calls Try.prog 39 #[vm] w' fun e w'' => e = .returned (.string (Bs (outC (s.1 :: s.2) 1))) ∧ Below w'.heap.size w' w'') := fun w' hb => by
      rw [HS1.out]
      exact rbytes_any w' vm s.1 (hm.1.below hb (Nat.le_refl _)) (okR_good ok.1) (by have := (hrf s.1 (by simp)).2; omega)
    have HRA := Lib.hid hr
    obtain ⟨rs, hrs⟩ : ∃ rs, rs = s.2 := ⟨_, rfl⟩
    obtain ⟨G, hG⟩ : ∃ G, G = fun i => Bs (outC (s.1 :: s.2) i) := ⟨_, rfl⟩
    have HZ2 : Hid (Bs (writeL s) = G (rs.length + 1)) := by rw [hG, hrs]; unfold Hid; rw [HZ.out]
    have HQL2 : Hid (∀ i, (G i).size ≤ 70070000) := by rw [hG]; exact HQL.out
    have HNX2 : Hid (∀ i (h : i < rs.length), G (i + 2) = G (i + 1) ++ Bs (fWrap (rowT rs[i]))) := by subst hrs; rw [hG]; exact HNX.out
    have HRM2 : Hid (∀ w', Below w.heap.size w w' → Calls Try.prog 39 #[vm] w' fun e w'' => e = .returned (.string (G 1)) ∧ Below w'.heap.size w' w'') := by rw [hG]; exact HRM.out
    rw [← hrs] at HGR hr hn
    rw [HZ2.out]
    obtain ⟨A0, c0, rfl, z0⟩ := hm.1.shape
    clear z0
    obtain ⟨⟨A, c, rfl, z1, z2, z3⟩, z4⟩ := hr
    have hc9 : c ≤ 9223372036854775807 := by unfold maxLen at z2; omega
    have HCC := Lib.hid z3
    clear HRA hG HZ HQL HNX HS1 HRM hrs hrf q1 hwE hf hm HFT z2 z3 z4 ok
    obtain ⟨n, hnn⟩ : ∃ n, n = rs.length := ⟨_, rfl⟩
    have HN := Lib.hid hnn
    rw [← hnn] at HWE HX HFE x1 z1 hn
    rw [← hnn]
    clear hnn
    generalize s.1.length = lm at *
    go_enter Try.func12, Try.ntmps12
    go_wp2_with fail
    rw [HWE.out]
    go_wp2_with fail
    refine HFE.out.mono ?_
    rintro e w1 ⟨rfl, b1⟩
    have HB1 := Lib.hid b1
    clear b1 x0 x1 HFE
    obtain ⟨x0, x1⟩ := HX.out w1 HB1.out
    go_wp2_with fail
    refine (HRM2.out w1 (HBE.out.trans (HB1.out.mono HBE.out.size))).mono ?_
    rintro e w2 ⟨rfl, b2⟩
    have HB2 := Lib.hid (HB1.out.trans (b2.mono HB1.out.size))
    clear b2 x0 x1 HB1 HRM2
    go_wp2_with fail
    go_loopw [3, 4] (fun t a wr => ∃ j : Nat, j ≤ n ∧ a = .int .i64 j ∧ t = .string (G (j + 1)) ∧ Hid (Below wE.heap.size wE wr)) (fun _ a _ => n - (intOf a).toNat)
    case atStart => exact ⟨0, Nat.zero_le _, rfl, rfl, HB2⟩
    case round =>
      obtain ⟨j, hj, rfl, rfl, HW⟩ := hrel
      obtain ⟨x0, x1⟩ := HX.out wr HW.out
      by_cases hlt : j < n
      · have hlt' : (j : Int) < (n : Int) := by omega
        have hjl : j < rs.length := by rw [← HN.out]; exact hlt
        have HWw : Hid (Below w.heap.size w wr) := HBE.out.trans (HW.out.mono HBE.out.size)
        obtain ⟨b, off, rfl, hblt, hc⟩ := HCC.out (by rw [← HN.out]; omega)
        obtain ⟨u, cu1, c2⟩ := hc j hjl
        have cu := (HWw.out.cell (p := ⟨b, off + j, none⟩) hblt).trans cu1
        obtain ⟨g1, g2, g3⟩ := HGR.out _ (List.getElem_mem hjl)
        have HBY := Lib.hid (rbytes_any wr u rs[j] (c2.1.below HWw.out (Nat.le_refl _)) g1 g2)
        have HNJ : Hid (G (j + 1 + 1) = G (j + 1) ++ Bs (fWrap (rowT rs[j]))) := HNX2.out j hjl
        have hs1 := HQL2.out (j + 1)
        have hs2 : (Bs (fWrap (rowT rs[j]))).size ≤ 70000 := by rw [bs_size]; exact g3
        clear hc cu1 c2 g1 g2 g3
        generalize hB : Bs (fWrap (rowT rs[j])) = Q at *
        generalize hP : G (j + 1) = P at *
        clear hB hP
        have a1 : (P ++ Q).size = P.size + Q.size := ByteArray.size_append
        go_wp2_with fail
        refine HBY.out.mono ?_
        rintro e w3 ⟨rfl, b3⟩
        have HW3 := Lib.hid (HW.out.trans (b3.mono HW.out.size))
        clear b3 x0 x1 cu HBY
        go_wp2_with fail
        go_roundw
        case rel => exact ⟨j + 1, by omega, by go_num, by rw [HNJ.out], HW3⟩
        case measure => simp [intOf]; omega
      · obtain rfl : j = n := by omega
        go_wp2_with fail
        go_ret
        exact ⟨rfl, HBE.out.trans (HW.out.mono HBE.out.size)⟩
set_option maxRecDepth 20000 in
set_option maxHeartbeats 4000000 in
theorem pwrite_any (w : World) (v : Value) (s : CntS) (hs : LsmN w v s) (hl : sizeS s ≤ 1500) (hn : s.2.length ≤ 1000) :
    Calls Try.prog 10 #[v] w fun e w' => e = .returned (.string (Bs (writeL s))) ∧ Below w.heap.size w w' := by
  have HFT : Hid (∀ w', Below w.heap.size w w' → Calls Try.prog 13 #[v] w' fun e w'' => e = .returned (.bool (fitB s)) ∧ Below w'.heap.size w' w'') := fun w' hb =>
    pfit2_any w' v s (hs.below hb (Nat.le_refl _)) (by omega) hn
  obtain ⟨vm, vr, rfl, hm, hr⟩ := hs
  obtain ⟨wE, hwE⟩ : ∃ wE, wE = w.alloc (.cells #[vm, vr] 25) := ⟨_, rfl⟩
  have HWE := Lib.hid hwE.symm
  have HBE : Hid (Below w.heap.size w wE) := by rw [hwE]; exact (Below.refl _ _).alloc (Nat.le_refl _) _
  have q1 : wE.heap[w.heap.size]? = some (.cells #[vm, vr] 25) := by rw [hwE]; exact World.alloc_heap_new w _
  have hlE : w.heap.size < wE.heap.size := by rw [hwE]; simp
  have HX : Hid (∀ w', Below wE.heap.size wE w' → w'.cell? ⟨w.heap.size, 0, none⟩ = some vm ∧ w'.cell? ⟨w.heap.size, 1, none⟩ = some vr) := fun w' hb => by
    have := (hb.block _ hlE).trans q1
    exact ⟨by unfold World.cell?; rw [this]; rfl, by unfold World.cell?; rw [this]; rfl⟩
  have HFE := Lib.hid (HFT.out wE HBE.out)
  have x0 := (HX.out wE (Below.refl _ _)).1
  have x1 := (HX.out wE (Below.refl _ _)).2
  unfold LsmV at HFE ⊢
  cases hf : fitB s with
  | false =>
    have HZ : Hid (writeL s = []) := by unfold Hid writeL; rw [if_neg (by rw [hf]; simp)]
    rw [hf] at HFE
    obtain ⟨A0, c0, rfl, z0⟩ := hm.1.shape
    obtain ⟨A, c, rfl, z1⟩ := hr.shape
    clear z0 z1
    clear q1 hwE hf hm hr HFT HX
    go_enter Try.func10, Try.ntmps10
    go_wp2_with fail
    rw [HWE.out]
    go_wp2_with fail
    refine HFE.out.mono ?_
    rintro e w1 ⟨rfl, b1⟩
    have HB1 := Lib.hid (HBE.out.trans (b1.mono HBE.out.size))
    clear b1 x0 x1
    go_wp2_with fail
    go_ret
    rw [HZ.out]
    exact ⟨rfl, HB1.out⟩
  | true =>
    rw [hf] at HFE
    have ok := ((fitB_ok (by omega)).1 hf).1
    have HZ : Hid (writeL s = outC (s.1 :: s.2) (s.2.length + 1)) := by
      unfold Hid writeL outC bytesS
      rw [if_pos hf, show s.2.length + 1 = (s.1 :: s.2).length by simp, List.take_length]
    have hrf := rows_fit ok hl
    have HQL : Hid (∀ i, (Bs (outC (s.1 :: s.2) i)).size ≤ 70070000) := fun i => by
      rw [bs_size]
      have := outC_len (s.1 :: s.2) (fun r h => (wrapT_len (hrf r h).1 (hrf r h).2).1) i
      rw [List.length_cons] at this
      omega
    have HRW : Hid (∀ w', Below w.heap.size w w' → Calls Try.prog 34 #[LsmV vm vr] w' fun e w'' => ∃ v', e = .returned v' ∧ RunsN w'' v' (s.1 :: s.2) ∧ Below w'.heap.size w' w'') := fun w' hb =>
      rows_any w' vm vr s.1 s.2 (hm.below hb (Nat.le_refl _)) (hr.below hb (Nat.le_refl _)) (by omega)
    have HNX : Hid (∀ i (h : i < (s.1 :: s.2).length), Bs (outC (s.1 :: s.2) (i + 1)) = Bs (outC (s.1 :: s.2) i) ++ Bs (fWrap (rowT (s.1 :: s.2)[i]))) := fun i h => by
      rw [outC_next _ i h, bs_app, bs_list]
    have HGR : Hid (∀ r ∈ s.1 :: s.2, GoodR r ∧ r.length ≤ 1500 ∧ (fWrap (rowT r)).length ≤ 70000) := fun r h => by
      have h1 := hrf r h
      have h2 := wrapT_len h1.1 h1.2
      exact ⟨h2.2, by omega, h2.1⟩
    have H0 : Hid (Bs (outC (s.1 :: s.2) 0) = ByteArray.empty) := rfl
    have hQL : (s.1 :: s.2).length = s.2.length + 1 := by simp
    rw [HZ.out]
    rw [← hQL]
    have hql : (s.1 :: s.2).length ≤ 1001 := by rw [hQL]; omega
    obtain ⟨A0, c0, rfl, z0⟩ := hm.1.shape
    obtain ⟨A, c, rfl, z1⟩ := hr.shape
    unfold LsmV at HRW
    clear z0 z1 HZ hQL hrf q1 hwE hf hm hr HFT ok hn hl
    generalize s.1 :: s.2 = q at *
    generalize s.1.length = l1 at *
    generalize s.2.length = l2 at *
    obtain ⟨G, hG⟩ : ∃ G, G = fun i => Bs (outC q i) := ⟨_, rfl⟩
    rw [show Bs (outC q q.length) = G q.length by rw [hG]]
    have HQL2 : Hid (∀ i, (G i).size ≤ 70070000) := by rw [hG]; exact HQL.out
    have HNX2 : Hid (∀ i (h : i < q.length), G (i + 1) = G i ++ Bs (fWrap (rowT q[i]))) := by rw [hG]; exact HNX.out
    have H02 : Hid (ByteArray.empty = G 0) := by rw [hG]; exact H0.out.symm
    clear hG HQL HNX H0
    obtain ⟨n, hnn⟩ : ∃ n, n = q.length := ⟨_, rfl⟩
    have HN := Lib.hid hnn
    rw [← hnn] at hql
    rw [← hnn]
    clear hnn
    go_enter Try.func10, Try.ntmps10
    go_wp2_with fail
    rw [HWE.out]
    go_wp2_with fail
    refine HFE.out.mono ?_
    rintro e w1 ⟨rfl, b1⟩
    have HB1 := Lib.hid b1
    clear b1 x0 x1 HFE
    obtain ⟨x0, x1⟩ := HX.out w1 HB1.out
    go_wp2_with fail
    refine (HRW.out w1 (HBE.out.trans (HB1.out.mono HBE.out.size))).mono ?_
    rintro e w2 ⟨v2, rfl, hR, b2⟩
    have HB2 := Lib.hid (HB1.out.trans (b2.mono HB1.out.size))
    have HBw : Hid (Below w.heap.size w w2) := HBE.out.trans (HB2.out.mono HBE.out.size)
    clear b2 x0 x1 HB1 HRW HX
    obtain ⟨⟨A2, c2, rfl, y1, y2, y3⟩, y4⟩ := hR
    have hc2 : c2 ≤ 9223372036854775807 := by unfold maxLen at y2; omega
    have HCC := Lib.hid y3
    rw [← HN.out] at y1
    rw [← HN.out]
    clear y2 y3 y4
    go_wp2_with fail
    go_loopw [15, 3] (fun a t wr => ∃ p : Nat, p ≤ n ∧ a = .int .i64 p ∧ t = .string (G p) ∧ Hid (Below w2.heap.size w2 wr)) (fun a _ _ => n - (intOf a).toNat)
    case atStart => exact ⟨0, Nat.zero_le _, rfl, by rw [← H02.out]; rfl, Below.refl _ _⟩
    case round =>
      obtain ⟨p, hp, rfl, rfl, HW⟩ := hrel
      obtain ⟨wo, rfl⟩ : ∃ wo, wo = wr := ⟨_, rfl⟩
      by_cases hlp : p < n
      · have hlp' : (p : Int) < (n : Int) := by omega
        have hpl : p < q.length := by rw [← HN.out]; exact hlp
        obtain ⟨b0, o0, rfl, hb0, hcc⟩ := HCC.out (by rw [← HN.out]; omega)
        obtain ⟨u, cu1, cu2⟩ := hcc p hpl
        have cu := (HW.out.cell (p := ⟨b0, o0 + p, none⟩) hb0).trans cu1
        obtain ⟨g1, g2, g3⟩ := HGR.out _ (List.getElem_mem hpl)
        have HNP : Hid (G (p + 1) = G p ++ Bs (fWrap (rowT q[p]))) := HNX2.out p hpl
        have hsP := HQL2.out p
        have hsF : (Bs (fWrap (rowT q[p]))).size ≤ 70000 := by rw [bs_size]; exact g3
        have HCR := Lib.hid (cu2.1.below HW.out (Nat.le_refl _))
        clear hcc cu1 cu2 g3
        generalize q[p] = r at *
        have HWP := Lib.hid (wrap_any (Bs (rowT r)) (by rw [bs_size]; have := rowT_len g1 (by omega); omega))
        rw [bs_list] at HWP
        have HLEN : Hid (∀ j, (Bs (rowC r j)).size ≤ 50000000) := fun j => by rw [bs_size]; have := rowC_len g1 (by omega) j; omega
        have HP0 : Hid (∀ w, Calls Try.prog 35 #[.int .u64 (r.length : Int)] w fun e w' => e = .returned (.string (Bs (rowC r 0))) ∧ Below w.heap.size w w') := fun w => by
          have := put_any r.length (by omega) w
          unfold rowC
          rwa [List.take_zero, List.flatMap_nil, List.append_nil]
        have HEND : Hid (rowC r r.length = rowT r) := rowC_all r
        have HG := Lib.hid g1
        obtain ⟨Ar, cr, rfl, y5, y6, y7⟩ := HCR.out
        have hcr : cr ≤ 9223372036854775807 := by unfold maxLen at y6; omega
        have HCD := Lib.hid y7
        obtain ⟨z, hz⟩ : ∃ z, z = r.length := ⟨_, rfl⟩
        have HZ := Lib.hid hz
        rw [← hz] at HP0 HEND g2 cu y5
        clear y6 y7 hz g1 HCR
        generalize hFF : Bs (fWrap (rowT r)) = F at *
        have HWP2 : Hid (∀ (w : World), Calls Try.prog 37 #[.string (Bs (rowT r))] w fun e w' => e = .returned (.string F) ∧ Below w.heap.size w w') := by rw [← hFF]; exact HWP.out
        clear HWP hFF
        go_wp2_with fail
        refine (HP0.out wo).mono ?_
        rintro e w3 ⟨rfl, b3⟩
        have HB3 : Hid (Below wo.heap.size wo w3) := b3
        clear b3 HP0 cu
        go_wp2_with fail
        go_loopw [6, 25] (fun t a wr => ∃ j : Nat, j ≤ z ∧ a = .int .i64 j ∧ t = .string (Bs (rowC r j)) ∧ Hid (Below wo.heap.size wo wr)) (fun _ a _ => z - (intOf a).toNat)
        case atStart => exact ⟨0, Nat.zero_le _, rfl, rfl, HB3⟩
        case round =>
          clear HB3
          obtain ⟨j, hj, rfl, rfl, HV⟩ := hrel
          by_cases hlt : j < z
          · have hlt' : (j : Int) < (z : Int) := by omega
            have hjl : j < r.length := by rw [← HZ.out]; exact hlt
            obtain ⟨b, off, rfl, hblt, hc⟩ := HCD.out (by rw [← HZ.out]; omega)
            obtain ⟨e1', e2'⟩ := hc j hjl
            have e1 := (HV.out.cell (p := ⟨b, off + j * 2, none⟩) hblt).trans e1'
            have e2 := (HV.out.cell (p := ⟨b, off + j * 2 + 1, none⟩) hblt).trans e2'
            obtain ⟨hks, hnb⟩ := HG.out _ (List.getElem_mem hjl)
            have HNX : Hid (Bs (rowC r (j + 1)) = Bs (rowC r j) ++ (r[j].1 ++ Bs (vPut (zig r[j].2)))) := by
              unfold Hid; rw [rowC_next r j hjl, bs_app, toList_append, bs_list, List.append_assoc]
            have hs1 := HLEN.out j
            have HPP : Hid (∀ w, Calls Try.prog 35 #[.int .u64 (zig r[j].2 : Nat)] w fun e w' => e = .returned (.string (Bs (vPut (zig r[j].2)))) ∧ Below w.heap.size w w') := put_any (zig r[j].2) (zig_lt _ hnb)
            have hs2 : (Bs (vPut (zig r[j].2))).size ≤ 10 := by rw [bs_size]; exact vPut_len10 _ (zig_lt _ hnb)
            clear hc e1' e2'
            generalize r[j].1 = key at *
            generalize r[j].2 = n0 at *
            generalize Bs (vPut (zig n0)) = Q at *
            generalize hPP : Bs (rowC r j) = P at *
            clear hPP
            have a1 : (key ++ Q).size = key.size + Q.size := ByteArray.size_append
            obtain ⟨wn, hwn⟩ : ∃ wn, wn = wr.alloc (.cells #[.string key, .int .i64 n0] 51) := ⟨_, rfl⟩
            have HWN := Lib.hid hwn.symm
            have HVn : Hid (Below wo.heap.size wo wn) := by rw [hwn]; exact HV.out.alloc HV.out.size _
            have GC0 : Hid (∀ w', Below wn.drew.heap.size wn.drew w' → w'.cell? ⟨wr.heap.size, 0, none⟩ = some (.string key) ∧ w'.cell? ⟨wr.heap.size, 1, none⟩ = some (.int .i64 n0)) := fun w' hb => by
              have q0 : wn.heap[wr.heap.size]? = some (.cells #[.string key, .int .i64 n0] 51) := by rw [hwn]; exact World.alloc_heap_new wr _
              have hlt0 : wr.heap.size < wn.drew.heap.size := by rw [hwn]; simp
              have q2 := (hb.block _ hlt0).trans q0
              exact ⟨by unfold World.cell?; rw [q2]; rfl, by unfold World.cell?; rw [q2]; rfl⟩
            clear hwn
            go_wp2_with fail
            rw [HWN.out]
            refine wp_region_noPanic ?_
            refine wp_region_held_drew (S := fun w' => Below wn.drew.heap.size wn.drew w') (by kernel_rfl) (Below.refl _ _) (fun hHeld => ?_)
            have GC := GC0
            have HVd : Hid (Below wo.heap.size wo wn.drew) := HVn.out.drew
            clear GC0 HVn HWN
            generalize wn.drew = wd at *
            have B_wd : Hid (Below wd.heap.size wd wd) := Below.refl _ _
            refine' wpAnyH_take (i := 0) (v := ?v0) rfl (by kernel_rfl) (by kernel_rfl) (by kernel_rfl) (fun _ _ _ h => h) (Or.inl ⟨by kernel_rfl, ?hy0⟩) (by assumption) ?rest0
            case hy0 => (intro wz hSw; go_simp; try with_reducible rfl)
            try simp only [Act.put, List.setIfInBounds_toArray, List.set_cons_zero, List.set_cons_succ]
            refine' wpAnyH_take (i := 1) (v := ?v1) rfl (by kernel_rfl) (by kernel_rfl) (by kernel_rfl) (fun _ _ _ h => h) (Or.inl ⟨by kernel_rfl, ?hy1⟩) (by assumption) ?rest1
            case hy1 => (intro wz hSw; go_simp; try with_reducible rfl)
            try simp only [Act.put, List.setIfInBounds_toArray, List.set_cons_zero, List.set_cons_succ]
            refine wpAnyH_take (i := 2) (v := .string key) rfl (by kernel_rfl) (by kernel_rfl) (by kernel_rfl) (fun _ _ _ h => h) (Or.inl ⟨by kernel_rfl, ?_⟩) (by assumption) ?_
            · intro wz hSw
              have hh := (GC.out wz hSw).1
              go_simp
            try simp only [Act.put, List.setIfInBounds_toArray, List.set_cons_zero, List.set_cons_succ]
            refine' wpAnyH_take (i := 3) (v := ?v3) rfl (by kernel_rfl) (by kernel_rfl) (by kernel_rfl) (fun _ _ _ h => h) (Or.inl ⟨by kernel_rfl, ?hy3⟩) (by assumption) ?rest3
            case hy3 => (intro wz hSw; go_simp; try with_reducible rfl)
            try simp only [Act.put, List.setIfInBounds_toArray, List.set_cons_zero, List.set_cons_succ]
            refine wpAnyH_take (i := 4) (v := .int .i64 n0) rfl (by kernel_rfl) (by kernel_rfl) (by kernel_rfl) (fun _ _ _ h => h) (Or.inl ⟨by kernel_rfl, ?_⟩) (by assumption) ?_
            · intro wz hSw
              have hh := (GC.out wz hSw).2
              go_simp
            try simp only [Act.put, List.setIfInBounds_toArray, List.set_cons_zero, List.set_cons_succ]
            have HZG := Lib.hid (zig_any n0 hnb wd)
            refine wpAnyH_ready (rs := [5]) (by kernel_rfl) (by simp) ?_
            refine AllReadyH.cons rfl (fun K hK => ?_) AllReadyH.nil
            go_simp
            go_at_call 36
            refine HZG.out.mono ?_
            rintro er wy ⟨rfl, rfl⟩
            go_wp2_with fail
            refine hK.out _ _ (Below.refl _ _) (fun hHeld => ?_)
            clear hK K HZG
            try simp only [Act.put, List.setIfInBounds_toArray, List.set_cons_zero, List.set_cons_succ]
            refine wpAnyH_ready (rs := [6]) (by kernel_rfl) (by simp) ?_
            refine AllReadyH.cons rfl (fun K hK => ?_) AllReadyH.nil
            go_simp
            go_at_call 35
            refine (HPP.out wd).mono ?_
            rintro er x1 ⟨rfl, b1⟩
            have B_x1 : Hid (Below wd.heap.size wd x1) := Lib.hid (B_wd.out.trans (b1.mono B_wd.out.size))
            clear b1
            go_wp2_with fail
            refine hK.out _ _ B_x1.out (fun hHeld => ?_)
            clear hK K
            try simp only [Act.put, List.setIfInBounds_toArray, List.set_cons_zero, List.set_cons_succ]
            refine wpAnyH_take (i := 7) (v := .string (key ++ Q)) rfl (by kernel_rfl) (by kernel_rfl) (by kernel_rfl) (fun _ _ _ h => h) (Or.inl ⟨by kernel_rfl, ?_⟩) (by assumption) ?_
            · intro wz hSw
              go_simp
              all_goals omega
            try simp only [Act.put, List.setIfInBounds_toArray, List.set_cons_zero, List.set_cons_succ]
            refine wpAnyH_take (i := 8) (v := .string (P ++ (key ++ Q))) rfl (by kernel_rfl) (by kernel_rfl) (by kernel_rfl) (fun _ _ _ h => h) (Or.inl ⟨by kernel_rfl, ?_⟩) (by assumption) ?_
            · intro wz hSw
              go_simp
              all_goals omega
            refine wpAnyH_take (i := 9) (v := .string (P ++ (key ++ Q))) rfl (by kernel_rfl) (by kernel_rfl) (by kernel_rfl) (fun _ _ _ h => h) (Or.inl ⟨by kernel_rfl, ?_⟩) (by assumption) ?_
            · intro wz hSw
              go_simp
            refine wpAnyH_done (by kernel_rfl) ?_ _
            refine NoPanic.normal ?_
            have HVx := Lib.hid (HVd.out.trans (B_x1.out.mono HVd.out.size))
            clear B_x1 B_wd HVd
            go_wp2_with fail
            go_roundw
            case rel => exact ⟨j + 1, by omega, by go_num, by rw [HNX.out], HVx⟩
            case measure => simp [intOf]; omega
          · obtain rfl : j = z := by omega
            have HS : Hid (Value.string (Bs (rowC r j)) = Value.string (Bs (rowT r))) := by unfold Hid; rw [HEND.out]
            have a1 : (G p ++ F).size = (G p).size + F.size := ByteArray.size_append
            rw [HEND.out]
            generalize hP : G p = P at *
            clear hP
            go_wp2_with fail
            refine (HWP2.out _).mono ?_
            rintro e w4 ⟨rfl, b4⟩
            have HW4 : Hid (Below w2.heap.size w2 w4) := (HW.out.trans (HV.out.mono HW.out.size)).trans (b4.mono (HW.out.trans (HV.out.mono HW.out.size)).size)
            clear b4
            go_wp2_with fail
            go_roundw
            case rel => exact ⟨p + 1, by omega, by go_num, by rw [HNP.out], HW4⟩
            case measure => simp [intOf]; omega
      · obtain rfl : p = n := by omega
        go_wp2_with fail
        go_ret
        exact ⟨rfl, HBw.out.trans (HW.out.mono HBw.out.size)⟩
end Go.Proofs.Yteidlngffikboaa

/- Here ends the text LsmWr; here begins LsmRd. -/
namespace Go.Proofs.Yteidlngffikboaa
open Go.RowKit
set_option linter.unusedVariables false
set_option linter.unusedSimpArgs false
theorem extract_fr (s : ByteArray) (k : Nat) : s.extract 0 k = Bs (s.data.toList.take k) := by
  apply ByteArray.ext
  apply Array.ext'
  simp
theorem rowGo_zero (s : List UInt8) (out : List Cnt) : rowGo 0 s out = if s = [] then some out else none := rfl
theorem rowGo_succ (n : Nat) (s : List UInt8) (out : List Cnt) : rowGo (n + 1) s out = if s.length < 32 then none else if (vTake (s.drop 32)).2.2 ≠ 0 then none else rowGo n (s.drop (32 + (vTake (s.drop 32)).2.1)) (out ++ [(Bs (s.take 32), zag (vTake (s.drop 32)).1)]) := rfl
theorem new_cntn (w : World) (k : ByteArray) (n : Int) : CntN (w.alloc (.cells #[.string k, .int .i64 n] 51)) (.slice (some ⟨w.heap.size, 0, none⟩) 1 1) [(k, n)] := new_cnt w (k, n)
theorem owns_low {w w' : World} {B t k n : Nat} {v : Value} {l : List Value} (h : w.ownsRow B t k v n l) (hb : Below w.heap.size w w') : w'.ownsRow B t k v n l := by
  refine h.kept (only_of_below hb none) ?_
  rcases h.2 with ⟨rfl, _⟩ | ⟨g, cap, cur, rfl, _⟩
  · exact .inl rfl
  · exact .inr (by simp [Value.ownBlock])
set_option maxRecDepth 20000 in
set_option maxHeartbeats 4000000 in
theorem rcounts_any (w : World) (s : ByteArray) (hs : s.size ≤ 1000000) :
    Calls Try.prog 33 #[.string s] w fun e w' => ∃ v, e = .returned (.tuple #[v, .bool (rowOf s.data.toList).isSome]) ∧ (∀ r, rowOf s.data.toList = some r → w'.ownsRow w.heap.size 51 2 v r.length (cnC r)) ∧ Below w.heap.size w w' := by
  have HT := Lib.hid (refTake_any s (by unfold maxLen; omega) w)
  have hlen : s.data.toList.length = s.size := by simp
  have hle := vTake_le s.data.toList
  have hltq := vTake_lt s.data.toList
  have HRO : Hid (rowOf s.data.toList = if (vTake s.data.toList).2.2 ≠ 0 ∨ 1048576 < (vTake s.data.toList).1 then none else rowGo (vTake s.data.toList).1 (s.data.toList.drop (vTake s.data.toList).2.1) []) := rfl
  generalize vTake s.data.toList = q at *
  obtain ⟨c, k, e'⟩ := q
  dsimp only at *
  generalize rowOf s.data.toList = RO at *
  rw [hlen] at hle
  by_cases he : e' = 0
  · subst he
    obtain ⟨hk1, hk2⟩ := hle rfl
    clear hle
    by_cases hc : 1048576 < c
    · have hct : decide ((1048576 : Int) < (c : Int)) = true := by rw [decide_eq_true_iff]; omega
      have HN : Hid (RO = none) := by rw [HRO.out, if_pos (.inr hc)]; exact rfl
      clear HRO
      go_enter Try.func33, Try.ntmps33
      go_wp2_with fail
      refine HT.out.mono ?_
      rintro e w1 ⟨rfl, hw1⟩
      have HB0 : Hid (Below w.heap.size w w1) := by rw [← hw1]; exact Below.refl _ _
      clear hw1
      go_wp2_with fail
      go_ret2
      rw [HN.out]
      exact ⟨_, rfl, (fun r h => by cases h), HB0.out⟩
    · have hct : decide ((1048576 : Int) < (c : Int)) = false := by rw [decide_eq_false_iff_not]; omega
      have HRG : Hid (RO = rowGo c (s.extract k s.size).data.toList []) := by rw [HRO.out, if_neg (by simp; omega), extract_to]; exact rfl
      have hT0 : (s.extract k s.size).size ≤ 1000000 := by simp; omega
      clear HRO hlen
      go_enter Try.func33, Try.ntmps33
      go_wp2_with fail
      refine HT.out.mono ?_
      rintro e w1 ⟨rfl, hw1⟩
      have HB0 : Hid (Below w.heap.size w w1) := by rw [← hw1]; exact Below.refl _ _
      clear hw1
      clear HT
      go_wp2_with fail
      generalize s.extract k s.size = T0 at *
      go_loopw [0, 7, 8] (fun tt vv aa wr => ∃ (j : Nat) (T : ByteArray) (out : List Cnt), j ≤ c ∧ T.size + 32 * j ≤ 1000000 ∧ out.length = j ∧ tt = .string T ∧ aa = .int .u64 j ∧ Hid (RO = rowGo (c - j) T.data.toList out) ∧ Hid (wr.ownsRow w.heap.size 51 2 vv out.length (cnC out)) ∧ Hid (Below w.heap.size w wr)) (fun _ _ a _ => c - (intOf a).toNat)
      case atStart => exact ⟨0, T0, [], Nat.zero_le _, by omega, rfl, rfl, rfl, HRG, World.ownsRow_nil _ _ _ _, HB0⟩
      case round =>
        clear HRG HB0 hT0
        obtain ⟨j, T, out, hj, hT, hol, rfl, rfl, HR, HO, HW⟩ := hrel
        have hTl : T.data.toList.length = T.size := by simp
        by_cases hlt : j < c
        · have hlt' : (j : Int) < (c : Int) := by omega
          obtain ⟨m, hm⟩ : ∃ m, c - j = m + 1 := ⟨c - j - 1, by omega⟩
          have HR1 : Hid (RO = if T.size < 32 then none else if (vTake (T.data.toList.drop 32)).2.2 ≠ 0 then none else rowGo m (T.data.toList.drop (32 + (vTake (T.data.toList.drop 32)).2.1)) (out ++ [(Bs (T.data.toList.take 32), zag (vTake (T.data.toList.drop 32)).1)])) := by
            unfold Hid; rw [HR.out, hm, rowGo_succ, hTl]
          clear HR
          by_cases h32 : T.size < 32
          · have h32' : (T.size : Int) < 32 := by omega
            have HN : Hid (RO = none) := by rw [HR1.out, if_pos h32]; exact rfl
            clear HR1
            go_wp2_with fail
            go_ret2
            rw [HN.out]
            exact ⟨_, rfl, (fun r h => by cases h), HW.out⟩
          · have h32' : ¬ ((T.size : Int) < 32) := by omega
            have HT2 := Lib.hid (refTake_any (T.extract 32 T.size) (by unfold maxLen; simp; omega) wr)
            have hle2 := vTake_le (T.data.toList.drop 32)
            have hlt2 := vTake_lt (T.data.toList.drop 32)
            rw [extract_to] at HT2
            rw [List.length_drop, hTl] at hle2
            generalize vTake (T.data.toList.drop 32) = q at *
            obtain ⟨n, k2, e2⟩ := q
            dsimp only at *
            by_cases he2 : e2 = 0
            · subst he2
              obtain ⟨h1, h2⟩ := hle2 rfl
              have HN : Hid (RO = rowGo m (T.extract (32 + k2) T.size).data.toList (out ++ [(T.extract 0 32, zag n)])) := by
                rw [HR1.out, if_neg h32, if_neg (by simp), extract_to, extract_fr]; exact rfl
              have hzb := zag_bd n hlt2.1
              have hTs : (T.extract (32 + k2) T.size).size = T.size - (32 + k2) := by simp
              have HZG := Lib.hid (refZag_any n hlt2.1)
              clear HR1 hle2 hlt2
              go_wp2_with fail
              refine HT2.out.mono ?_
              rintro e w5 ⟨rfl, hw5⟩
              have HB5 : Hid (Below wr.heap.size wr w5) := by rw [← hw5]; exact Below.refl _ _
              clear hw5
              have HO5 : Hid (w5.ownsRow w.heap.size 51 2 u7 out.length (cnC out)) := owns_low HO.out HB5.out
              have HW5 : Hid (Below w.heap.size w w5) := HW.out.trans (HB5.out.mono HW.out.size)
              clear HT2 HO HB5
              go_wp2_with fail
              refine wp_region_noPanic ?_
              refine wp_region_held_drew (S := fun _ => True) (by kernel_rfl) trivial (fun hHeld => ?_)
              have HO6 : Hid (w5.drew.ownsRow w.heap.size 51 2 u7 out.length (cnC out)) := owns_low HO5.out (Below.drew (Below.refl _ _))
              have HW6 : Hid (Below w.heap.size w w5.drew) := HW5.out.drew
              clear HO5 HW5
              generalize w5.drew = w6 at *
              refine' wpAnyH_take (i := 0) (v := ?v0) rfl (by kernel_rfl) (by kernel_rfl) (by kernel_rfl) (fun _ _ _ h => h) (Or.inl ⟨by kernel_rfl, ?hy0⟩) (by assumption) ?rest0
              case hy0 => (intro wz hSw; go_simp; try with_reducible rfl)
              try simp only [Act.put, List.setIfInBounds_toArray, List.set_cons_zero, List.set_cons_succ]
              refine' wpAnyH_take (i := 1) (v := ?v1) rfl (by kernel_rfl) (by kernel_rfl) (by kernel_rfl) (fun _ _ _ h => h) (Or.inl ⟨by kernel_rfl, ?hy1⟩) (by assumption) ?rest1
              case hy1 => (intro wz hSw; go_simp; try with_reducible rfl)
              try simp only [Act.put, List.setIfInBounds_toArray, List.set_cons_zero, List.set_cons_succ]
              refine' wpAnyH_take (i := 2) (v := ?v2) rfl (by kernel_rfl) (by kernel_rfl) (by kernel_rfl) (fun _ _ _ h => h) (Or.inl ⟨by kernel_rfl, ?hy2⟩) (by assumption) ?rest2
              case hy2 => (intro wz hSw; go_simp; try with_reducible rfl)
              try simp only [Act.put, List.setIfInBounds_toArray, List.set_cons_zero, List.set_cons_succ]
              refine' wpAnyH_take (i := 3) (v := ?v3) rfl (by kernel_rfl) (by kernel_rfl) (by kernel_rfl) (fun _ _ _ h => h) (Or.inl ⟨by kernel_rfl, ?hy3⟩) (by assumption) ?rest3
              case hy3 => (intro wz hSw; go_simp; try with_reducible rfl)
              try simp only [Act.put, List.setIfInBounds_toArray, List.set_cons_zero, List.set_cons_succ]
              refine wpAnyH_ready (rs := [4]) (by kernel_rfl) (by simp) ?_
              refine AllReadyH.cons rfl (fun K hK => ?_) AllReadyH.nil
              go_simp
              go_at_call 60
              refine (HZG.out w6).mono ?_
              rintro er wy ⟨rfl, rfl⟩
              go_wp2_with fail
              refine hK.out _ _ trivial (fun hHeld => ?_)
              clear hK K HZG
              try simp only [Act.put, List.setIfInBounds_toArray, List.set_cons_zero, List.set_cons_succ]
              refine wpAnyH_take (i := 5) (v := .agg #[.string (T.extract 0 32), .int .i64 (zag n)]) rfl (by kernel_rfl) (by kernel_rfl) (by kernel_rfl) (fun _ _ _ h => h) (Or.inl ⟨by kernel_rfl, ?_⟩) (by assumption) ?_
              · intro wz hSw
                go_simp
              try simp only [Act.put, List.setIfInBounds_toArray, List.set_cons_zero, List.set_cons_succ]
              refine wpAnyH_ready (rs := [6]) (by kernel_rfl) (by simp) ?_
              refine AllReadyH.cons rfl (fun K hK => ?_) AllReadyH.nil
              go_simp
              refine hK.out _ _ trivial (fun hHeld => ?_)
              clear hK K
              try simp only [Act.put, List.setIfInBounds_toArray, List.set_cons_zero, List.set_cons_succ]
              refine wpAnyH_ready (rs := [7]) (by kernel_rfl) (by simp) ?_
              refine AllReadyH.cons rfl (fun K hK => ?_) AllReadyH.nil
              rw [if_pos (by kernel_rfl)]
              refine wp_append_cnts (.tmp 44) (.tmp 50) 22 rfl Try.underlying22 w.heap.size _ out rfl (HO6.out.alloc _) _ [(T.extract 0 32, zag n)] rfl (new_cntn w6 _ _) (by simp; omega) (by have := HW6.out.size; simp; omega) ?_
              intro v7 w7 o7 g7
              have HO7 := Lib.hid o7
              have HW7 : Hid (Below w.heap.size w w7) := (HW6.out.alloc HW6.out.size _).grown g7 (by have := HW6.out.size; simp; omega) (fun k hk => (HO6.out.lt k hk).1)
              refine hK.out _ _ trivial (fun hHeld => ?_)
              clear hK K o7 g7 HO6 HW6
              simp only [Act.put, List.getElem_toArray, List.getElem_cons_succ, List.getElem_cons_zero, List.setIfInBounds_toArray, List.set_cons_zero, List.set_cons_succ]
              refine wpAnyH_take (i := 8) (v := v7) rfl (by kernel_rfl) (by kernel_rfl) (by kernel_rfl) (fun _ _ _ h => h) (Or.inl ⟨by kernel_rfl, ?_⟩) (by assumption) ?_
              · intro wz hSw
                go_simp
              refine wpAnyH_done (by kernel_rfl) ?_ _
              refine NoPanic.normal ?_
              go_wp2_with fail
              go_roundw
              case rel => exact ⟨j + 1, _, out ++ [(T.extract 0 32, zag n)], by omega, by rw [hTs]; omega, by simp; omega, rfl, by go_num, by rw [HN.out, show c - (j + 1) = m by omega]; exact rfl, HO7, HW7⟩
              case measure => simp [intOf]; omega
            · have he3 : ((e2 : Int) != 0) = true := by simp; omega
              have HN : Hid (RO = none) := by rw [HR1.out, if_neg h32, if_pos he2]; exact rfl
              clear HR1 hle2
              go_wp2_with fail
              refine HT2.out.mono ?_
              rintro e w5 ⟨rfl, hw5⟩
              have HB5 : Hid (Below wr.heap.size wr w5) := by rw [← hw5]; exact Below.refl _ _
              clear hw5
              have HW5 : Hid (Below w.heap.size w w5) := HW.out.trans (HB5.out.mono HW.out.size)
              clear HT2
              go_wp2_with fail
              go_ret2
              rw [HN.out]
              exact ⟨_, rfl, (fun r h => by cases h), HW5.out⟩
        · obtain rfl : j = c := by omega
          have HR1 : Hid (RO = if T.data.toList = [] then some out else none) := by unfold Hid; rw [HR.out, Nat.sub_self, rowGo_zero]
          clear HR
          by_cases hT0 : T = ByteArray.empty
          · subst hT0
            have HN : Hid (RO = some out) := HR1.out.trans (if_pos rfl)
            clear HR1
            go_wp2_with fail
            go_ret2
            rw [HN.out]
            exact ⟨_, rfl, (fun r h => by cases h; exact HO.out), HW.out⟩
          · have hTn : T.data.toList ≠ [] := fun e => hT0 (by apply ByteArray.ext; apply Array.ext'; rw [e]; rfl)
            have hTe : (T.toList == ([] : List UInt8)) = false := by rw [ByteArray.toList_eq]; simpa using hTn
            have HN : Hid (RO = none) := by rw [HR1.out, if_neg hTn]; exact rfl
            clear HR1
            go_wp2_with fail
            go_ret2
            rw [HN.out]
            exact ⟨_, rfl, (fun r h => by cases h), HW.out⟩
  · have he3 : ((e' : Int) != 0) = true := by simp; omega
    have HN : Hid (RO = none) := by rw [HRO.out, if_pos (.inl he)]; exact rfl
    clear HRO hle
    go_enter Try.func33, Try.ntmps33
    go_wp2_with fail
    refine HT.out.mono ?_
    rintro e w1 ⟨rfl, hw1⟩
    have HB0 : Hid (Below w.heap.size w w1) := by rw [← hw1]; exact Below.refl _ _
    clear hw1
    go_wp2_with fail
    go_ret2
    rw [HN.out]
    exact ⟨_, rfl, (fun r h => by cases h), HB0.out⟩
set_option maxRecDepth 20000 in
set_option maxHeartbeats 4000000 in
theorem prow9_any (w : World) (s : ByteArray) (hs : s.size ≤ 1000000) :
    Calls Try.prog 31 #[.string s] w fun e w' => ∃ v, e = .returned (.tuple #[v, .bool (rowOf s.data.toList).isSome]) ∧ (∀ r, rowOf s.data.toList = some r → w'.ownsRow w.heap.size 51 2 v r.length (cnC r)) ∧ Below w.heap.size w w' := by
  have HT := Lib.hid (take_any s (by unfold maxLen; omega) w)
  have hlen : s.data.toList.length = s.size := by simp
  have hle := vTake_le s.data.toList
  have hltq := vTake_lt s.data.toList
  have HRO : Hid (rowOf s.data.toList = if (vTake s.data.toList).2.2 ≠ 0 ∨ 1048576 < (vTake s.data.toList).1 then none else rowGo (vTake s.data.toList).1 (s.data.toList.drop (vTake s.data.toList).2.1) []) := rfl
  generalize vTake s.data.toList = q at *
  obtain ⟨c, k, e'⟩ := q
  dsimp only at *
  generalize rowOf s.data.toList = RO at *
  rw [hlen] at hle
  by_cases he : e' = 0
  · subst he
    obtain ⟨hk1, hk2⟩ := hle rfl
    clear hle
    by_cases hc : 1048576 < c
    · have hct : decide ((1048576 : Int) < (c : Int)) = true := by rw [decide_eq_true_iff]; omega
      have HN : Hid (RO = none) := by rw [HRO.out, if_pos (.inr hc)]; exact rfl
      clear HRO
      go_enter Try.func31, Try.ntmps31
      go_wp2_with fail
      refine HT.out.mono ?_
      rintro e w1 ⟨rfl, hw1⟩
      have HB0 : Hid (Below w.heap.size w w1) := hw1
      clear hw1
      go_wp2_with fail
      go_ret2
      rw [HN.out]
      exact ⟨_, rfl, (fun r h => by cases h), HB0.out⟩
    · have hct : decide ((1048576 : Int) < (c : Int)) = false := by rw [decide_eq_false_iff_not]; omega
      have HRG : Hid (RO = rowGo c (s.extract k s.size).data.toList []) := by rw [HRO.out, if_neg (by simp; omega), extract_to]; exact rfl
      have hT0 : (s.extract k s.size).size ≤ 1000000 := by simp; omega
      clear HRO hlen
      go_enter Try.func31, Try.ntmps31
      go_wp2_with fail
      refine HT.out.mono ?_
      rintro e w1 ⟨rfl, hw1⟩
      have HB0 : Hid (Below w.heap.size w w1) := hw1
      clear hw1
      clear HT
      go_wp2_with fail
      generalize s.extract k s.size = T0 at *
      go_loopw [0, 7, 27] (fun tt vv aa wr => ∃ (j : Nat) (T : ByteArray) (out : List Cnt), j ≤ c ∧ T.size + 32 * j ≤ 1000000 ∧ out.length = j ∧ tt = .string T ∧ aa = .int .u64 j ∧ Hid (RO = rowGo (c - j) T.data.toList out) ∧ Hid (wr.ownsRow w.heap.size 51 2 vv out.length (cnC out)) ∧ Hid (Below w.heap.size w wr)) (fun _ _ a _ => c - (intOf a).toNat)
      case atStart => exact ⟨0, T0, [], Nat.zero_le _, by omega, rfl, rfl, rfl, HRG, World.ownsRow_nil _ _ _ _, HB0⟩
      case round =>
        clear HRG HB0 hT0
        obtain ⟨j, T, out, hj, hT, hol, rfl, rfl, HR, HO, HW⟩ := hrel
        have hTl : T.data.toList.length = T.size := by simp
        by_cases hlt : j < c
        · have hlt' : (j : Int) < (c : Int) := by omega
          obtain ⟨m, hm⟩ : ∃ m, c - j = m + 1 := ⟨c - j - 1, by omega⟩
          have HR1 : Hid (RO = if T.size < 32 then none else if (vTake (T.data.toList.drop 32)).2.2 ≠ 0 then none else rowGo m (T.data.toList.drop (32 + (vTake (T.data.toList.drop 32)).2.1)) (out ++ [(Bs (T.data.toList.take 32), zag (vTake (T.data.toList.drop 32)).1)])) := by
            unfold Hid; rw [HR.out, hm, rowGo_succ, hTl]
          clear HR
          by_cases h32 : T.size < 32
          · have h32' : (T.size : Int) < 32 := by omega
            have HN : Hid (RO = none) := by rw [HR1.out, if_pos h32]; exact rfl
            clear HR1
            go_wp2_with fail
            go_ret2
            rw [HN.out]
            exact ⟨_, rfl, (fun r h => by cases h), HW.out⟩
          · have h32' : ¬ ((T.size : Int) < 32) := by omega
            have HT2 := Lib.hid (take_any (T.extract 32 T.size) (by unfold maxLen; simp; omega) wr)
            have hle2 := vTake_le (T.data.toList.drop 32)
            have hlt2 := vTake_lt (T.data.toList.drop 32)
            rw [extract_to] at HT2
            rw [List.length_drop, hTl] at hle2
            generalize vTake (T.data.toList.drop 32) = q at *
            obtain ⟨n, k2, e2⟩ := q
            dsimp only at *
            by_cases he2 : e2 = 0
            · subst he2
              obtain ⟨h1, h2⟩ := hle2 rfl
              have HN : Hid (RO = rowGo m (T.extract (32 + k2) T.size).data.toList (out ++ [(T.extract 0 32, zag n)])) := by
                rw [HR1.out, if_neg h32, if_neg (by simp), extract_to, extract_fr]; exact rfl
              have hzb := zag_bd n hlt2.1
              have hTs : (T.extract (32 + k2) T.size).size = T.size - (32 + k2) := by simp
              have HZG := Lib.hid (zag_any n hlt2.1)
              clear HR1 hle2 hlt2
              go_wp2_with fail
              refine HT2.out.mono ?_
              rintro e w5 ⟨rfl, hw5⟩
              have HB5 : Hid (Below wr.heap.size wr w5) := hw5
              clear hw5
              have HO5 : Hid (w5.ownsRow w.heap.size 51 2 u7 out.length (cnC out)) := owns_low HO.out HB5.out
              have HW5 : Hid (Below w.heap.size w w5) := HW.out.trans (HB5.out.mono HW.out.size)
              clear HT2 HO HB5
              go_wp2_with fail
              refine wp_region_noPanic ?_
              refine wp_region_held_drew (S := fun _ => True) (by kernel_rfl) trivial (fun hHeld => ?_)
              have HO6 : Hid (w5.drew.ownsRow w.heap.size 51 2 u7 out.length (cnC out)) := owns_low HO5.out (Below.drew (Below.refl _ _))
              have HW6 : Hid (Below w.heap.size w w5.drew) := HW5.out.drew
              clear HO5 HW5
              generalize w5.drew = w6 at *
              refine' wpAnyH_take (i := 0) (v := ?v0) rfl (by kernel_rfl) (by kernel_rfl) (by kernel_rfl) (fun _ _ _ h => h) (Or.inl ⟨by kernel_rfl, ?hy0⟩) (by assumption) ?rest0
              case hy0 => (intro wz hSw; go_simp; try with_reducible rfl)
              try simp only [Act.put, List.setIfInBounds_toArray, List.set_cons_zero, List.set_cons_succ]
              refine' wpAnyH_take (i := 1) (v := ?v1) rfl (by kernel_rfl) (by kernel_rfl) (by kernel_rfl) (fun _ _ _ h => h) (Or.inl ⟨by kernel_rfl, ?hy1⟩) (by assumption) ?rest1
              case hy1 => (intro wz hSw; go_simp; try with_reducible rfl)
              try simp only [Act.put, List.setIfInBounds_toArray, List.set_cons_zero, List.set_cons_succ]
              refine' wpAnyH_take (i := 2) (v := ?v2) rfl (by kernel_rfl) (by kernel_rfl) (by kernel_rfl) (fun _ _ _ h => h) (Or.inl ⟨by kernel_rfl, ?hy2⟩) (by assumption) ?rest2
              case hy2 => (intro wz hSw; go_simp; try with_reducible rfl)
              try simp only [Act.put, List.setIfInBounds_toArray, List.set_cons_zero, List.set_cons_succ]
              refine' wpAnyH_take (i := 3) (v := ?v3) rfl (by kernel_rfl) (by kernel_rfl) (by kernel_rfl) (fun _ _ _ h => h) (Or.inl ⟨by kernel_rfl, ?hy3⟩) (by assumption) ?rest3
              case hy3 => (intro wz hSw; go_simp; try with_reducible rfl)
              try simp only [Act.put, List.setIfInBounds_toArray, List.set_cons_zero, List.set_cons_succ]
              refine wpAnyH_ready (rs := [4]) (by kernel_rfl) (by simp) ?_
              refine AllReadyH.cons rfl (fun K hK => ?_) AllReadyH.nil
              go_simp
              go_at_call 57
              refine (HZG.out w6).mono ?_
              rintro er wy ⟨rfl, rfl⟩
              go_wp2_with fail
              refine hK.out _ _ trivial (fun hHeld => ?_)
              clear hK K HZG
              try simp only [Act.put, List.setIfInBounds_toArray, List.set_cons_zero, List.set_cons_succ]
              refine wpAnyH_take (i := 5) (v := .agg #[.string (T.extract 0 32), .int .i64 (zag n)]) rfl (by kernel_rfl) (by kernel_rfl) (by kernel_rfl) (fun _ _ _ h => h) (Or.inl ⟨by kernel_rfl, ?_⟩) (by assumption) ?_
              · intro wz hSw
                go_simp
              try simp only [Act.put, List.setIfInBounds_toArray, List.set_cons_zero, List.set_cons_succ]
              refine wpAnyH_ready (rs := [6]) (by kernel_rfl) (by simp) ?_
              refine AllReadyH.cons rfl (fun K hK => ?_) AllReadyH.nil
              go_simp
              refine hK.out _ _ trivial (fun hHeld => ?_)
              clear hK K
              try simp only [Act.put, List.setIfInBounds_toArray, List.set_cons_zero, List.set_cons_succ]
              refine wpAnyH_ready (rs := [7]) (by kernel_rfl) (by simp) ?_
              refine AllReadyH.cons rfl (fun K hK => ?_) AllReadyH.nil
              rw [if_pos (by kernel_rfl)]
              refine wp_append_cnts (.tmp 41) (.tmp 47) 22 rfl Try.underlying22 w.heap.size _ out rfl (HO6.out.alloc _) _ [(T.extract 0 32, zag n)] rfl (new_cntn w6 _ _) (by simp; omega) (by have := HW6.out.size; simp; omega) ?_
              intro v7 w7 o7 g7
              have HO7 := Lib.hid o7
              have HW7 : Hid (Below w.heap.size w w7) := (HW6.out.alloc HW6.out.size _).grown g7 (by have := HW6.out.size; simp; omega) (fun k hk => (HO6.out.lt k hk).1)
              refine hK.out _ _ trivial (fun hHeld => ?_)
              clear hK K o7 g7 HO6 HW6
              simp only [Act.put, List.getElem_toArray, List.getElem_cons_succ, List.getElem_cons_zero, List.setIfInBounds_toArray, List.set_cons_zero, List.set_cons_succ]
              refine wpAnyH_take (i := 8) (v := v7) rfl (by kernel_rfl) (by kernel_rfl) (by kernel_rfl) (fun _ _ _ h => h) (Or.inl ⟨by kernel_rfl, ?_⟩) (by assumption) ?_
              · intro wz hSw
                go_simp
              refine wpAnyH_done (by kernel_rfl) ?_ _
              refine NoPanic.normal ?_
              go_wp2_with fail
              go_roundw
              case rel => exact ⟨j + 1, _, out ++ [(T.extract 0 32, zag n)], by omega, by rw [hTs]; omega, by simp; omega, rfl, by go_num, by rw [HN.out, show c - (j + 1) = m by omega]; exact rfl, HO7, HW7⟩
              case measure => simp [intOf]; omega
            · have he3 : ((e2 : Int) != 0) = true := by simp; omega
              have HN : Hid (RO = none) := by rw [HR1.out, if_neg h32, if_pos he2]; exact rfl
              clear HR1 hle2
              go_wp2_with fail
              refine HT2.out.mono ?_
              rintro e w5 ⟨rfl, hw5⟩
              have HB5 : Hid (Below wr.heap.size wr w5) := hw5
              clear hw5
              have HW5 : Hid (Below w.heap.size w w5) := HW.out.trans (HB5.out.mono HW.out.size)
              clear HT2
              go_wp2_with fail
              go_ret2
              rw [HN.out]
              exact ⟨_, rfl, (fun r h => by cases h), HW5.out⟩
        · obtain rfl : j = c := by omega
          have HR1 : Hid (RO = if T.data.toList = [] then some out else none) := by unfold Hid; rw [HR.out, Nat.sub_self, rowGo_zero]
          clear HR
          by_cases hT0 : T = ByteArray.empty
          · subst hT0
            have HN : Hid (RO = some out) := HR1.out.trans (if_pos rfl)
            clear HR1
            go_wp2_with fail
            go_ret2
            rw [HN.out]
            exact ⟨_, rfl, (fun r h => by cases h; exact HO.out), HW.out⟩
          · have hTn : T.data.toList ≠ [] := fun e => hT0 (by apply ByteArray.ext; apply Array.ext'; rw [e]; rfl)
            have hTe : (T.toList == ([] : List UInt8)) = false := by rw [ByteArray.toList_eq]; simpa using hTn
            have HN : Hid (RO = none) := by rw [HR1.out, if_neg hTn]; exact rfl
            clear HR1
            go_wp2_with fail
            go_ret2
            rw [HN.out]
            exact ⟨_, rfl, (fun r h => by cases h), HW.out⟩
  · have he3 : ((e' : Int) != 0) = true := by simp; omega
    have HN : Hid (RO = none) := by rw [HRO.out, if_pos (.inl he)]; exact rfl
    clear HRO hle
    go_enter Try.func31, Try.ntmps31
    go_wp2_with fail
    refine HT.out.mono ?_
    rintro e w1 ⟨rfl, hw1⟩
    have HB0 : Hid (Below w.heap.size w w1) := hw1
    clear hw1
    go_wp2_with fail
    go_ret2
    rw [HN.out]
    exact ⟨_, rfl, (fun r h => by cases h), HB0.out⟩
end Go.Proofs.Yteidlngffikboaa
