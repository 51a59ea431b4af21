/- Texts of this claim's author, packed: ScrRWrite. Conditions: none. -/
import Derived.Test.YtfpofcfoeajkiaaGreatQB12
/- siloref45.Write: its walk (printed by gen-scr-rwrite.py). -/
namespace Go.Proofs.YtfpofcfoeajkiaaGreat
open Go.RowKit
set_option linter.unusedVariables false
set_option linter.unusedSimpArgs false
theorem wrap_u64S (q : Nat) (h : q < 18446744073709551616) : IntKind.u64.wrap (q : Int) = (q : Int) := by
  first
    | exact IntWalk.u64_in _ (by omega)
    | exact IntWalk.u64_in _ (by omega) (by omega)
    | (simp [IntKind.wrap]; omega)
theorem str_ne_e {a : ByteArray} (h : a ≠ ⟨#[]⟩) : (a.toList == (⟨#[]⟩ : ByteArray).toList) = false ∧ a.toList.isEmpty = false ∧ (a.toList == ([] : List UInt8)) = false := by
  have h2 : ¬ a.toList = [] := by
    intro e
    rw [ByteArray.toList_eq] at e
    exact h (ByteArray.ext (Array.toList_inj.1 e))
  exact ⟨str_ne_b h, by simpa using h2, by simpa using h2⟩
theorem toList_appendS (a b : ByteArray) : (a ++ b).data.toList = a.data.toList ++ b.data.toList := by simp
theorem flat_take_le (T : List (List UInt8)) (h : ∀ t ∈ T, t.length ≤ 65536) (j : Nat) : ((T.take j).flatMap fWrap).length ≤ 70000 * T.length := by
  have := sum_fwrap (T.take j) (fun t ht => h t (List.mem_of_mem_take ht))
  rw [List.length_take] at this
  omega
set_option maxRecDepth 20000 in
set_option maxHeartbeats 8000000 in
theorem rwrite_any (w : World) (K P Z : Int) (v : Value) (l : List Shd) (h : ShdB w v l) (hl : l.length ≤ 1000) (hd : ∀ x ∈ l, x.2.1.size ≤ 60000 ∧ x.2.2.size ≤ 1000) :
    Calls Tryz.prog 10 #[.agg #[.int .i64 K, .int .i64 P, .int .i64 Z, v]] w fun e w' => e = .returned (.string ⟨(writeL K P Z l).toArray⟩) ∧ Below w.heap.size w w' := by
  have HSH := Lib.hid h
  obtain ⟨A, c, rfl, h1, h2, h3⟩ := h
  have hc9 : c ≤ 9223372036854775807 := by unfold maxLen at h2; omega
  obtain ⟨n, hn⟩ : ∃ n, n = l.length := ⟨_, rfl⟩
  have HN := Lib.hid hn
  have H3 := Lib.hid h3
  have HD := Lib.hid hd
  rw [← hn] at h1 hl HSH ⊢
  clear h3 hd hn h2
  obtain ⟨wE, hwE⟩ : ∃ wE, wE = w.alloc (.cells #[.int .i64 K, .int .i64 P, .int .i64 Z, .slice A n c] 24) := ⟨_, rfl⟩
  have HWE := Lib.hid hwE.symm
  have LOW : Hid (Below w.heap.size w wE) := by rw [hwE]; exact (Below.refl _ _).alloc (Nat.le_refl _) _
  have hbx : wE.heap[w.heap.size]? = some (.cells #[.int .i64 K, .int .i64 P, .int .i64 Z, .slice A n c] 24) := by rw [hwE]; exact World.alloc_heap_new w _
  have HC : Hid (∀ W, Below wE.heap.size wE W → W.cell? ⟨w.heap.size, 0, none⟩ = some (.int .i64 K) ∧ W.cell? ⟨w.heap.size, 1, none⟩ = some (.int .i64 P) ∧ W.cell? ⟨w.heap.size, 2, none⟩ = some (.int .i64 Z) ∧ W.cell? ⟨w.heap.size, 3, none⟩ = some (.slice A n c)) := fun W hb => ward_cells ((hb.block _ (Array.getElem?_eq_some_iff.1 hbx).1).trans hbx)
  obtain ⟨x0, x1, x2, x3⟩ := HC.out wE (Below.refl _ _)
  have HFT := Lib.hid (rfit_any wE K P Z _ l (HSH.out.below LOW.out (Nat.le_refl _)) (by have := HN.out; omega) (fun x hx => by have := (HD.out x hx).2; omega))
  clear hwE hbx
  cases hf : fitW K P Z l with
  | false =>
    have HE : Hid (writeL K P Z l = []) := by unfold Hid writeL; rw [hf]; rfl
    rw [hf] at HFT
    clear hf
    go_enter Tryz.func10, Tryz.ntmps10
    go_wp2_with fail
    rw [HWE.out]
    go_wp2_with fail
    refine HFT.out.mono ?_
    rintro e w1 ⟨rfl, b1⟩
    have HB := Lib.hid (LOW.out.trans (b1.mono LOW.out.size))
    clear b1
    go_wp2_with fail
    go_ret
    exact ⟨by rw [HE.out]; rfl, HB.out⟩
  | true =>
    have HE : Hid (writeL K P Z l = (ownT K P Z l).flatMap fWrap) := by unfold Hid writeL; rw [hf]; rfl
    rw [hf] at HFT
    have HTL := Lib.hid (ownT_len hf (fun x hx => (HD.out x hx).1))
    obtain ⟨⟨k1, k2⟩, ⟨p1, p2⟩, ⟨z1, z2⟩, hlen, hg⟩ := fitW_get hf
    have HG := Lib.hid hg
    have HTN : Hid ((ownT K P Z l).length = n + 1) := by unfold Hid ownT; rw [List.length_cons, textsL_len, HN.out]
    have HT0 : Hid ((ownT K P Z l).take 1 = [headT K.toNat P.toNat Z.toNat l]) := rfl
    have HTG : Hid (∀ j (h : j < l.length), (ownT K P Z l).take (j + 2) = (ownT K P Z l).take (j + 1) ++ [vPut j ++ l[j].2.1.data.toList]) := fun j hj => by
      have e := textsL_get l 0 j hj
      have hjl : j + 1 < (ownT K P Z l).length := by rw [HTN.out, HN.out]; omega
      rw [show j + 2 = j + 1 + 1 by omega, List.take_succ_eq_append_getElem hjl]
      congr 2
      have e2 : (ownT K P Z l)[j + 1]? = some (vPut (0 + j) ++ l[j].2.1.data.toList) := e
      rw [List.getElem?_eq_getElem hjl, Nat.zero_add] at e2
      exact Option.some.inj e2
    have hsml := sumsL_len (l := l) (fun x hx => by obtain ⟨i, hi, rfl⟩ := List.getElem_of_mem hx; exact (hg i hi).2)
    have HSL : Hid (∀ j, (sumsL (l.take j)).length ≤ 32000) := fun j => by
      rw [sumsL_len (fun x hx => by obtain ⟨i, hi, rfl⟩ := List.getElem_of_mem (List.mem_of_mem_take hx); exact (hg i hi).2), List.length_take]
      have := HN.out; omega
    obtain ⟨k, rfl⟩ := Int.eq_ofNat_of_zero_le (show 0 ≤ K by omega)
    obtain ⟨p, rfl⟩ := Int.eq_ofNat_of_zero_le (show 0 ≤ P by omega)
    obtain ⟨z, rfl⟩ := Int.eq_ofNat_of_zero_le z1
    have HN1 := Lib.hid (fun W => refPut_any k (by omega) W)
    have HN2 := Lib.hid (fun W => refPut_any p (by omega) W)
    have HN3 := Lib.hid (fun W => refPut_any z (by omega) W)
    have a1 : (⟨(vPut k).toArray⟩ : ByteArray).size ≤ 10 := by have := vPut_len9 k (by omega); simpa [ByteArray.size] using this
    have a2 : (⟨(vPut p).toArray⟩ : ByteArray).size ≤ 10 := by have := vPut_len9 p (by omega); simpa [ByteArray.size] using this
    have a3 : (⟨(vPut z).toArray⟩ : ByteArray).size ≤ 10 := by have := vPut_len9 z (by omega); simpa [ByteArray.size] using this
    have HH3 : Hid (((⟨(vPut k).toArray⟩ : ByteArray) ++ ⟨(vPut p).toArray⟩ ++ ⟨(vPut z).toArray⟩).data.toList = vPut k ++ vPut p ++ vPut z) := by unfold Hid; simp
    generalize (⟨(vPut k).toArray⟩ : ByteArray) = b1 at *
    generalize (⟨(vPut p).toArray⟩ : ByteArray) = b2 at *
    generalize (⟨(vPut z).toArray⟩ : ByteArray) = b3 at *
    have HHD : Hid (∀ j, ((b1 ++ b2 ++ b3) ++ (⟨(sumsL (l.take j)).toArray⟩ : ByteArray)).data.toList = vPut k ++ vPut p ++ vPut z ++ sumsL (l.take j)) := fun j => by
      rw [toList_appendS, HH3.out]
    have hb3 : (b1 ++ b2 ++ b3).size ≤ 30 := by simp only [ByteArray.size_append]; omega
    clear hf hlen hsml k1 p1 z1
    go_enter Tryz.func10, Tryz.ntmps10
    go_wp2_with fail
    rw [HWE.out]
    go_wp2_with fail
    refine HFT.out.mono ?_
    rintro e w1 ⟨rfl, r1⟩
    have HBd : Hid (Below wE.heap.size wE w1.drew) := r1.drew
    clear r1 x0 x1 x2 x3
    go_wp2_with fail
    refine wp_region_noPanic ?_
    refine wp_region_held_drew (S := fun w' => Below w1.drew.heap.size w1.drew w') (by kernel_rfl) (Below.refl _ _) (fun hHeld => ?_)
    generalize w1.drew = wd at *
    have B_wd : Hid (Below wd.heap.size wd wd) := Below.refl _ _
    have GX : Hid (∀ w', Below wd.heap.size wd w' → w'.cell? ⟨w.heap.size, 0, none⟩ = some (.int .i64 k) ∧ w'.cell? ⟨w.heap.size, 1, none⟩ = some (.int .i64 p) ∧ w'.cell? ⟨w.heap.size, 2, none⟩ = some (.int .i64 z) ∧ w'.cell? ⟨w.heap.size, 3, none⟩ = some (.slice A n c)) := fun w' hb => HC.out w' (HBd.out.trans (hb.mono HBd.out.size))
    refine wpAnyH_take (i := 0) (v := .pointer (some ⟨w.heap.size, 0, none⟩)) rfl (by kernel_rfl) (by kernel_rfl) (by kernel_rfl) (fun _ _ _ h => h) (Or.inl ⟨by kernel_rfl, ?_⟩) (by assumption) ?_
    · intro wz hSw
      go_simp
    try simp only [Act.put, List.getElem_toArray, List.getElem_cons_succ, List.getElem_cons_zero, List.setIfInBounds_toArray, List.set_cons_zero, List.set_cons_succ]
    refine wpAnyH_take (i := 1) (v := .int .i64 (k : Int)) rfl (by kernel_rfl) (by kernel_rfl) (by kernel_rfl) (fun _ _ _ h => h) (Or.inl ⟨by kernel_rfl, ?_⟩) (by assumption) ?_
    · intro wz hSw
      obtain ⟨hh, hg, hi, hj⟩ := GX.out wz hSw
      go_simp
    try simp only [Act.put, List.getElem_toArray, List.getElem_cons_succ, List.getElem_cons_zero, List.setIfInBounds_toArray, List.set_cons_zero, List.set_cons_succ]
    refine wpAnyH_take (i := 2) (v := .int .u64 (k : Int)) rfl (by kernel_rfl) (by kernel_rfl) (by kernel_rfl) (fun _ _ _ h => h) (Or.inl ⟨by kernel_rfl, ?_⟩) (by assumption) ?_
    · intro wz hSw
      go_simp
      first | done | (rw [wrap_u64S _ (by omega)])
    try simp only [Act.put, List.getElem_toArray, List.getElem_cons_succ, List.getElem_cons_zero, List.setIfInBounds_toArray, List.set_cons_zero, List.set_cons_succ]
    refine wpAnyH_take (i := 4) (v := .pointer (some ⟨w.heap.size, 1, none⟩)) rfl (by kernel_rfl) (by kernel_rfl) (by kernel_rfl) (fun _ _ _ h => h) (Or.inl ⟨by kernel_rfl, ?_⟩) (by assumption) ?_
    · intro wz hSw
      go_simp
    try simp only [Act.put, List.getElem_toArray, List.getElem_cons_succ, List.getElem_cons_zero, List.setIfInBounds_toArray, List.set_cons_zero, List.set_cons_succ]
    refine wpAnyH_take (i := 5) (v := .int .i64 (p : Int)) rfl (by kernel_rfl) (by kernel_rfl) (by kernel_rfl) (fun _ _ _ h => h) (Or.inl ⟨by kernel_rfl, ?_⟩) (by assumption) ?_
    · intro wz hSw
      obtain ⟨hh, hg, hi, hj⟩ := GX.out wz hSw
      go_simp
    try simp only [Act.put, List.getElem_toArray, List.getElem_cons_succ, List.getElem_cons_zero, List.setIfInBounds_toArray, List.set_cons_zero, List.set_cons_succ]
    refine wpAnyH_take (i := 6) (v := .int .u64 (p : Int)) rfl (by kernel_rfl) (by kernel_rfl) (by kernel_rfl) (fun _ _ _ h => h) (Or.inl ⟨by kernel_rfl, ?_⟩) (by assumption) ?_
    · intro wz hSw
      go_simp
      first | done | (rw [wrap_u64S _ (by omega)])
    try simp only [Act.put, List.getElem_toArray, List.getElem_cons_succ, List.getElem_cons_zero, List.setIfInBounds_toArray, List.set_cons_zero, List.set_cons_succ]
    refine wpAnyH_take (i := 9) (v := .pointer (some ⟨w.heap.size, 2, none⟩)) rfl (by kernel_rfl) (by kernel_rfl) (by kernel_rfl) (fun _ _ _ h => h) (Or.inl ⟨by kernel_rfl, ?_⟩) (by assumption) ?_
    · intro wz hSw
      go_simp
    try simp only [Act.put, List.getElem_toArray, List.getElem_cons_succ, List.getElem_cons_zero, List.setIfInBounds_toArray, List.set_cons_zero, List.set_cons_succ]
    refine wpAnyH_take (i := 10) (v := .int .i64 (z : Int)) rfl (by kernel_rfl) (by kernel_rfl) (by kernel_rfl) (fun _ _ _ h => h) (Or.inl ⟨by kernel_rfl, ?_⟩) (by assumption) ?_
    · intro wz hSw
      obtain ⟨hh, hg, hi, hj⟩ := GX.out wz hSw
      go_simp
    try simp only [Act.put, List.getElem_toArray, List.getElem_cons_succ, List.getElem_cons_zero, List.setIfInBounds_toArray, List.set_cons_zero, List.set_cons_succ]
    refine wpAnyH_take (i := 11) (v := .int .u64 (z : Int)) rfl (by kernel_rfl) (by kernel_rfl) (by kernel_rfl) (fun _ _ _ h => h) (Or.inl ⟨by kernel_rfl, ?_⟩) (by assumption) ?_
    · intro wz hSw
      go_simp
      first | done | (rw [wrap_u64S _ (by omega)])
    try simp only [Act.put, List.getElem_toArray, List.getElem_cons_succ, List.getElem_cons_zero, List.setIfInBounds_toArray, List.set_cons_zero, List.set_cons_succ]
    refine wpAnyH_ready (rs := [3]) (by kernel_rfl) (by simp) ?_
    refine AllReadyH.cons rfl (fun K hK => ?_) AllReadyH.nil
    go_simp
    go_at_call 30
    refine (HN1.out wd).mono ?_
    rintro er u1 ⟨rfl, b1⟩
    have B_u1 : Hid (Below wd.heap.size wd u1) := Lib.hid (B_wd.out.trans (b1.mono B_wd.out.size))
    clear b1
    go_wp2_with fail
    refine hK.out _ _ B_u1.out (fun hHeld => ?_)
    clear hK K
    try simp only [Act.put, List.getElem_toArray, List.getElem_cons_succ, List.getElem_cons_zero, List.setIfInBounds_toArray, List.set_cons_zero, List.set_cons_succ]
    refine wpAnyH_ready (rs := [7]) (by kernel_rfl) (by simp) ?_
    refine AllReadyH.cons rfl (fun K hK => ?_) AllReadyH.nil
    go_simp
    go_at_call 30
    refine (HN2.out u1).mono ?_
    rintro er u2 ⟨rfl, b1⟩
    have B_u2 : Hid (Below wd.heap.size wd u2) := Lib.hid (B_u1.out.trans (b1.mono B_u1.out.size))
    clear b1
    go_wp2_with fail
    refine hK.out _ _ B_u2.out (fun hHeld => ?_)
    clear hK K
    try simp only [Act.put, List.getElem_toArray, List.getElem_cons_succ, List.getElem_cons_zero, List.setIfInBounds_toArray, List.set_cons_zero, List.set_cons_succ]
    refine wpAnyH_take (i := 8) (v := .string (b1 ++ b2)) rfl (by kernel_rfl) (by kernel_rfl) (by kernel_rfl) (fun _ _ _ h => h) (Or.inl ⟨by kernel_rfl, ?_⟩) (by assumption) ?_
    · intro wz hSw
      go_simp
      first | done | omega | ((try simp only [ByteArray.size_append]); omega)
    try simp only [Act.put, List.getElem_toArray, List.getElem_cons_succ, List.getElem_cons_zero, List.setIfInBounds_toArray, List.set_cons_zero, List.set_cons_succ]
    refine wpAnyH_ready (rs := [12]) (by kernel_rfl) (by simp) ?_
    refine AllReadyH.cons rfl (fun K hK => ?_) AllReadyH.nil
    go_simp
    go_at_call 30
    refine (HN3.out u2).mono ?_
    rintro er u3 ⟨rfl, b1⟩
    have B_u3 : Hid (Below wd.heap.size wd u3) := Lib.hid (B_u2.out.trans (b1.mono B_u2.out.size))
    clear b1
    go_wp2_with fail
    refine hK.out _ _ B_u3.out (fun hHeld => ?_)
    clear hK K
    try simp only [Act.put, List.getElem_toArray, List.getElem_cons_succ, List.getElem_cons_zero, List.setIfInBounds_toArray, List.set_cons_zero, List.set_cons_succ]
    refine wpAnyH_take (i := 13) (v := .string (b1 ++ b2 ++ b3)) rfl (by kernel_rfl) (by kernel_rfl) (by kernel_rfl) (fun _ _ _ h => h) (Or.inl ⟨by kernel_rfl, ?_⟩) (by assumption) ?_
    · intro wz hSw
      go_simp
      first | done | omega | ((try simp only [ByteArray.size_append]); omega)
    refine wpAnyH_take (i := 14) (v := .string (b1 ++ b2 ++ b3)) rfl (by kernel_rfl) (by kernel_rfl) (by kernel_rfl) (fun _ _ _ h => h) (Or.inl ⟨by kernel_rfl, ?_⟩) (by assumption) ?_
    · intro wz hSw
      go_simp
    refine wpAnyH_done (by kernel_rfl) ?_ _
    refine NoPanic.normal ?_
    have HB6 := Lib.hid (HBd.out.trans (B_u3.out.mono HBd.out.size))
    have HST0 : Hid ((b1 ++ b2 ++ b3) = (b1 ++ b2 ++ b3) ++ (⟨(sumsL (l.take 0)).toArray⟩ : ByteArray)) := by
      unfold Hid
      apply ByteArray.ext
      apply Array.toList_inj.1
      rw [HHD.out 0, HH3.out]
      simp [sumsL]
    clear HBd B_wd B_u1 B_u2 B_u3 GX
    generalize b1 ++ b2 ++ b3 = b0 at *
    go_wp2_with fail
    go_loopw [3, 4] (fun o a wr => ∃ j : Nat, j ≤ n ∧ a = .int .i64 j ∧ o = .string (b0 ++ (⟨(sumsL (l.take j)).toArray⟩ : ByteArray)) ∧ Hid (Below wE.heap.size wE wr)) (fun _ a _ => n - (intOf a).toNat)
    case atStart => exact ⟨0, Nat.zero_le _, rfl, by rw [← HST0.out], HB6⟩
    case round =>
      obtain ⟨j, hj, rfl, rfl, HB⟩ := hrel
      obtain ⟨y0, y1, y2, y3⟩ := HC.out wr HB.out
      by_cases hlt : j < n
      · have hlt' : (j : Int) < n := by omega
        obtain ⟨b, off, rfl, hbw, hcl⟩ := H3.out (by have := HN.out; omega)
        have hml : j < l.length := by have := HN.out; omega
        have hci := hcl j hml
        have hkb := ((HB.out.mono (B' := w.heap.size) LOW.out.size).block b hbw).trans (LOW.out.block b hbw)
        have e0 := (World.cell?_of_block hkb).trans hci.1
        have e1 := (World.cell?_of_block hkb).trans hci.2.1
        have e2 := (World.cell?_of_block hkb).trans hci.2.2
        have hsj := (HG.out j hml).2
        have HSJ := Lib.hid (sumsL_take l j hml)
        generalize l[j] = x at *
        obtain ⟨xn, xd, xs⟩ := x
        dsimp only at e0 e1 e2 hsj HSJ
        have hs0 := HSL.out j
        have hs1 : (⟨(sumsL (l.take j)).toArray⟩ : ByteArray).size ≤ 32000 := by simpa [ByteArray.size] using hs0
        have HNX : Hid (b0 ++ (⟨(sumsL (l.take j)).toArray⟩ : ByteArray) ++ xs = b0 ++ (⟨(sumsL (l.take (j + 1))).toArray⟩ : ByteArray)) := by
          unfold Hid
          apply ByteArray.ext
          apply Array.toList_inj.1
          rw [toList_appendS, HHD.out j, HHD.out (j + 1), HSJ.out]
          simp
        have hs3 : (b0 ++ (⟨(sumsL (l.take j)).toArray⟩ : ByteArray)).size ≤ 33000 := by rw [ByteArray.size_append]; omega
        generalize b0 ++ (⟨(sumsL (l.take j)).toArray⟩ : ByteArray) = bc at *
        clear hci hkb hcl hbw hml hs0 hs1
        go_wp2_with fail
        go_roundw
        case rel => exact ⟨j + 1, by omega, by go_num, by rw [HNX.out], HB⟩
        case measure => simp [intOf]; omega
      · obtain rfl : j = n := by omega
        have hs0 := HSL.out j
        have hs1 : (⟨(sumsL (l.take j)).toArray⟩ : ByteArray).size ≤ 32000 := by simpa [ByteArray.size] using hs0
        have hs3 : (b0 ++ (⟨(sumsL (l.take j)).toArray⟩ : ByteArray)).size ≤ 33000 := by rw [ByteArray.size_append]; omega
        have HWR := Lib.hid (fun W => refWrap_any (b0 ++ (⟨(sumsL (l.take j)).toArray⟩ : ByteArray)) (by omega) W)
        rw [HHD.out j] at HWR
        rw [show l.take j = l by rw [HN.out, List.take_length]] at HWR
        have hfb : (⟨(fWrap (vPut k ++ vPut p ++ vPut z ++ sumsL l)).toArray⟩ : ByteArray) = ⟨(((ownT k p z l).take 1).flatMap fWrap).toArray⟩ := by
          rw [HT0.out]; simp [headT]
        rw [hfb] at HWR
        have htk : l.take j = l := by rw [HN.out, List.take_length]
        rw [htk]
        generalize b0 ++ (⟨(sumsL l).toArray⟩ : ByteArray) = bh at *
        clear hfb htk hlt hj hs0 hs1 hs3 HST0 HHD
        obtain ⟨wq, rfl⟩ : ∃ wq : World, wq = wr := ⟨_, rfl⟩
        have HBq : Hid (Below wE.heap.size wE wq) := HB.out
        go_wp2_with fail
        clear y0 y1 y2 y3
        refine (HWR.out _).mono ?_
        rintro e w2 ⟨rfl, r2⟩
        have HB2 := Lib.hid (HB.out.trans (r2.mono HB.out.size))
        clear r2 HB HBq HB6 HWR
        go_wp2_with fail
        go_loopw [5, 6] (fun o a wr => ∃ i : Nat, i ≤ j ∧ a = .int .i64 i ∧ o = .string (⟨(((ownT k p z l).take (i + 1)).flatMap fWrap).toArray⟩ : ByteArray) ∧ Hid (Below wE.heap.size wE wr)) (fun _ a _ => j - (intOf a).toNat)
        case atStart => exact ⟨0, Nat.zero_le _, rfl, rfl, HB2⟩
        case round =>
          obtain ⟨i, hi, rfl, rfl, HB⟩ := hrel
          obtain ⟨y0, y1, y2, y3⟩ := HC.out wr HB.out
          by_cases hlt : i < j
          · have hlt' : (i : Int) < j := by omega
            obtain ⟨b, off, rfl, hbw, hcl⟩ := H3.out (by have := HN.out; omega)
            have hml : i < l.length := by have := HN.out; omega
            have hci := hcl i hml
            have hkb := ((HB.out.mono (B' := w.heap.size) LOW.out.size).block b hbw).trans (LOW.out.block b hbw)
            have e0 := (World.cell?_of_block hkb).trans hci.1
            have e1 := (World.cell?_of_block hkb).trans hci.2.1
            have e2 := (World.cell?_of_block hkb).trans hci.2.2
            have hdj := (HD.out l[i] (List.getElem_mem hml)).1
            have HTJ := Lib.hid (HTG.out i hml)
            generalize l[i] = x at *
            obtain ⟨xn, xd, xs⟩ := x
            dsimp only at e0 e1 e2 hdj HTJ
            have HNJ := Lib.hid (fun W => refPut_any i (by omega) W)
            have hvl := vPut_len9 i (by omega)
            have a5 : (⟨(vPut i).toArray⟩ : ByteArray).size ≤ 10 := by simpa [ByteArray.size] using hvl
            have hvt : ((⟨(vPut i).toArray⟩ : ByteArray) ++ xd).data.toList = vPut i ++ xd.data.toList := by simp
            have HWJ := Lib.hid (fun W => refWrap_any ((⟨(vPut i).toArray⟩ : ByteArray) ++ xd) (by simp only [ByteArray.size_append]; omega) W)
            rw [hvt] at HWJ
            have htl : (vPut i ++ xd.data.toList).length ≤ 65536 := by
              have : xd.data.toList.length = xd.size := by simp
              rw [List.length_append]; omega
            obtain ⟨hne, hne2, hne3⟩ := str_ne_e (fB_ne htl)
            have hsf : (fB (vPut i ++ xd.data.toList)).size ≤ 70000 := by have := fwrap_len_le htl; simpa [fB, ByteArray.size] using this
            have HTM : Hid ((⟨(((ownT k p z l).take (i + 1)).flatMap fWrap).toArray⟩ : ByteArray) ++ fB (vPut i ++ xd.data.toList) = ⟨(((ownT k p z l).take (i + 2)).flatMap fWrap).toArray⟩) := by
              unfold Hid
              rw [HTJ.out, List.flatMap_append]
              apply ByteArray.ext
              apply Array.toList_inj.1
              simp [fB]
            have hsl0 := flat_take_le (ownT k p z l) HTL.out (i + 1)
            have hsl : (⟨(((ownT k p z l).take (i + 1)).flatMap fWrap).toArray⟩ : ByteArray).size ≤ 80000000 := by
              have e : (⟨(((ownT k p z l).take (i + 1)).flatMap fWrap).toArray⟩ : ByteArray).size = (((ownT k p z l).take (i + 1)).flatMap fWrap).length := by simp [ByteArray.size]
              rw [e]; have := HTN.out; omega
            have hfe : (⟨(fWrap (vPut i ++ xd.data.toList)).toArray⟩ : ByteArray) = fB (vPut i ++ xd.data.toList) := rfl
            rw [hfe] at HWJ
            generalize fB (vPut i ++ xd.data.toList) = FJ at *
            generalize (⟨(vPut i).toArray⟩ : ByteArray) = bj at *
            generalize (⟨(((ownT k p z l).take (i + 1)).flatMap fWrap).toArray⟩ : ByteArray) = bc at *
            have HBd2 : Hid (Below wE.heap.size wE wr.drew) := HB.out.drew
            have HE1 : Hid (∀ W, Below wr.drew.heap.size wr.drew W → W.cell? ⟨b, off + i * 3 + 1, none⟩ = some (.string xd) ∧ W.cell? ⟨w.heap.size, 3, none⟩ = some (.slice (some ⟨b, off, none⟩) j c)) := fun W hb =>
              ⟨(hb.cell (p := ⟨b, off + i * 3 + 1, none⟩) (Nat.lt_of_lt_of_le hbw (Nat.le_trans LOW.out.size HB.out.size))).trans e1, (HC.out W (HBd2.out.trans (hb.mono HBd2.out.size))).2.2.2⟩
            clear hci hkb hcl hbw hml hvt HTJ htl hsl0 hfe hvl
            go_wp2_with fail
            refine wp_region_noPanic ?_
            refine wp_region_held_drew (S := fun w' => Below wr.drew.heap.size wr.drew w') (by kernel_rfl) (Below.refl _ _) (fun hHeld => ?_)
            generalize wr.drew = wd at *
            have B_wd : Hid (Below wd.heap.size wd wd) := Below.refl _ _
            refine wpAnyH_take (i := 0) (v := .int .i64 (i : Int)) rfl (by kernel_rfl) (by kernel_rfl) (by kernel_rfl) (fun _ _ _ h => h) (Or.inl ⟨by kernel_rfl, ?_⟩) (by assumption) ?_
            · intro wz hSw
              go_simp
            try simp only [Act.put, List.getElem_toArray, List.getElem_cons_succ, List.getElem_cons_zero, List.setIfInBounds_toArray, List.set_cons_zero, List.set_cons_succ]
            refine wpAnyH_take (i := 1) (v := .int .u64 (i : Int)) rfl (by kernel_rfl) (by kernel_rfl) (by kernel_rfl) (fun _ _ _ h => h) (Or.inl ⟨by kernel_rfl, ?_⟩) (by assumption) ?_
            · intro wz hSw
              go_simp
              first | done | (rw [wrap_u64S _ (by omega)])
            try simp only [Act.put, List.getElem_toArray, List.getElem_cons_succ, List.getElem_cons_zero, List.setIfInBounds_toArray, List.set_cons_zero, List.set_cons_succ]
            refine wpAnyH_take (i := 3) (v := .pointer (some ⟨w.heap.size, 3, none⟩)) rfl (by kernel_rfl) (by kernel_rfl) (by kernel_rfl) (fun _ _ _ h => h) (Or.inl ⟨by kernel_rfl, ?_⟩) (by assumption) ?_
            · intro wz hSw
              go_simp
            try simp only [Act.put, List.getElem_toArray, List.getElem_cons_succ, List.getElem_cons_zero, List.setIfInBounds_toArray, List.set_cons_zero, List.set_cons_succ]
            refine wpAnyH_take (i := 4) (v := .slice (some ⟨b, off, none⟩) j c) rfl (by kernel_rfl) (by kernel_rfl) (by kernel_rfl) (fun _ _ _ h => h) (Or.inl ⟨by kernel_rfl, ?_⟩) (by assumption) ?_
            · intro wz hSw
              obtain ⟨hh, hg⟩ := HE1.out wz hSw
              go_simp
            try simp only [Act.put, List.getElem_toArray, List.getElem_cons_succ, List.getElem_cons_zero, List.setIfInBounds_toArray, List.set_cons_zero, List.set_cons_succ]
            refine wpAnyH_take (i := 5) (v := .int .i64 (i : Int)) rfl (by kernel_rfl) (by kernel_rfl) (by kernel_rfl) (fun _ _ _ h => h) (Or.inl ⟨by kernel_rfl, ?_⟩) (by assumption) ?_
            · intro wz hSw
              go_simp
            try simp only [Act.put, List.getElem_toArray, List.getElem_cons_succ, List.getElem_cons_zero, List.setIfInBounds_toArray, List.set_cons_zero, List.set_cons_succ]
            refine wpAnyH_take (i := 6) (v := .pointer (some ⟨b, off + i * 3, none⟩)) rfl (by kernel_rfl) (by kernel_rfl) (by kernel_rfl) (fun _ _ _ h => h) (Or.inl ⟨by kernel_rfl, ?_⟩) (by assumption) ?_
            · intro wz hSw
              go_simp
            try simp only [Act.put, List.getElem_toArray, List.getElem_cons_succ, List.getElem_cons_zero, List.setIfInBounds_toArray, List.set_cons_zero, List.set_cons_succ]
            refine wpAnyH_take (i := 7) (v := .pointer (some ⟨b, off + i * 3 + 1, none⟩)) rfl (by kernel_rfl) (by kernel_rfl) (by kernel_rfl) (fun _ _ _ h => h) (Or.inl ⟨by kernel_rfl, ?_⟩) (by assumption) ?_
            · intro wz hSw
              go_simp
            try simp only [Act.put, List.getElem_toArray, List.getElem_cons_succ, List.getElem_cons_zero, List.setIfInBounds_toArray, List.set_cons_zero, List.set_cons_succ]
            refine wpAnyH_take (i := 8) (v := .string xd) rfl (by kernel_rfl) (by kernel_rfl) (by kernel_rfl) (fun _ _ _ h => h) (Or.inl ⟨by kernel_rfl, ?_⟩) (by assumption) ?_
            · intro wz hSw
              obtain ⟨hh, hg⟩ := HE1.out wz hSw
              go_simp
            try simp only [Act.put, List.getElem_toArray, List.getElem_cons_succ, List.getElem_cons_zero, List.setIfInBounds_toArray, List.set_cons_zero, List.set_cons_succ]
            refine wpAnyH_ready (rs := [2]) (by kernel_rfl) (by simp) ?_
            refine AllReadyH.cons rfl (fun K hK => ?_) AllReadyH.nil
            go_simp
            go_at_call 30
            refine (HNJ.out wd).mono ?_
            rintro er v1 ⟨rfl, b1⟩
            have B_v1 : Hid (Below wd.heap.size wd v1) := Lib.hid (B_wd.out.trans (b1.mono B_wd.out.size))
            clear b1
            go_wp2_with fail
            refine hK.out _ _ B_v1.out (fun hHeld => ?_)
            clear hK K
            try simp only [Act.put, List.getElem_toArray, List.getElem_cons_succ, List.getElem_cons_zero, List.setIfInBounds_toArray, List.set_cons_zero, List.set_cons_succ]
            refine wpAnyH_take (i := 9) (v := .string (bj ++ xd)) rfl (by kernel_rfl) (by kernel_rfl) (by kernel_rfl) (fun _ _ _ h => h) (Or.inl ⟨by kernel_rfl, ?_⟩) (by assumption) ?_
            · intro wz hSw
              go_simp
              first | done | omega | ((try simp only [ByteArray.size_append]); omega)
            try simp only [Act.put, List.getElem_toArray, List.getElem_cons_succ, List.getElem_cons_zero, List.setIfInBounds_toArray, List.set_cons_zero, List.set_cons_succ]
            refine wpAnyH_ready (rs := [10]) (by kernel_rfl) (by simp) ?_
            refine AllReadyH.cons rfl (fun K hK => ?_) AllReadyH.nil
            go_simp
            go_at_call 31
            refine (HWJ.out v1).mono ?_
            rintro er v2 ⟨rfl, b1⟩
            have B_v2 : Hid (Below wd.heap.size wd v2) := Lib.hid (B_v1.out.trans (b1.mono B_v1.out.size))
            clear b1
            go_wp2_with fail
            refine hK.out _ _ B_v2.out (fun hHeld => ?_)
            clear hK K
            try simp only [Act.put, List.getElem_toArray, List.getElem_cons_succ, List.getElem_cons_zero, List.setIfInBounds_toArray, List.set_cons_zero, List.set_cons_succ]
            refine wpAnyH_take (i := 11) (v := .string FJ) rfl (by kernel_rfl) (by kernel_rfl) (by kernel_rfl) (fun _ _ _ h => h) (Or.inl ⟨by kernel_rfl, ?_⟩) (by assumption) ?_
            · intro wz hSw
              go_simp
            refine wpAnyH_done (by kernel_rfl) ?_ _
            refine NoPanic.normal ?_
            have HB5 := Lib.hid (HBd2.out.trans (B_v2.out.mono HBd2.out.size))
            go_wp2_with fail
            go_roundw
            case rel => exact ⟨i + 1, by omega, by go_num, by rw [HTM.out], HB5⟩
            case measure => simp [intOf]; omega
          · obtain rfl : i = j := by omega
            have HLr : Hid (Below w.heap.size w wr) := LOW.out.trans (HB.out.mono LOW.out.size)
            have HTE : Hid ((ownT k p z l).take (i + 1) = ownT k p z l) := by unfold Hid; rw [← HTN.out, List.take_length]
            rw [HTE.out]
            go_wp2_with fail
            go_ret
            exact ⟨by rw [HE.out]; rfl, HLr.out⟩
end Go.Proofs.YtfpofcfoeajkiaaGreat
