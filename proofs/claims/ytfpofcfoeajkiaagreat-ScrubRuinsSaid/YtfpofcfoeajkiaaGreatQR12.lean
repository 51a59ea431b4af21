/- Texts of this claim's author, packed: ScrWrite. Conditions: none. -/
import Derived.Test.YtfpofcfoeajkiaaGreatQR09
import Derived.Test.YtfpofcfoeajkiaaGreatQR10
import Derived.Test.YtfpofcfoeajkiaaGreatQR11
/- scrub.Write: its walk (printed by gen-scr-write.py). -/
namespace Go.Proofs.YtfpofcfoeajkiaaGreat
open Go.RowKit
set_option linter.unusedVariables false
set_option linter.unusedSimpArgs false
theorem one_readyS {P : Program} {md : Region.Mode} {ops : Array Oper} {Q : Exit → Act → World → Prop} {S : World → Prop} {fuel : Nat} {listed : Array Bool} {a : Act} {w : World} (i : Nat) (o : Oper) (hr : Region.ready md ops listed = [i]) (ho : ops[i]? = some o)
    (hw : Region.wanted o (yielded ops a.tmps) = true) (h : ∀ K' : Act → World → Prop, Shut (∀ a w, S w → (S w → wpAnyH P md ops Q S fuel (listed.setIfInBounds i true) a w) → K' a w) → Oper.wp P o a w K' Q) : wpAnyH P md ops Q S (fuel + 1) listed a w :=
  wpAnyH_ready hr (by simp) (AllReadyH.cons ho (fun K hK => by rw [if_pos hw]; exact h K hK) AllReadyH.nil)
/- plain -/
def headT (K P Z : Nat) (l : List Shd) : List UInt8 := vPut K ++ vPut P ++ vPut Z ++ sumsL l
def textsL : Nat → List Shd → List (List UInt8)
  | _, [] => []
  | i, x :: r => (vPut i ++ x.2.1.data.toList) :: textsL (i + 1) r
theorem textsL_len : ∀ (l : List Shd) (i : Nat), (textsL i l).length = l.length
  | [], _ => rfl
  | x :: r, i => by rw [textsL, List.length_cons, textsL_len r, List.length_cons]
theorem textsL_get : ∀ (l : List Shd) (i j : Nat) (h : j < l.length), (textsL i l)[j]? = some (vPut (i + j) ++ l[j].2.1.data.toList)
  | x :: r, i, 0, h => by simp [textsL]
  | x :: r, i, j + 1, h => by
    have := textsL_get r (i + 1) j (by simpa using h)
    rw [textsL, List.getElem?_cons_succ, this, show i + 1 + j = i + (j + 1) by omega]
    rfl
/-- the texts of a ward's frames -/
def ownT (K P Z : Int) (l : List Shd) : List (List UInt8) := headT K.toNat P.toNat Z.toNat l :: textsL 0 l
def fB (t : List UInt8) : ByteArray := ⟨(fWrap t).toArray⟩
def writeL (K P Z : Int) (l : List Shd) : List UInt8 := if fitW K P Z l = true then (ownT K P Z l).flatMap fWrap else []
theorem fB_ne {t : List UInt8} (h : t.length ≤ 65536) : fB t ≠ ⟨#[]⟩ := by
  intro e
  have h1 := fWrap_len t h
  have : (fB t).data.toList.length = 0 := by rw [e]; rfl
  simp [fB] at this
  rw [this] at h1
  simp at h1
theorem vPut_len9 (n : Nat) (h : n < 18446744073709551616) : (vPut n).length ≤ 10 := vPut_len10 n h
theorem fitW_get {K P Z : Int} {l : List Shd} (h : fitW K P Z l = true) : (0 < K ∧ K ≤ 16) ∧ (0 < P ∧ P ≤ 16) ∧ (0 ≤ Z ∧ Z ≤ 65536) ∧ (l.length : Int) = K + P ∧ ∀ i (h : i < l.length), l[i].1 = (i : Int) ∧ l[i].2.2.size = 32 := by
  unfold fitW fewK at h
  simp only [Bool.and_eq_true, decide_eq_true_eq] at h
  refine ⟨h.1.1.1.1, h.1.1.1.2, h.1.1.2, h.1.2, fun i hi => ?_⟩
  have := fitL_get h.2 i hi
  rwa [Nat.zero_add] at this
theorem str_ne_b {a b : ByteArray} (h : a ≠ b) : (a.toList == b.toList) = false := by
  rw [beq_eq_false_iff_ne, ByteArray.toList_eq, ByteArray.toList_eq]
  exact fun e => h (ByteArray.ext (Array.toList_inj.1 e))
theorem grown_of_belowS {a w : World} (h : Below a.heap.size a w) (row : Option Nat) : a.grownBy w row := ⟨h.os, h.tape, h.output, h.size, fun i hi _ => h.block i hi⟩
theorem ownT_len {K P Z : Int} {l : List Shd} (h : fitW K P Z l = true) (hd : ∀ x ∈ l, x.2.1.size ≤ 60000) : ∀ t ∈ ownT K P Z l, t.length ≤ 65536 := by
  obtain ⟨⟨k1, k2⟩, ⟨p1, p2⟩, ⟨z1, z2⟩, hl, hg⟩ := fitW_get h
  intro t ht
  rcases List.mem_cons.1 ht with rfl | ht
  · have a1 := vPut_len9 K.toNat (by omega)
    have a2 := vPut_len9 P.toNat (by omega)
    have a3 := vPut_len9 Z.toNat (by omega)
    have a4 := sumsL_len (l := l) (fun x hx => by obtain ⟨i, hi, rfl⟩ := List.getElem_of_mem hx; exact (hg i hi).2)
    unfold headT
    simp only [List.length_append]
    omega
  · obtain ⟨i, hi, rfl⟩ := List.getElem_of_mem ht
    have hi' : i < l.length := by rwa [textsL_len] at hi
    have e := textsL_get l 0 i hi'
    rw [List.getElem?_eq_getElem hi] at e
    rw [Option.some.inj e, List.length_append]
    have a1 := vPut_len9 (0 + i) (by omega)
    have a2 := hd l[i] (List.getElem_mem _)
    have : l[i].2.1.data.toList.length = l[i].2.1.size := by simp
    omega
set_option maxRecDepth 20000 in
set_option maxHeartbeats 4000000 in
theorem index_no (w : World) (v : Value) (l : List ByteArray) (s : ByteArray) (h : StrsB w v l) (hl : l.length ≤ 100000) (hn : ∀ x ∈ l, x ≠ s) :
    Calls Tryz.prog 54 #[v, .string s] w fun e w' => e = .returned (.int .i64 (-1)) ∧ Below w.heap.size w w' := by
  obtain ⟨A, c, rfl, h1, h2⟩ := h.len
  have hc9 : c ≤ 9223372036854775807 := by unfold maxLen at h2; omega
  have HC := Lib.hid h.cells
  have HNE := Lib.hid hn
  obtain ⟨n, hn'⟩ : ∃ n, n = l.length := ⟨_, rfl⟩
  have HN := Lib.hid hn'
  rw [← hn'] at h1 hl ⊢
  clear hn' h hn h2
  go_enter Tryz.func54, Tryz.ntmps54
  go_wp2_with fail
  go_loopw [8] (fun a wr => ∃ j : Nat, j ≤ n ∧ a = .int .i64 j ∧ Hid (Below w.heap.size w wr)) (fun a _ => n - (intOf a).toNat)
  case atStart => exact ⟨0, Nat.zero_le _, rfl, Below.refl _ _⟩
  case round =>
    obtain ⟨j, hj, rfl, HB⟩ := hrel
    by_cases hlt : j < n
    · have hlt' : (j : Int) < n := by omega
      obtain ⟨b, off, rfl, hbw, hcl⟩ := HC.out (by have := HN.out; omega)
      have hml : j < l.length := by have := HN.out; omega
      have e0 := (World.cell?_of_block (HB.out.block b hbw)).trans (hcl j hml)
      have hne := str_ne_b (fun e => HNE.out l[j] (List.getElem_mem hml) e.symm : s ≠ l[j])
      generalize l[j] = x at *
      clear hcl hml
      go_wp2_with fail
      go_roundw
      case rel => exact ⟨j + 1, by omega, by go_num, HB⟩
      case measure => simp [intOf]; omega
    · obtain rfl : j = n := by omega
      go_wp2_with fail
      go_ret
      exact ⟨rfl, HB.out⟩
theorem contains_no (w : World) (v : Value) (l : List ByteArray) (s : ByteArray) (h : StrsB w v l) (hl : l.length ≤ 100000) (hn : ∀ x ∈ l, x ≠ s) :
    Calls Tryz.prog 27 #[v, .string s] w fun e w' => e = .returned (.bool false) ∧ Below w.heap.size w w' := by
  have HI := Lib.hid (index_no w v l s h hl hn)
  obtain ⟨A, c, rfl, h1, h2⟩ := h.len
  clear h hn h1 h2
  go_enter Tryz.func27, Tryz.ntmps27
  go_wp2_with fail
  refine HI.out.mono ?_
  rintro e w1 ⟨rfl, b1⟩
  have HB := Lib.hid b1
  clear b1
  go_wp2_with fail
  go_ret
  exact ⟨rfl, HB.out⟩
theorem join_nilS : ∀ xs : List (List UInt8), Lib.join xs [] = xs.flatten
  | [] => rfl
  | [x] => by simp [Lib.join]
  | x :: y :: r => by
    have h := join_nilS (y :: r)
    simp [Lib.join] at h ⊢
    exact h
theorem fwrap_len_le {t : List UInt8} (h : t.length ≤ 65536) : (fWrap t).length ≤ 70000 := by
  rw [fWrap_len t h]
  have := vPut_len9 t.length (by omega)
  omega
theorem sum_fwrap : ∀ (T : List (List UInt8)), (∀ t ∈ T, t.length ≤ 65536) → (T.flatMap fWrap).length ≤ 70000 * T.length
  | [], _ => by simp
  | t :: T, h => by
    have h1 := fwrap_len_le (h t (by simp))
    have h2 := sum_fwrap T (fun x hx => h x (by simp [hx]))
    rw [List.flatMap_cons, List.length_append, List.length_cons]
    omega
/-- strings.Join of frames -/
theorem joinF_any (w : World) (v : Value) (T : List (List UInt8)) (h : StrsB w v (T.map fB)) (h0 : 0 < T.length) (hl : T.length ≤ 10000) (hT : ∀ t ∈ T, t.length ≤ 65536) :
    Calls Tryz.prog 28 #[v, .string ⟨#[]⟩] w fun e w' => e = .returned (.string ⟨(T.flatMap fWrap).toArray⟩) ∧ Below w.heap.size w w' := by
  obtain ⟨A, c, rfl, h1, h2⟩ := h.len
  obtain ⟨b, o, rfl, hb, hc⟩ := h.cells (by rw [List.length_map]; exact h0)
  have hj : Lib.join ((T.map fB).map (·.data.toList)) (⟨#[]⟩ : ByteArray).data.toList = T.flatMap fWrap := by
    have : (T.map fB).map (·.data.toList) = T.map fWrap := by rw [List.map_map]; congr 1
    rw [this]
    exact (join_nilS _).trans (by rw [List.flatMap_def])
  have := Tryz.strings_Join b o c (T.map fB) ⟨#[]⟩ w (fun j x hx => by
    have hjl : j < (T.map fB).length := (List.getElem?_eq_some_iff.1 hx).1
    rw [hc j hjl]; rw [List.getElem?_eq_getElem hjl] at hx; injection hx with hx; rw [hx]) hb (by rw [List.length_map]; omega) h1 (by rw [hj]; have := sum_fwrap T hT; omega)
  rw [hj] at this
  exact this
set_option maxRecDepth 20000 in
set_option maxHeartbeats 8000000 in
theorem pwrite_any (w : World) (K P Z : Int) (v : Value) (l : List Shd) (h : ShdB w v l) (hl : l.length ≤ 1000) (hd : ∀ x ∈ l, x.2.1.size ≤ 60000 ∧ x.2.2.size ≤ 1000) :
    Calls Tryz.prog 9 #[.agg #[.int .i64 K, .int .i64 P, .int .i64 Z, v]] w fun e w' => e = .returned (.string ⟨(writeL K P Z l).toArray⟩) ∧ Below w.heap.size w w' := by
  have HSH := Lib.hid h
  obtain ⟨A, c, rfl, h1, h2, h3⟩ := h
  have hc9 : c ≤ 9223372036854775807 := by unfold maxLen at h2; omega
  obtain ⟨n, hn⟩ : ∃ n, n = l.length := ⟨_, rfl⟩
  have HN := Lib.hid hn
  have H3 := Lib.hid h3
  have HD := Lib.hid hd
  rw [← hn] at h1 hl HSH ⊢
  clear h3 hd hn h2
  obtain ⟨wE, hwE⟩ : ∃ wE, wE = w.alloc (.cells #[.int .i64 K, .int .i64 P, .int .i64 Z, .slice A n c] 24) := ⟨_, rfl⟩
  have HWE := Lib.hid hwE.symm
  have LOW : Hid (Below w.heap.size w wE) := by rw [hwE]; exact (Below.refl _ _).alloc (Nat.le_refl _) _
  have hbx : wE.heap[w.heap.size]? = some (.cells #[.int .i64 K, .int .i64 P, .int .i64 Z, .slice A n c] 24) := by rw [hwE]; exact World.alloc_heap_new w _
  have HC : Hid (∀ W, Below wE.heap.size wE W → W.cell? ⟨w.heap.size, 0, none⟩ = some (.int .i64 K) ∧ W.cell? ⟨w.heap.size, 1, none⟩ = some (.int .i64 P) ∧ W.cell? ⟨w.heap.size, 2, none⟩ = some (.int .i64 Z) ∧ W.cell? ⟨w.heap.size, 3, none⟩ = some (.slice A n c)) := fun W hb => ward_cells ((hb.block _ (Array.getElem?_eq_some_iff.1 hbx).1).trans hbx)
  obtain ⟨x0, x1, x2, x3⟩ := HC.out wE (Below.refl _ _)
  have HFT := Lib.hid (pfit_any wE K P Z _ l (HSH.out.below LOW.out (Nat.le_refl _)) (by have := HN.out; omega) (fun x hx => by have := (HD.out x hx).2; omega))
  clear hwE hbx
  cases hf : fitW K P Z l with
  | false =>
    have HE : Hid (writeL K P Z l = []) := by unfold Hid writeL; rw [hf]; rfl
    rw [hf] at HFT
    clear hf
    go_enter Tryz.func9, Tryz.ntmps9
    go_wp2_with fail
    rw [HWE.out]
    go_wp2_with fail
    refine HFT.out.mono ?_
    rintro e w1 ⟨rfl, b1⟩
    have HB := Lib.hid (LOW.out.trans (b1.mono LOW.out.size))
    clear b1
    go_wp2_with fail
    go_ret
    exact ⟨by rw [HE.out]; rfl, HB.out⟩
  | true =>
    have HE : Hid (writeL K P Z l = (ownT K P Z l).flatMap fWrap) := by unfold Hid writeL; rw [hf]; rfl
    rw [hf] at HFT
    have HTL := Lib.hid (ownT_len hf (fun x hx => (HD.out x hx).1))
    obtain ⟨⟨k1, k2⟩, ⟨p1, p2⟩, ⟨z1, z2⟩, hlen, hg⟩ := fitW_get hf
    have HG := Lib.hid hg
    have HTN : Hid ((ownT K P Z l).length = n + 1) := by unfold Hid ownT; rw [List.length_cons, textsL_len, HN.out]
    have HT0 : Hid ((ownT K P Z l).take 1 = [headT K.toNat P.toNat Z.toNat l]) := rfl
    have HTG : Hid (∀ j (h : j < l.length), (ownT K P Z l).take (j + 2) = (ownT K P Z l).take (j + 1) ++ [vPut j ++ l[j].2.1.data.toList]) := fun j hj => by
      have e := textsL_get l 0 j hj
      have hjl : j + 1 < (ownT K P Z l).length := by rw [HTN.out, HN.out]; omega
      rw [show j + 2 = j + 1 + 1 by omega, List.take_succ_eq_append_getElem hjl]
      congr 2
      have e2 : (ownT K P Z l)[j + 1]? = some (vPut (0 + j) ++ l[j].2.1.data.toList) := e
      rw [List.getElem?_eq_getElem hjl, Nat.zero_add] at e2
      exact Option.some.inj e2
    have HSM := Lib.hid (fun W (hb : Below wE.heap.size wE W) => sums_any W K P Z _ l ((HSH.out.below LOW.out (Nat.le_refl _)).below hb (Nat.le_refl _)) (by have := HN.out; omega) (by intro e; rw [e] at hlen; simp at hlen; omega) (fun x hx => by obtain ⟨i, hi, rfl⟩ := List.getElem_of_mem hx; exact (hg i hi).2))
    have hsml := sumsL_len (l := l) (fun x hx => by obtain ⟨i, hi, rfl⟩ := List.getElem_of_mem hx; exact (hg i hi).2)
    obtain ⟨k, rfl⟩ := Int.eq_ofNat_of_zero_le (show 0 ≤ K by omega)
    obtain ⟨p, rfl⟩ := Int.eq_ofNat_of_zero_le (show 0 ≤ P by omega)
    obtain ⟨z, rfl⟩ := Int.eq_ofNat_of_zero_le z1
    have HN1 := Lib.hid (fun W => number_any k (by omega) W)
    have HN2 := Lib.hid (fun W => number_any p (by omega) W)
    have HN3 := Lib.hid (fun W => number_any z (by omega) W)
    have a1 : (⟨(vPut k).toArray⟩ : ByteArray).size ≤ 10 := by have := vPut_len9 k (by omega); simpa [ByteArray.size] using this
    have a2 : (⟨(vPut p).toArray⟩ : ByteArray).size ≤ 10 := by have := vPut_len9 p (by omega); simpa [ByteArray.size] using this
    have a3 : (⟨(vPut z).toArray⟩ : ByteArray).size ≤ 10 := by have := vPut_len9 z (by omega); simpa [ByteArray.size] using this
    have a4 : (⟨(sumsL l).toArray⟩ : ByteArray).size ≤ 32000 := by
      have : (⟨(sumsL l).toArray⟩ : ByteArray).size = (sumsL l).length := by simp [ByteArray.size]
      rw [this]; have := HN.out; omega
    have HHT : Hid (((⟨(vPut k).toArray⟩ : ByteArray) ++ ⟨(vPut p).toArray⟩ ++ ⟨(vPut z).toArray⟩ ++ ⟨(sumsL l).toArray⟩).data.toList = headT k p z l) := by unfold Hid headT; simp
    generalize (⟨(vPut k).toArray⟩ : ByteArray) = b1 at *
    generalize (⟨(vPut p).toArray⟩ : ByteArray) = b2 at *
    generalize (⟨(vPut z).toArray⟩ : ByteArray) = b3 at *
    generalize (⟨(sumsL l).toArray⟩ : ByteArray) = b4 at *
    have HWR := Lib.hid (fun W => wrap_any (b1 ++ b2 ++ b3 ++ b4) (by simp only [ByteArray.size_append]; omega) W)
    rw [HHT.out] at HWR
    have HF0 : Hid ([fB (headT k p z l)] = ((ownT k p z l).take 1).map fB) := by unfold Hid; rw [HT0.out]; rfl
    have hfb : (⟨(fWrap (headT k p z l)).toArray⟩ : ByteArray) = fB (headT k p z l) := rfl
    rw [hfb] at HWR
    generalize fB (headT k p z l) = F0 at *
    clear hf hfb hg hlen HT0 HHT hsml k1 p1 z1
    have HBd0 : Hid (Below wE.heap.size wE wE) := Below.refl _ _
    go_enter Tryz.func9, Tryz.ntmps9
    go_wp2_with fail
    rw [HWE.out]
    go_wp2_with fail
    refine HFT.out.mono ?_
    rintro e w1 ⟨rfl, r1⟩
    have HBd : Hid (Below wE.heap.size wE w1.drew) := r1.drew
    clear r1 x0 x1 x2 x3
    go_wp2_with fail
    refine wp_region_noPanic ?_
    refine wp_region_held_drew (S := fun w' => Below w1.drew.heap.size w1.drew w') (by kernel_rfl) (Below.refl _ _) (fun hHeld => ?_)
    generalize w1.drew = wd at *
    have B_wd : Hid (Below wd.heap.size wd wd) := Below.refl _ _
    have GX : Hid (∀ w', Below wd.heap.size wd w' → w'.cell? ⟨w.heap.size, 0, none⟩ = some (.int .i64 k) ∧ w'.cell? ⟨w.heap.size, 1, none⟩ = some (.int .i64 p) ∧ w'.cell? ⟨w.heap.size, 2, none⟩ = some (.int .i64 z) ∧ w'.cell? ⟨w.heap.size, 3, none⟩ = some (.slice A n c)) := fun w' hb => HC.out w' (HBd.out.trans (hb.mono HBd.out.size))
    have HSM2 := Lib.hid (fun W (hb : Below wd.heap.size wd W) => HSM.out W (HBd.out.trans (hb.mono HBd.out.size)))
    refine wpAnyH_take (i := 0) (v := .pointer (some ⟨w.heap.size, 0, none⟩)) rfl (by kernel_rfl) (by kernel_rfl) (by kernel_rfl) (fun _ _ _ h => h) (Or.inl ⟨by kernel_rfl, ?_⟩) (by assumption) ?_
    · intro wz hSw
      go_simp
    try simp only [Act.put, List.getElem_toArray, List.getElem_cons_succ, List.getElem_cons_zero, List.setIfInBounds_toArray, List.set_cons_zero, List.set_cons_succ]
    refine wpAnyH_take (i := 1) (v := .int .i64 (k : Int)) rfl (by kernel_rfl) (by kernel_rfl) (by kernel_rfl) (fun _ _ _ h => h) (Or.inl ⟨by kernel_rfl, ?_⟩) (by assumption) ?_
    · intro wz hSw
      obtain ⟨hh, hg, hi, hj⟩ := GX.out wz hSw
      go_simp
    try simp only [Act.put, List.getElem_toArray, List.getElem_cons_succ, List.getElem_cons_zero, List.setIfInBounds_toArray, List.set_cons_zero, List.set_cons_succ]
    refine wpAnyH_take (i := 3) (v := .pointer (some ⟨w.heap.size, 1, none⟩)) rfl (by kernel_rfl) (by kernel_rfl) (by kernel_rfl) (fun _ _ _ h => h) (Or.inl ⟨by kernel_rfl, ?_⟩) (by assumption) ?_
    · intro wz hSw
      go_simp
    try simp only [Act.put, List.getElem_toArray, List.getElem_cons_succ, List.getElem_cons_zero, List.setIfInBounds_toArray, List.set_cons_zero, List.set_cons_succ]
    refine wpAnyH_take (i := 4) (v := .int .i64 (p : Int)) rfl (by kernel_rfl) (by kernel_rfl) (by kernel_rfl) (fun _ _ _ h => h) (Or.inl ⟨by kernel_rfl, ?_⟩) (by assumption) ?_
    · intro wz hSw
      obtain ⟨hh, hg, hi, hj⟩ := GX.out wz hSw
      go_simp
    try simp only [Act.put, List.getElem_toArray, List.getElem_cons_succ, List.getElem_cons_zero, List.setIfInBounds_toArray, List.set_cons_zero, List.set_cons_succ]
    refine wpAnyH_take (i := 7) (v := .pointer (some ⟨w.heap.size, 2, none⟩)) rfl (by kernel_rfl) (by kernel_rfl) (by kernel_rfl) (fun _ _ _ h => h) (Or.inl ⟨by kernel_rfl, ?_⟩) (by assumption) ?_
    · intro wz hSw
      go_simp
    try simp only [Act.put, List.getElem_toArray, List.getElem_cons_succ, List.getElem_cons_zero, List.setIfInBounds_toArray, List.set_cons_zero, List.set_cons_succ]
    refine wpAnyH_take (i := 8) (v := .int .i64 (z : Int)) rfl (by kernel_rfl) (by kernel_rfl) (by kernel_rfl) (fun _ _ _ h => h) (Or.inl ⟨by kernel_rfl, ?_⟩) (by assumption) ?_
    · intro wz hSw
      obtain ⟨hh, hg, hi, hj⟩ := GX.out wz hSw
      go_simp
    try simp only [Act.put, List.getElem_toArray, List.getElem_cons_succ, List.getElem_cons_zero, List.setIfInBounds_toArray, List.set_cons_zero, List.set_cons_succ]
    refine wpAnyH_take (i := 11) (v := .agg #[.int .i64 (k : Int), .int .i64 (p : Int), .int .i64 (z : Int), .slice A n c]) rfl (by kernel_rfl) (by kernel_rfl) (by kernel_rfl) (fun _ _ _ h => h) (Or.inl ⟨by kernel_rfl, ?_⟩) (by assumption) ?_
    · intro wz hSw
      obtain ⟨hh, hg, hi, hj⟩ := GX.out wz hSw
      go_simp
    try simp only [Act.put, List.getElem_toArray, List.getElem_cons_succ, List.getElem_cons_zero, List.setIfInBounds_toArray, List.set_cons_zero, List.set_cons_succ]
    refine wpAnyH_ready (rs := [2]) (by kernel_rfl) (by simp) ?_
    refine AllReadyH.cons rfl (fun K hK => ?_) AllReadyH.nil
    go_simp
    go_at_call 25
    refine (HN1.out wd).mono ?_
    rintro er u1 ⟨rfl, b1⟩
    have B_u1 : Hid (Below wd.heap.size wd u1) := Lib.hid (B_wd.out.trans (b1.mono B_wd.out.size))
    clear b1
    go_wp2_with fail
    refine hK.out _ _ B_u1.out (fun hHeld => ?_)
    clear hK K
    try simp only [Act.put, List.getElem_toArray, List.getElem_cons_succ, List.getElem_cons_zero, List.setIfInBounds_toArray, List.set_cons_zero, List.set_cons_succ]
    refine wpAnyH_ready (rs := [5]) (by kernel_rfl) (by simp) ?_
    refine AllReadyH.cons rfl (fun K hK => ?_) AllReadyH.nil
    go_simp
    go_at_call 25
    refine (HN2.out u1).mono ?_
    rintro er u2 ⟨rfl, b1⟩
    have B_u2 : Hid (Below wd.heap.size wd u2) := Lib.hid (B_u1.out.trans (b1.mono B_u1.out.size))
    clear b1
    go_wp2_with fail
    refine hK.out _ _ B_u2.out (fun hHeld => ?_)
    clear hK K
    try simp only [Act.put, List.getElem_toArray, List.getElem_cons_succ, List.getElem_cons_zero, List.setIfInBounds_toArray, List.set_cons_zero, List.set_cons_succ]
    refine wpAnyH_take (i := 6) (v := .string (b1 ++ b2)) rfl (by kernel_rfl) (by kernel_rfl) (by kernel_rfl) (fun _ _ _ h => h) (Or.inl ⟨by kernel_rfl, ?_⟩) (by assumption) ?_
    · intro wz hSw
      go_simp
      first | done | omega | ((try simp only [ByteArray.size_append]); omega)
    try simp only [Act.put, List.getElem_toArray, List.getElem_cons_succ, List.getElem_cons_zero, List.setIfInBounds_toArray, List.set_cons_zero, List.set_cons_succ]
    refine wpAnyH_ready (rs := [9]) (by kernel_rfl) (by simp) ?_
    refine AllReadyH.cons rfl (fun K hK => ?_) AllReadyH.nil
    go_simp
    go_at_call 25
    refine (HN3.out u2).mono ?_
    rintro er u3 ⟨rfl, b1⟩
    have B_u3 : Hid (Below wd.heap.size wd u3) := Lib.hid (B_u2.out.trans (b1.mono B_u2.out.size))
    clear b1
    go_wp2_with fail
    refine hK.out _ _ B_u3.out (fun hHeld => ?_)
    clear hK K
    try simp only [Act.put, List.getElem_toArray, List.getElem_cons_succ, List.getElem_cons_zero, List.setIfInBounds_toArray, List.set_cons_zero, List.set_cons_succ]
    refine wpAnyH_take (i := 10) (v := .string (b1 ++ b2 ++ b3)) rfl (by kernel_rfl) (by kernel_rfl) (by kernel_rfl) (fun _ _ _ h => h) (Or.inl ⟨by kernel_rfl, ?_⟩) (by assumption) ?_
    · intro wz hSw
      go_simp
      first | done | omega | ((try simp only [ByteArray.size_append]); omega)
    try simp only [Act.put, List.getElem_toArray, List.getElem_cons_succ, List.getElem_cons_zero, List.setIfInBounds_toArray, List.set_cons_zero, List.set_cons_succ]
    refine wpAnyH_ready (rs := [12]) (by kernel_rfl) (by simp) ?_
    refine AllReadyH.cons rfl (fun K hK => ?_) AllReadyH.nil
    go_simp
    go_at_call 26
    refine (HSM2.out u3 B_u3.out).mono ?_
    rintro er u4 ⟨rfl, b1⟩
    have B_u4 : Hid (Below wd.heap.size wd u4) := Lib.hid (B_u3.out.trans (b1.mono B_u3.out.size))
    clear b1
    go_wp2_with fail
    refine hK.out _ _ B_u4.out (fun hHeld => ?_)
    clear hK K
    try simp only [Act.put, List.getElem_toArray, List.getElem_cons_succ, List.getElem_cons_zero, List.setIfInBounds_toArray, List.set_cons_zero, List.set_cons_succ]
    refine wpAnyH_take (i := 13) (v := .string (b1 ++ b2 ++ b3 ++ b4)) rfl (by kernel_rfl) (by kernel_rfl) (by kernel_rfl) (fun _ _ _ h => h) (Or.inl ⟨by kernel_rfl, ?_⟩) (by assumption) ?_
    · intro wz hSw
      go_simp
      first | done | omega | ((try simp only [ByteArray.size_append]); omega)
    try simp only [Act.put, List.getElem_toArray, List.getElem_cons_succ, List.getElem_cons_zero, List.setIfInBounds_toArray, List.set_cons_zero, List.set_cons_succ]
    refine wpAnyH_ready (rs := [14]) (by kernel_rfl) (by simp) ?_
    refine AllReadyH.cons rfl (fun K hK => ?_) AllReadyH.nil
    go_simp
    go_at_call 24
    refine (HWR.out u4).mono ?_
    rintro er u5 ⟨rfl, b1⟩
    have B_u5 : Hid (Below wd.heap.size wd u5) := Lib.hid (B_u4.out.trans (b1.mono B_u4.out.size))
    clear b1
    go_wp2_with fail
    refine hK.out _ _ B_u5.out (fun hHeld => ?_)
    clear hK K
    try simp only [Act.put, List.getElem_toArray, List.getElem_cons_succ, List.getElem_cons_zero, List.setIfInBounds_toArray, List.set_cons_zero, List.set_cons_succ]
    refine wpAnyH_ready (rs := [15]) (by kernel_rfl) (by simp) ?_
    refine AllReadyH.cons rfl (fun K hK => ?_) AllReadyH.nil
    go_simp
    have B_u6 : Hid (Below wd.heap.size wd (u5.alloc (.cells #[.string F0] 9))) := B_u5.out.alloc B_u5.out.size _
    go_wp2_with fail
    refine hK.out _ _ B_u6.out (fun hHeld => ?_)
    clear hK K
    try simp only [Act.put, List.getElem_toArray, List.getElem_cons_succ, List.getElem_cons_zero, List.setIfInBounds_toArray, List.set_cons_zero, List.set_cons_succ]
    refine wpAnyH_take (i := 16) (v := .slice (some ⟨u5.heap.size, 0, none⟩) 1 1) rfl (by kernel_rfl) (by kernel_rfl) (by kernel_rfl) (fun _ _ _ h => h) (Or.inl ⟨by kernel_rfl, ?_⟩) (by assumption) ?_
    · intro wz hSw
      go_simp
    refine wpAnyH_done (by kernel_rfl) ?_ _
    refine NoPanic.normal ?_
    have hown0 : (u5.alloc (.cells #[.string F0] 9)).ownsRow wE.heap.size 9 1 (.slice (some ⟨u5.heap.size, 0, none⟩) 1 1) [F0].length ([F0].map .string) :=
      ⟨rfl, .inr ⟨u5.heap.size, 1, #[.string F0], rfl, Nat.le_trans HBd.out.size B_u5.out.size, (by show (u5.heap.push _)[u5.heap.size]? = _; simp), Nat.le_refl _, by unfold maxLen; omega, rfl, rfl⟩⟩
    have HO0 : Hid ((u5.alloc (.cells #[.string F0] 9)).ownsRow wE.heap.size 9 1 (.slice (some ⟨u5.heap.size, 0, none⟩) 1 1) ((ownT k p z l).take 1).length (((ownT k p z l).take 1).map fun t => .string (fB t))) := by
      unfold Hid
      rw [HF0.out, List.length_map, List.map_map] at hown0
      exact hown0
    have HB6 : Hid (Below wE.heap.size wE (u5.alloc (.cells #[.string F0] 9))) := HBd.out.trans (B_u6.out.mono HBd.out.size)
    clear hown0 HF0
    generalize hu6 : u5.alloc (.cells #[.string F0] 9) = u6 at *
    clear hu6
    obtain ⟨y0, y1, y2, y3⟩ := HC.out u6 HB6.out
    go_wp2_with fail
    clear y0 y1 y2 y3 HSM
    go_loopw [3, 28] (fun o a wr => ∃ j : Nat, j ≤ n ∧ a = .int .i64 j ∧ Hid (wr.ownsRow wE.heap.size 9 1 o ((ownT k p z l).take (j + 1)).length (((ownT k p z l).take (j + 1)).map fun t => .string (fB t))) ∧ Hid (Below wE.heap.size wE wr)) (fun _ a _ => n - (intOf a).toNat)
    case atStart => exact ⟨0, Nat.zero_le _, rfl, HO0, HB6⟩
    case round =>
      obtain ⟨j, hj, rfl, HO, HB⟩ := hrel
      clear HO0 HB6
      by_cases hlt : j < n
      · have hlt' : (j : Int) < n := by omega
        obtain ⟨b, off, rfl, hbw, hcl⟩ := H3.out (by have := HN.out; omega)
        have hml : j < l.length := by have := HN.out; omega
        have hci := hcl j hml
        have hkb := ((HB.out.mono (B' := w.heap.size) LOW.out.size).block b hbw).trans (LOW.out.block b hbw)
        have e0 := (World.cell?_of_block hkb).trans hci.1
        have e1 := (World.cell?_of_block hkb).trans hci.2.1
        have e2 := (World.cell?_of_block hkb).trans hci.2.2
        have hgj := (HG.out j hml).1
        have hdj := (HD.out l[j] (List.getElem_mem hml)).1
        have HTJ := Lib.hid (HTG.out j hml)
        generalize l[j] = x at *
        obtain ⟨xn, xd, xs⟩ := x
        dsimp only at e0 e1 e2 hgj hdj HTJ
        subst hgj
        have HNJ := Lib.hid (fun W => number_any j (by omega) W)
        have a5 : (⟨(vPut j).toArray⟩ : ByteArray).size ≤ 10 := by have := vPut_len9 j (by omega); simpa [ByteArray.size] using this
        have hvt : ((⟨(vPut j).toArray⟩ : ByteArray) ++ xd).data.toList = vPut j ++ xd.data.toList := by simp
        have HWJ := Lib.hid (fun W => wrap_any ((⟨(vPut j).toArray⟩ : ByteArray) ++ xd) (by simp only [ByteArray.size_append]; omega) W)
        rw [hvt] at HWJ
        have HTM : Hid ((((ownT k p z l).take (j + 1)).map fB) ++ [(⟨(fWrap (vPut j ++ xd.data.toList)).toArray⟩ : ByteArray)] = ((ownT k p z l).take (j + 2)).map fB) := by unfold Hid; rw [HTJ.out, List.map_append]; rfl
        generalize (⟨(fWrap (vPut j ++ xd.data.toList)).toArray⟩ : ByteArray) = FJ at *
        generalize (⟨(vPut j).toArray⟩ : ByteArray) = bj at *
        have hlr : (((ownT k p z l).take (j + 1)).map fB).length ≤ 1000 + 1 := by rw [List.length_map, List.length_take]; omega
        have HOR : Hid (wr.ownsRow wE.heap.size 9 1 u3 (((ownT k p z l).take (j + 1)).map fB).length ((((ownT k p z l).take (j + 1)).map fB).map .string)) := by
          have := HO.out
          unfold Hid
          rw [List.length_map, List.map_map]
          exact this
        generalize ((ownT k p z l).take (j + 1)).map fB = out at *
        have hb1 : Below wr.heap.size wr (wr.alloc (.cells #[.int .i64 (j : Int), .string xd, .string xs] 46)) := (Below.refl _ _).alloc (Nat.le_refl _) _
        obtain ⟨w2, hw2⟩ : ∃ w2, w2 = wr.alloc (.cells #[.int .i64 (j : Int), .string xd, .string xs] 46) := ⟨_, rfl⟩
        have hw2h : w2.heap[wr.heap.size]? = some (.cells #[.int .i64 (j : Int), .string xd, .string xs] 46) := by rw [hw2]; exact World.alloc_heap_new _ _
        rw [← hw2] at hb1
        have HW2 := Lib.hid hw2.symm
        have HOd : Hid (w2.drew.ownsRow wE.heap.size 9 1 u3 out.length (out.map .string)) := by
          have := HOR.out
          unfold Hid; rw [hw2]; exact this.alloc _
        have HBd2 : Hid (Below wE.heap.size wE w2.drew) := (HB.out.trans (hb1.mono HB.out.size)).drew
        have HXc : Hid (wr.heap.size < w2.drew.heap.size ∧ w2.drew.heap[wr.heap.size]? = some (.cells #[.int .i64 (j : Int), .string xd, .string xs] 46)) := ⟨(Array.getElem?_eq_some_iff.1 hw2h).1, hw2h⟩
        clear hci hkb hcl hbw hw2 hw2h hb1 HO hvt HTJ
        go_wp2_with fail
        rw [HW2.out]
        have HX0 : Hid (w2.drew.cell? ⟨wr.heap.size, 0, none⟩ = some (.int .i64 j) ∧ w2.drew.cell? ⟨wr.heap.size, 1, none⟩ = some (.string xd)) := by
          refine ⟨?_, ?_⟩ <;> (unfold World.cell?; rw [HXc.out.2]; rfl)
        have HU3 : Hid (∀ q, u3.ownBlock = some q → q ≠ wr.heap.size) := fun q hq e => by
          have := (HOR.out.lt q hq).2
          omega
        refine wp_region_noPanic ?_
        refine wp_region_held_drew (S := fun w' => w'.cell? ⟨wr.heap.size, 0, none⟩ = some (.int .i64 j) ∧ w'.cell? ⟨wr.heap.size, 1, none⟩ = some (.string xd)) (by kernel_rfl) HX0.out (fun hHeld => ?_)
        generalize w2.drew = wd at *
        have B_wd : Hid (Below wd.heap.size wd wd) := Below.refl _ _
        have GX : Hid (∀ w', Below wd.heap.size wd w' → w'.cell? ⟨wr.heap.size, 0, none⟩ = some (.int .i64 j) ∧ w'.cell? ⟨wr.heap.size, 1, none⟩ = some (.string xd)) := fun w' hb => by
          have hk := (hb.block _ HXc.out.1).trans HXc.out.2
          refine ⟨?_, ?_⟩ <;> (unfold World.cell?; rw [hk]; rfl)
        refine wpAnyH_take (i := 0) (v := u3) rfl (by kernel_rfl) (by kernel_rfl) (by kernel_rfl) (fun _ _ _ h => h) (Or.inl ⟨by kernel_rfl, ?_⟩) (by assumption) ?_
        · intro wz hSw
          go_simp
        try simp only [Act.put, List.getElem_toArray, List.getElem_cons_succ, List.getElem_cons_zero, List.setIfInBounds_toArray, List.set_cons_zero, List.set_cons_succ]
        refine wpAnyH_take (i := 1) (v := .pointer (some ⟨wr.heap.size, 0, none⟩)) rfl (by kernel_rfl) (by kernel_rfl) (by kernel_rfl) (fun _ _ _ h => h) (Or.inl ⟨by kernel_rfl, ?_⟩) (by assumption) ?_
        · intro wz hSw
          go_simp
        try simp only [Act.put, List.getElem_toArray, List.getElem_cons_succ, List.getElem_cons_zero, List.setIfInBounds_toArray, List.set_cons_zero, List.set_cons_succ]
        refine wpAnyH_take (i := 2) (v := .int .i64 (j : Int)) rfl (by kernel_rfl) (by kernel_rfl) (by kernel_rfl) (fun _ _ _ h => h) (Or.inl ⟨by kernel_rfl, ?_⟩) (by assumption) ?_
        · intro wz hSw
          obtain ⟨hh, hg⟩ := hSw
          go_simp
        try simp only [Act.put, List.getElem_toArray, List.getElem_cons_succ, List.getElem_cons_zero, List.setIfInBounds_toArray, List.set_cons_zero, List.set_cons_succ]
        refine wpAnyH_take (i := 4) (v := .pointer (some ⟨wr.heap.size, 1, none⟩)) rfl (by kernel_rfl) (by kernel_rfl) (by kernel_rfl) (fun _ _ _ h => h) (Or.inl ⟨by kernel_rfl, ?_⟩) (by assumption) ?_
        · intro wz hSw
          go_simp
        try simp only [Act.put, List.getElem_toArray, List.getElem_cons_succ, List.getElem_cons_zero, List.setIfInBounds_toArray, List.set_cons_zero, List.set_cons_succ]
        refine wpAnyH_take (i := 5) (v := .string xd) rfl (by kernel_rfl) (by kernel_rfl) (by kernel_rfl) (fun _ _ _ h => h) (Or.inl ⟨by kernel_rfl, ?_⟩) (by assumption) ?_
        · intro wz hSw
          obtain ⟨hh, hg⟩ := hSw
          go_simp
        try simp only [Act.put, List.getElem_toArray, List.getElem_cons_succ, List.getElem_cons_zero, List.setIfInBounds_toArray, List.set_cons_zero, List.set_cons_succ]
        refine wpAnyH_ready (rs := [3]) (by kernel_rfl) (by simp) ?_
        refine AllReadyH.cons rfl (fun K hK => ?_) AllReadyH.nil
        go_simp
        go_at_call 25
        refine (HNJ.out wd).mono ?_
        rintro er v1 ⟨rfl, b1⟩
        have B_v1 : Hid (Below wd.heap.size wd v1) := Lib.hid (B_wd.out.trans (b1.mono B_wd.out.size))
        clear b1
        go_wp2_with fail
        refine hK.out _ _ (GX.out _ B_v1.out) (fun hHeld => ?_)
        clear hK K
        try simp only [Act.put, List.getElem_toArray, List.getElem_cons_succ, List.getElem_cons_zero, List.setIfInBounds_toArray, List.set_cons_zero, List.set_cons_succ]
        refine wpAnyH_take (i := 6) (v := .string (bj ++ xd)) rfl (by kernel_rfl) (by kernel_rfl) (by kernel_rfl) (fun _ _ _ h => h) (Or.inl ⟨by kernel_rfl, ?_⟩) (by assumption) ?_
        · intro wz hSw
          go_simp
          first | done | omega | ((try simp only [ByteArray.size_append]); omega)
        try simp only [Act.put, List.getElem_toArray, List.getElem_cons_succ, List.getElem_cons_zero, List.setIfInBounds_toArray, List.set_cons_zero, List.set_cons_succ]
        refine wpAnyH_ready (rs := [7]) (by kernel_rfl) (by simp) ?_
        refine AllReadyH.cons rfl (fun K hK => ?_) AllReadyH.nil
        go_simp
        go_at_call 24
        refine (HWJ.out v1).mono ?_
        rintro er v2 ⟨rfl, b1⟩
        have B_v2 : Hid (Below wd.heap.size wd v2) := Lib.hid (B_v1.out.trans (b1.mono B_v1.out.size))
        clear b1
        go_wp2_with fail
        refine hK.out _ _ (GX.out _ B_v2.out) (fun hHeld => ?_)
        clear hK K
        try simp only [Act.put, List.getElem_toArray, List.getElem_cons_succ, List.getElem_cons_zero, List.setIfInBounds_toArray, List.set_cons_zero, List.set_cons_succ]
        have B_v3 : Hid (Below wd.heap.size wd (v2.alloc (.cells #[.string FJ] 9))) := B_v2.out.alloc B_v2.out.size _
        have hown : (v2.alloc (.cells #[.string FJ] 9)).ownsRow wE.heap.size 9 1 u3 out.length (out.map .string) := (HOd.out.kept (grown_of_belowS B_v2.out none) (by
          by_cases e : u3.ownBlock = none
          · exact .inl e
          · exact .inr e)).alloc _
        have hcell : (v2.alloc (.cells #[.string FJ] 9)).cell? ⟨v2.heap.size, 0, none⟩ = some (.string FJ) := by simp
        have hsv : wE.heap.size ≤ (v2.alloc (.cells #[.string FJ] 9)).heap.size := Nat.le_trans HBd2.out.size B_v3.out.size
        refine wpAnyH_ready (rs := [8]) (by kernel_rfl) (by simp) ?_
        refine AllReadyH.cons rfl (fun K hK => ?_) AllReadyH.nil
        go_simp
        go_wp2_with fail
        refine hK.out _ _ (GX.out _ B_v3.out) (fun hHeld => ?_)
        clear hK K
        try simp only [Act.put, List.getElem_toArray, List.getElem_cons_succ, List.getElem_cons_zero, List.setIfInBounds_toArray, List.set_cons_zero, List.set_cons_succ]
        refine wpAnyH_ready (rs := [9]) (by kernel_rfl) (by simp) ?_
        refine AllReadyH.cons rfl (fun K hK => ?_) AllReadyH.nil
        simp only [Region.wanted, if_true]
        refine wp_push_str (.tmp 32) (.tmp 40) 37 rfl Tryz.underlying37 wE.heap.size u3 out (by go_simp) hown ⟨v2.heap.size, 0, none⟩ 1 FJ (by go_simp) hcell (by omega) hsv (fun v' w4 hown4 hg4 => ?_)
        have hS4 : w4.cell? ⟨wr.heap.size, 0, none⟩ = some (.int .i64 (j : Int)) ∧ w4.cell? ⟨wr.heap.size, 1, none⟩ = some (.string xd) := by
          have hlt := Nat.lt_of_lt_of_le HXc.out.1 B_v3.out.size
          have hk := hg4.block wr.heap.size hlt (fun e => HU3.out _ e.symm rfl)
          exact ⟨(World.cell?_of_block hk).trans (GX.out _ B_v3.out).1, (World.cell?_of_block hk).trans (GX.out _ B_v3.out).2⟩
        have HO4 : Hid (w4.ownsRow wE.heap.size 9 1 v' ((ownT k p z l).take (j + 2)).length (((ownT k p z l).take (j + 2)).map fun t => .string (fB t))) := by
          unfold Hid
          rw [HTM.out, List.length_map, List.map_map] at hown4
          exact hown4
        have HB4 : Hid (Below wE.heap.size wE w4) := (HBd2.out.trans (B_v3.out.mono HBd2.out.size)).grown hg4 hsv (fun q hq => (HOd.out.lt q hq).1)
        refine hK.out _ _ hS4 (fun hHeld => ?_)
        clear hK K hS4 hown4 hg4 hown hcell hsv
        try simp only [Act.put, List.getElem_toArray, List.getElem_cons_succ, List.getElem_cons_zero, List.setIfInBounds_toArray, List.set_cons_zero, List.set_cons_succ]
        refine wpAnyH_take (i := 10) (v := v') rfl (by kernel_rfl) (by kernel_rfl) (by kernel_rfl) (fun _ _ _ h => h) (Or.inl ⟨by kernel_rfl, ?_⟩) (by assumption) ?_
        · intro wz hSw
          go_simp
        refine wpAnyH_done (by kernel_rfl) ?_ _
        refine NoPanic.normal ?_
        go_wp2_with fail
        go_roundw
        case rel => exact ⟨j + 1, by omega, by go_num, HO4, HB4⟩
        case measure => simp [intOf]; omega
      · obtain rfl : j = n := by omega
        have HOF : Hid (StrsB wr u3 ((ownT k p z l).map fB)) := by
          have := HO.out
          rw [← HTN.out, List.take_length] at this
          refine StrsB.of_owns (B := wE.heap.size) ?_
          rw [List.length_map, List.map_map]
          exact this
        have HCN := Lib.hid (contains_no wr u3 ((ownT k p z l).map fB) ⟨#[]⟩ HOF.out (by rw [List.length_map, HTN.out]; omega) (fun x hx => by obtain ⟨t, ht, rfl⟩ := List.mem_map.1 hx; exact fB_ne (HTL.out t ht)))
        have HJN := Lib.hid (fun W (hb : Below wr.heap.size wr W) => joinF_any W u3 (ownT k p z l) (HOF.out.below hb (Nat.le_refl _)) (by rw [HTN.out]; omega) (by rw [HTN.out]; omega) HTL.out)
        have HLr : Hid (Below w.heap.size w wr) := LOW.out.trans (HB.out.mono LOW.out.size)
        clear hlt hj HO
        go_wp2_with fail
        refine HCN.out.mono ?_
        rintro e w5 ⟨rfl, b5⟩
        have HJ5 := Lib.hid (HJN.out w5 b5)
        have HL5 := Lib.hid (HLr.out.trans (b5.mono HLr.out.size))
        clear b5 HCN HJN
        go_wp2_with fail
        refine HJ5.out.mono ?_
        rintro e w6 ⟨rfl, b6⟩
        have HL6 := Lib.hid (HL5.out.trans (b6.mono HL5.out.size))
        clear b6
        go_wp2_with fail
        go_ret
        exact ⟨by rw [HE.out]; rfl, HL6.out⟩
end Go.Proofs.YtfpofcfoeajkiaaGreat
