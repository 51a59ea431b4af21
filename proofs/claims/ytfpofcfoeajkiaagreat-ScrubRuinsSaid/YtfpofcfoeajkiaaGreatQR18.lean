/- Texts of this claim's author, packed: ParSplitK, ScrCat. Conditions: none. -/
import Derived.Test.YtfpofcfoeajkiaaGreatQR17
import Derived.Lib.AppendZeros
/- Split of both packages: walks (written by gen-par-split.py). -/
namespace Go.Proofs.YtfpofcfoeajkiaaGreat
open Go.RowKit
set_option linter.unusedVariables false
set_option linter.unusedSimpArgs false
def splitN (s : ByteArray) (k : Nat) : Nat := (s.size + k - 1) / k
def splitR (s : ByteArray) (k i : Nat) : ByteArray := bytesF (splitN s k) fun q => rw' s (i * splitN s k + q)
def splitL (s : ByteArray) (k : Int) : List ByteArray := if fewN k = true then (List.range k.toNat).map (splitR s k.toNat) else []
def splitE (k : Int) : Int := if fewN k = true then 0 else 4
theorem rw_ext {x y : ByteArray} (hs : x.size = y.size) (h : ∀ q, q < x.size → rw' x q = rw' y q) : x = y := by
  rw [← bytesF_rw x, ← bytesF_rw y, hs]
  exact bytesF_congr fun q hq => h q (by omega)
theorem rw_out (s : ByteArray) (q : Nat) (h : s.size ≤ q) : rw' s q = 0 := by
  unfold rw'
  rw [List.getD_eq_getElem?_getD, List.getElem?_eq_none (by simpa using h)]; rfl
theorem extract_listG (s : ByteArray) (a b : Nat) : (s.extract a b).data.toList = (s.data.toList.drop a).take (b - a) := by
  rw [ByteArray.data_extract, Array.toList_extract]
theorem rw_extract (s : ByteArray) (a b q : Nat) (h : q < b - a) : rw' (s.extract a b) q = rw' s (a + q) := by
  unfold rw'
  rw [extract_listG, List.getD_eq_getElem?_getD, List.getElem?_take, if_pos h, List.getElem?_drop, ← List.getD_eq_getElem?_getD]
theorem size_extract' (s : ByteArray) (a b : Nat) (h1 : a ≤ b) (h2 : b ≤ s.size) : (s.extract a b).size = b - a := by
  rw [ByteArray.size_extract]; omega
theorem splitN_fit (s : ByteArray) (k : Nat) (hk : 0 < k) : s.size ≤ k * splitN s k ∧ splitN s k ≤ s.size + 1 := by
  unfold splitN
  have h1 := Nat.div_add_mod (s.size + k - 1) k
  have h2 := Nat.mod_lt (s.size + k - 1) hk
  refine ⟨by omega, ?_⟩
  have : (s.size + k - 1) / k ≤ s.size := by
    rcases Nat.eq_zero_or_pos s.size with h | h
    · rw [h]; rw [Nat.zero_add, Nat.div_eq_of_lt (by omega)]; exact Nat.le_refl _
    · calc (s.size + k - 1) / k ≤ (s.size * k) / k := Nat.div_le_div_right (by
            have : k ≤ s.size * k := Nat.le_mul_of_pos_left k h
            have h3 : (s.size - 1) * 1 ≤ (s.size - 1) * k := Nat.mul_le_mul_left _ hk
            have h4 : s.size * k = (s.size - 1) * k + k := by
              conv => lhs; rw [show s.size = (s.size - 1) + 1 by omega]
              rw [Nat.add_mul, Nat.one_mul]
            omega)
        _ = s.size := Nat.mul_div_cancel _ hk
  omega
theorem rep_zero (c : Nat) : (⟨(Lib.repeatL [0] c).toArray⟩ : ByteArray).size = c ∧ ∀ q, rw' ⟨(Lib.repeatL [0] c).toArray⟩ q = 0 := by
  have hl : (Lib.repeatL [0] c).length = c := by rw [Lib.repeatL_length]; simp
  have h0 : ∀ c, ∀ x ∈ Lib.repeatL [0] c, x = 0 := by
    intro c
    induction c with
    | zero => intro x hx; cases hx
    | succ c ih =>
      intro x hx
      rcases List.mem_append.1 hx with h | h
      · simpa using h
      · exact ih x h
  refine ⟨by simp [ByteArray.size, hl], fun q => ?_⟩
  by_cases hq : q < c
  · unfold rw'
    rw [List.getD_eq_getElem?_getD]
    simp only [List.toList_toArray]
    rw [List.getElem?_eq_getElem (by omega)]
    exact h0 c _ (List.getElem_mem _)
  · exact rw_out _ _ (by simp [ByteArray.size, hl]; omega)
set_option maxRecDepth 20000 in
set_option maxHeartbeats 4000000 in
theorem split_ok (s : ByteArray) (k : Nat) (w : World) (hk0 : 0 < k) (hk : k ≤ 16) (hs : s.size ≤ 1000000) :
    Calls Tryz.prog 33 #[.string s, .int .i64 k] w fun e w' => ∃ v, e = .returned (.tuple #[v, .int .i64 0]) ∧ StrsN w' v ((List.range k).map (splitR s k)) ∧ Below w.heap.size w w' := by
  have HK : Hid (∀ w, Calls Tryz.prog 60 #[.int .i64 k] w fun e w' => e = .returned (.bool true) ∧ w = w') := fun w => by
    have h := pfewP_any k w; rwa [show fewN k = true by unfold fewN; simp; omega] at h
  obtain ⟨hf1, hf2⟩ := splitN_fit s k hk0
  have HSR : Hid (∀ i, splitR s k i = bytesF (splitN s k) fun q => rw' s (i * splitN s k + q)) := fun i => rfl
  have hdv : ((s.size : Int) + (k : Int) - 1).tdiv (k : Int) = ((splitN s k : Nat) : Int) := by
    rw [Int.tdiv_eq_ediv_of_nonneg (by omega)]
    unfold splitN
    rw [Int.natCast_ediv]
    congr 1
    omega
  have hkne : ¬ (k : Int) = 0 := by omega
  have hke : ((k : Int) == 0) = false := by rw [beq_eq_false_iff_ne]; omega
  generalize splitN s k = n at *
  have hkI : (k : Int) ≤ 9223372036854775807 := by omega
  go_enter Tryz.func33, Tryz.ntmps33
  go_wp2_with fail
  refine (HK.out _).mono ?_
  rintro e w' ⟨rfl, rfl⟩
  go_wp2_with fail
  clear hdv HK
  go_loopw [0, 7, 20] (fun x v i wr => ∃ (j : Nat) (r : ByteArray), j ≤ k ∧ i = .int .i64 j ∧ x = .string r ∧ Hid (r.size = s.size - j * n) ∧ Hid (∀ q, rw' r q = rw' s (j * n + q)) ∧ Hid (wr.ownsRow w.heap.size 9 1 v ((List.range j).map (splitR s k)).length (((List.range j).map (splitR s k)).map .string)) ∧ Hid (Below w.heap.size w wr)) (fun _ _ i _ => k - (intOf i).toNat)
  case atStart => exact ⟨0, s, Nat.zero_le _, rfl, rfl, by unfold Hid; omega, fun q => by rw [Nat.zero_mul, Nat.zero_add], World.ownsRow_nil _ _ _ _, Below.refl _ _⟩
  case round =>
    obtain ⟨i, r, hi, rfl, rfl, HRS, HRW, HO, HB⟩ := hrel
    by_cases hlt : i < k
    · have hlt' : (i : Int) < (k : Int) := by omega
      have hrs := HRS.out
      have hr1 : r.size ≤ 1000000 := by omega
      clear hrs
      obtain ⟨M, hM⟩ : ∃ M, M = Nat.min n r.size := ⟨_, rfl⟩
      have hM' : M = n ∧ n ≤ r.size ∨ M = r.size ∧ r.size ≤ n := by rw [hM]; simp only [Nat.min_def]; split <;> omega
      clear hM
      have hmin : min (n : Int) (r.size : Int) = (M : Int) := by rcases hM' with ⟨a, b⟩ | ⟨a, b⟩ <;> omega
      have hMn : M ≤ n := by omega
      have hMr : M ≤ r.size := by omega
      have hMI : (M : Int) ≤ (r.size : Int) := by omega
      obtain ⟨c, hcd⟩ : ∃ c, c = n - M := ⟨_, rfl⟩
      have hsub : (n : Int) - (M : Int) = (c : Int) := by omega
      have hrep := rep_zero c
      have HREP : Hid (∀ w, Calls Tryz.prog 61 #[.string ⟨#[0]⟩, .int .i64 (c : Int)] w fun e w' => e = .returned (.string ⟨(Lib.repeatL [0] c).toArray⟩) ∧ Below w.heap.size w w') := fun w => by
        refine Tryz.strings_Repeat ⟨#[0]⟩ c w (by omega) ?_
        show 1 * c ≤ _
        omega
      generalize (⟨(Lib.repeatL [0] c).toArray⟩ : ByteArray) = z at *
      have hys : (r.extract 0 M).size = M := by rw [size_extract' _ _ _ (Nat.zero_le _) hMr]; omega
      have HX : Hid (r.extract 0 M ++ z = splitR s k i) := by
        refine rw_ext (by rw [ByteArray.size_append, hys, hrep.1, HSR.out, bytesF_size]; omega) fun q hq => ?_
        rw [ByteArray.size_append, hys, hrep.1] at hq
        rw [HSR.out, rw_bytesF _ (by omega), rw_append, hys]
        by_cases e : q < M
        · rw [if_pos e, rw_extract _ _ _ _ (by omega), Nat.zero_add, HRW.out]
        · rw [if_neg e, hrep.2, ← HRW.out]
          exact (rw_out r q (by omega)).symm
      have HRS2 : Hid ((r.extract M r.size).size = s.size - (i + 1) * n) := by
        have h1 := HRS.out
        unfold Hid
        rw [size_extract' _ _ _ hMr (Nat.le_refl _), Nat.add_mul, Nat.one_mul]
        omega
      have HRW2 : Hid (∀ q, rw' (r.extract M r.size) q = rw' s ((i + 1) * n + q)) := fun q => by
        have h1 := HRS.out
        have h2 := HRS2.out
        by_cases e : q < r.size - M
        · rw [rw_extract _ _ _ _ e, HRW.out, Nat.add_mul, Nat.one_mul]
          congr 1
          omega
        · rw [rw_out _ q (by rw [size_extract' _ _ _ hMr (Nat.le_refl _)]; omega)]
          rw [Nat.add_mul, Nat.one_mul] at h2 ⊢
          rw [size_extract' _ _ _ hMr (Nat.le_refl _)] at h2
          exact (rw_out _ _ (by omega)).symm
      have hzs := hrep.1
      have HR : Hid ((List.range i).map (splitR s k) ++ [splitR s k i] = (List.range (i + 1)).map (splitR s k)) := by unfold Hid; rw [List.range_succ, List.map_append]; rfl
      have hi3 : ((List.range i).map (splitR s k)).length + 1 ≤ 1000000000 := by simp; omega
      have HWd : Hid (Below w.heap.size w wr.drew) := HB.out.drew
      have HOd : Hid (wr.drew.ownsRow w.heap.size 9 1 u7 ((List.range i).map (splitR s k)).length (((List.range i).map (splitR s k)).map .string)) := HO.out
      clear hrep HRS HRW HB HO hcd
      generalize (List.range i).map (splitR s k) = out at *
      rw [← HX.out] at HR
      go_wp2_with fail
      refine wp_region_noPanic ?_
      refine wp_region_held_drew (S := fun _ => True) (by kernel_rfl) trivial (fun hHeld => ?_)
      obtain ⟨wo, hwo⟩ : ∃ wo, wo = wr.drew := ⟨_, rfl⟩
      rw [← hwo] at HWd HOd ⊢
      have HWO := Lib.hid hwo; clear hwo
      have HW : Hid (Below wo.heap.size wo wo) := Below.refl _ _
      refine' wpAnyH_take (i := 0) (v := ?v1) rfl (by kernel_rfl) (by kernel_rfl) (by kernel_rfl) (fun _ _ _ h => h) (Or.inl ⟨by kernel_rfl, ?hy1⟩) (by assumption) ?rest1
      case hy1 => (intro w hSw; (try dsimp only at hSw); go_simp; try with_reducible rfl)
      try simp only [Act.put, List.setIfInBounds_toArray, List.set_cons_zero, List.set_cons_succ]
      refine' wpAnyH_take (i := 1) (v := ?v2) rfl (by kernel_rfl) (by kernel_rfl) (by kernel_rfl) (fun _ _ _ h => h) (Or.inl ⟨by kernel_rfl, ?hy2⟩) (by assumption) ?rest2
      case hy2 => (intro w hSw; (try dsimp only at hSw); go_simp; try with_reducible rfl)
      try simp only [Act.put, List.setIfInBounds_toArray, List.set_cons_zero, List.set_cons_succ]
      refine' wpAnyH_take (i := 2) (v := ?v3) rfl (by kernel_rfl) (by kernel_rfl) (by kernel_rfl) (fun _ _ _ h => h) (Or.inl ⟨by kernel_rfl, ?hy3⟩) (by assumption) ?rest3
      case hy3 => (intro w hSw; (try dsimp only at hSw); go_simp; try with_reducible rfl)
      try simp only [Act.put, List.setIfInBounds_toArray, List.set_cons_zero, List.set_cons_succ]
      refine wpAnyH_take (i := 3) (v := .string (r.extract 0 M)) rfl (by kernel_rfl) (by kernel_rfl) (by kernel_rfl) (fun _ _ _ h => h) (Or.inl ⟨by kernel_rfl, ?_⟩) hHeld ?_
      · intro w hSw
        go_simp
        first | done | ((try rw [Int.tdiv_eq_ediv_of_nonneg (by omega)]); (try rw [Int.tmod_eq_emod_of_nonneg (by omega)]); (try rw [IntKind.wrap_i64]); (try omega))
      try simp only [Act.put, List.setIfInBounds_toArray, List.set_cons_zero, List.set_cons_succ]
      refine' wpAnyH_take (i := 4) (v := ?v4) rfl (by kernel_rfl) (by kernel_rfl) (by kernel_rfl) (fun _ _ _ h => h) (Or.inl ⟨by kernel_rfl, ?hy4⟩) (by assumption) ?rest4
      case hy4 => (intro w hSw; (try dsimp only at hSw); go_simp; try with_reducible rfl)
      try simp only [Act.put, List.setIfInBounds_toArray, List.set_cons_zero, List.set_cons_succ]
      refine' wpAnyH_take (i := 5) (v := ?v5) rfl (by kernel_rfl) (by kernel_rfl) (by kernel_rfl) (fun _ _ _ h => h) (Or.inl ⟨by kernel_rfl, ?hy5⟩) (by assumption) ?rest5
      case hy5 => (intro w hSw; (try dsimp only at hSw); go_simp; try with_reducible rfl)
      try simp only [Act.put, List.setIfInBounds_toArray, List.set_cons_zero, List.set_cons_succ]
      refine wpAnyH_take (i := 6) (v := .int .i64 (c : Int)) rfl (by kernel_rfl) (by kernel_rfl) (by kernel_rfl) (fun _ _ _ h => h) (Or.inl ⟨by kernel_rfl, ?_⟩) hHeld ?_
      · intro w hSw
        go_simp
        first | done | ((try rw [Int.tdiv_eq_ediv_of_nonneg (by omega)]); (try rw [Int.tmod_eq_emod_of_nonneg (by omega)]); (try rw [IntKind.wrap_i64]); (try omega))
      try simp only [Act.put, List.setIfInBounds_toArray, List.set_cons_zero, List.set_cons_succ]
      have HS : Hid True := trivial
      refine wpAnyH_ready (rs := [7]) (by kernel_rfl) (by simp) ?_
      refine AllReadyH.cons rfl (fun K hK => ?_) AllReadyH.nil
      go_simp
      go_at_call 61
      refine (HREP.out _).mono ?_
      rintro er w' ⟨rfl, b'⟩
      have HW := Lib.hid (HW.out.trans (b'.mono HW.out.size))
      have HS := Lib.hid (True.intro)
      clear b' hHeld
      go_wp2_with fail
      refine hK.out _ _ HS.out (fun hHeld => ?_)
      clear hK K
      try simp only [Act.put, List.setIfInBounds_toArray, List.set_cons_zero, List.set_cons_succ]
      refine wpAnyH_take (i := 8) (v := .string (r.extract 0 M ++ z)) rfl (by kernel_rfl) (by kernel_rfl) (by kernel_rfl) (fun _ _ _ h => h) (Or.inl ⟨by kernel_rfl, ?_⟩) hHeld ?_
      · intro w hSw
        go_simp
        first | done | omega | ((try simp only [ByteArray.size_append]); omega)
      try simp only [Act.put, List.setIfInBounds_toArray, List.set_cons_zero, List.set_cons_succ]
      have hsW := HW.out.size
      have hsO := HWd.out.size
      have hcell : (w'.alloc (.cells #[.string (r.extract 0 M ++ z)] 9)).cell? ⟨w'.heap.size, 0, none⟩ = some (.string (r.extract 0 M ++ z)) := by simp
      have hown : (w'.alloc (.cells #[.string (r.extract 0 M ++ z)] 9)).ownsRow w.heap.size 9 1 u7 out.length (out.map .string) := (HOd.out.kept (grown_of_below HW.out none) (by
        by_cases e : u7.ownBlock = none
        · exact .inl e
        · exact .inr e)).alloc _
      refine one_val 9 { dst := some 35, op := Op.buildSlice 37 1 #[(0, .tmp 34)], type := 37, pos := "parity.go:40", after := #[{ on := 8, ground := Ground.data }], guard := none } (by kernel_rfl) rfl (by kernel_rfl) (.slice (some ⟨w'.heap.size, 0, none⟩) 1 1) (w'.alloc (.cells #[.string (r.extract 0 M ++ z)] 9)) (by go_simp) trivial ?_
      try simp only [Act.put, List.setIfInBounds_toArray, List.set_cons_zero, List.set_cons_succ]
      refine one_ready 10 { dst := some 36, op := Op.call { callee := Callee.builtin Builtin.append, args := #[.tmp 26, .tmp 35], argTypes := #[37, 37] }, type := 37, pos := "parity.go:40", after := #[{ on := 0, ground := Ground.data }, { on := 9, ground := Ground.data }, { on := 7, ground := Ground.chain }], guard := none } (by kernel_rfl) rfl (by kernel_rfl) (fun K hK => wp_push_str (.tmp 26) (.tmp 35) 37 rfl Tryz.underlying37 w.heap.size u7 out (by go_simp) hown ⟨w'.heap.size, 0, none⟩ 1 (r.extract 0 M ++ z) (by go_simp) hcell hi3 (by simp; omega) (fun v' w4 hown4 hg4 => hK.out _ _ trivial (fun hHeld => ?_)))
      try simp only [Act.put, List.setIfInBounds_toArray, List.set_cons_zero, List.set_cons_succ]
      have HO4 : Hid (w4.ownsRow w.heap.size 9 1 v' ((List.range (i + 1)).map (splitR s k)).length (((List.range (i + 1)).map (splitR s k)).map .string)) := by unfold Hid; rw [← HR.out]; simpa using hown4
      have HB4 : Hid (Below w.heap.size w w4) := ((HWd.out.trans (HW.out.mono hsO)).alloc (by omega) _).grown hg4 (by simp; omega) (fun k hk => (HOd.out.lt k hk).1)
      clear hown hown4 hg4 hcell
      refine wpAnyH_take (i := 11) (v := v') rfl (by kernel_rfl) (by kernel_rfl) (by kernel_rfl) (fun _ _ _ h => h) (Or.inl ⟨by kernel_rfl, ?_⟩) hHeld ?_
      · intro w hSw
        go_simp
      refine wpAnyH_done (by kernel_rfl) ?_ _
      refine NoPanic.normal ?_
      go_wp2_with fail
      go_roundw
      case rel => exact ⟨i + 1, r.extract M r.size, by omega, by go_num, rfl, HRS2, HRW2, HO4, HB4⟩
      case measure => simp [intOf]; omega
    · obtain rfl : i = k := by omega
      go_wp2_with fail
      go_ret2
      exact ⟨_, rfl, StrsN.of_owns HO.out, HB.out⟩
set_option maxRecDepth 20000 in
set_option maxHeartbeats 4000000 in
theorem split_no (s : ByteArray) (k : Int) (w : World) (h : fewN k = false) :
    Calls Tryz.prog 33 #[.string s, .int .i64 k] w fun e w' => e = .returned (.tuple #[.slice none 0 0, .int .i64 4]) ∧ w = w' := by
  have HK := Lib.hid (fun w => pfewP_any k w)
  rw [h] at HK
  clear h
  go_enter Tryz.func33, Tryz.ntmps33
  go_wp2_with fail
  refine (HK.out _).mono ?_
  rintro e w' ⟨rfl, rfl⟩
  go_wp2_with fail
  go_ret2
  exact ⟨rfl, rfl⟩
theorem split_any (s : ByteArray) (k : Int) (w : World) (hs : s.size ≤ 1000000) :
    Calls Tryz.prog 33 #[.string s, .int .i64 k] w fun e w' => ∃ v, e = .returned (.tuple #[v, .int .i64 (splitE k)]) ∧ StrsN w' v (splitL s k) ∧ Below w.heap.size w w' := by
  unfold splitE splitL
  cases h : fewN k with
  | false =>
    refine (split_no s k w h).mono ?_
    rintro e w' ⟨rfl, rfl⟩
    exact ⟨_, by rw [if_neg (by simp)], by rw [if_neg (by simp)]; exact strsN_nil w, Below.refl _ _⟩
  | true =>
    obtain ⟨a, b⟩ := fewN_pos h
    rw [if_pos rfl, if_pos rfl]
    have := split_ok s k.toNat w (by omega) (by omega) hs
    rwa [Int.toNat_of_nonneg (by omega)] at this
end Go.Proofs.YtfpofcfoeajkiaaGreat
/- slices.Grow of nil, slices.Concat of two lists: walks (ParGrow's at this seat). -/
namespace Go.Proofs.YtfpofcfoeajkiaaGreat
open Go.RowKit
set_option linter.unusedVariables false
set_option linter.unusedSimpArgs false
/-- append(nil, make([]string, n)...) -/
theorem zeros_any (w : World) (t tn ty : TypeId) (ht : Tryz.prog.underlying t = some (.slice 9)) (htn : Tryz.prog.underlying tn = some (.int .i64)) (n : Nat) (h0 : 0 < n) (hn : n ≤ 1000000000) :
    ∃ c w', (Builtin.append_ #[t, tn] ty #[.slice none 0 0, .int .i64 n]).run Tryz.prog w = .ok (.slice (some ⟨w.heap.size, 0, none⟩) n c) w' ∧ w'.ownsRow w.heap.size 9 1 (.slice (some ⟨w.heap.size, 0, none⟩) 0 c) 0 [] ∧ Below w.heap.size w w' ∧ c ≤ maxLen ∧ n ≤ c := by
  obtain ⟨i0, hi, hz0, hz1, hz2⟩ := info_parts strInfo
  have hr := Lib.run_append_nil_zeros (P := Tryz.prog) w t tn ty 9 i0 (.string ByteArray.empty) .i64 .i64 ht htn hi hz0 n h0 (by omega) (by omega) (by rw [hz2]; omega)
  have hge := grownCap_ge w n 0 9
  have hmx := grownCap_le_maxLen w n 0 9 (by unfold maxLen; omega)
  refine ⟨_, _, hr, ?_, ?_, hmx, hge⟩
  · have := World.ownsRow_made (base := w.heap.size) (e := 9) (size := 1) w.drew (Builtin.zeroCells (Value.string ByteArray.empty).cells n ++ Builtin.zeroCells (Value.string ByteArray.empty).cells (grownCap w n 0 9 - n)) (grownCap w n 0 9) (Nat.le_refl _) hmx (by
      have h1 : (Value.string ByteArray.empty).cells.size = 1 := rfl
      rw [Array.size_append, size_zeroCells, size_zeroCells, h1]; omega)
    exact this
  · exact (Below.refl _ _).drew.alloc (Nat.le_refl _) _
set_option maxRecDepth 20000 in
set_option maxHeartbeats 1000000 in
theorem grow_nil (n : Nat) (w : World) (hn : n ≤ 1000000000) :
    Calls Tryz.prog 65 #[.slice none 0 0, .int .i64 n] w fun e w' => ∃ v, e = .returned v ∧ w'.ownsRow w.heap.size 9 1 v 0 [] ∧ Below w.heap.size w w' := by
  by_cases h0 : 0 < n
  · have hd : decide (0 < (n : Int)) = true := by simp; omega
    have hd2 : decide ((n : Int) < 0) = false := by simp
    obtain ⟨c, w', hr, ho, hb, hc1, hc2⟩ := zeros_any w 37 3 37 Tryz.underlying37 Tryz.underlying3 n h0 hn
    have HO := Lib.hid ho
    have HB := Lib.hid hb
    clear ho hb
    have hcI : c ≤ 9223372036854775807 := by unfold maxLen at hc1; omega
    go_enter Tryz.func65, Tryz.ntmps65
    go_wp2_with (at_builtin; refine Lib.wpList_append_run _ rfl _ _ _ _ rfl _ _ rfl rfl _ _ hr ?_)
    go_wp2_with fail
    go_ret
    exact ⟨_, rfl, HO.out, HB.out⟩
  · obtain rfl : n = 0 := by omega
    go_enter Tryz.func65, Tryz.ntmps65
    go_wp2_with fail
    go_ret
    exact ⟨_, rfl, World.ownsRow_nil _ _ _ _, Below.refl _ _⟩
set_option maxRecDepth 20000 in
set_option maxHeartbeats 2000000 in
theorem concat2o (w : World) (g : Nat) (va vb : Value) (la lb : List ByteArray) (c0 : w.cell? ⟨g, 0, none⟩ = some va) (c1 : w.cell? ⟨g, 1, none⟩ = some vb) (ha : StrsN w va la) (hb : StrsN w vb lb) (h1 : la.length ≤ 1000000) (h2 : lb.length ≤ 1000000) (hg : g < w.heap.size) :
    Calls Tryz.prog 35 #[.slice (some ⟨g, 0, none⟩) 2 2] w fun e w' => ∃ v, e = .returned v ∧ w'.ownsRow w.heap.size 9 1 v (la ++ lb).length ((la ++ lb).map .string) ∧ Below w.heap.size w w' := by
  have HA := Lib.hid ha
  have HB := Lib.hid hb
  have HG := Lib.hid (grow_nil (la.length + lb.length) w (by omega))
  have C0 := Lib.hid c0
  have C1 := Lib.hid c1
  obtain ⟨A, ca, rfl, _, _⟩ := ha.1.len
  obtain ⟨A2, cb, rfl, _, _⟩ := hb.1.len
  clear ha hb
  have hz1 : decide (((la.length : Int)) < 0) = false := by simp
  have hz2 : decide (((la.length : Int) + (lb.length : Int)) < 0) = false := by simp; omega
  have hsum : ((la.length + lb.length : Nat) : Int) = (la.length : Int) + (lb.length : Int) := by omega
  rw [hsum] at HG
  clear hsum
  go_enter Tryz.func35, Tryz.ntmps35
  go_wp2_with fail
  refine wp_loop_rounds 3 ?_
  rw [rounds_succ]
  go_wp2_with fail
  rw [rounds_succ]
  go_wp2_with fail
  rw [rounds_succ]
  go_wp2_with fail
  refine HG.out.mono ?_
  rintro e w1 ⟨v1, rfl, o1, b1⟩
  have HO := Lib.hid o1
  have HW := Lib.hid b1
  have d0 : w1.cell? ⟨g, 0, none⟩ = some (.slice A la.length ca) := (b1.cell (p := ⟨g, 0, none⟩) hg).trans C0.out
  have d1 : w1.cell? ⟨g, 1, none⟩ = some (.slice A2 lb.length cb) := (b1.cell (p := ⟨g, 1, none⟩) hg).trans C1.out
  have HA1 := Lib.hid (HA.out.below b1 (Nat.le_refl _))
  have hs1 := b1.size
  clear c0 c1 o1 b1 HA HG d1
  go_wp2_with fail
  refine wp_loop_rounds 3 ?_
  rw [rounds_succ]
  go_wp2_with (at_builtin; refine wpList_append_strs rfl _ _ 37 rfl Tryz.underlying37 w.heap.size v1 [] rfl HO.out _ la rfl HA1.out (by simp; omega) hs1 ?_)
  intro v2 w2 o2 g2
  have HO2 := Lib.hid o2
  have HW2 : Hid (Below w.heap.size w w2) := HW.out.grown g2 hs1 (fun k hk => (HO.out.lt k hk).1)
  have d1 : w2.cell? ⟨g, 1, none⟩ = some (.slice A2 lb.length cb) := (HW2.out.cell (p := ⟨g, 1, none⟩) hg).trans C1.out
  have HB2 := Lib.hid (HB.out.below HW2.out (Nat.le_refl _))
  have hs2 := HW2.out.size
  clear o2 g2 HO HW HA1 HB d0 hs1
  go_wp2_with fail
  rw [rounds_succ]
  go_wp2_with (at_builtin; refine wpList_append_strs rfl _ _ 37 rfl Tryz.underlying37 w.heap.size v2 la rfl HO2.out _ lb rfl HB2.out (by omega) hs2 ?_)
  intro v3 w3 o3 g3
  have HO3 : Hid (w3.ownsRow w.heap.size 9 1 v3 (la ++ lb).length ((la ++ lb).map .string)) := by unfold Hid; simpa using o3
  have HW3 : Hid (Below w.heap.size w w3) := HW2.out.grown g3 hs2 (fun k hk => (HO2.out.lt k hk).1)
  clear o3 g3 HO2 HW2 HB2 d1 hs2
  go_wp2_with fail
  rw [rounds_succ]
  go_wp2_with fail
  go_ret
  exact ⟨_, rfl, HO3.out, HW3.out⟩
theorem concat2 (w : World) (g : Nat) (va vb : Value) (la lb : List ByteArray) (c0 : w.cell? ⟨g, 0, none⟩ = some va) (c1 : w.cell? ⟨g, 1, none⟩ = some vb) (ha : StrsN w va la) (hb : StrsN w vb lb) (h1 : la.length ≤ 1000000) (h2 : lb.length ≤ 1000000) (hg : g < w.heap.size) :
    Calls Tryz.prog 35 #[.slice (some ⟨g, 0, none⟩) 2 2] w fun e w' => ∃ v, e = .returned v ∧ StrsN w' v (la ++ lb) ∧ Below w.heap.size w w' :=
  (concat2o w g va vb la lb c0 c1 ha hb h1 h2 hg).mono (fun e w' ⟨v, h1, h2, h3⟩ => ⟨v, h1, StrsN.of_owns h2, h3⟩)
end Go.Proofs.YtfpofcfoeajkiaaGreat
