/- ShaJoins: its walk. -/
import Derived.Test.YtclmnekadlpfkaaShaAwake
import Derived.Test.YtclmnekadlpfkaaStrs
import Derived.Deep.RegionHeld3
namespace Go.Proofs.Ytclmnekadlpfkaa
open Go.RowKit
set_option linter.unusedVariables false
set_option linter.unusedSimpArgs false
theorem texts_sl {w : World} {A : Option Addr} {n c : Nat} {l : List ByteArray} (h : Sl w A n c 1 (l.flatMap EStr)) (hn : l.length = n) : Texts w A l := by
  obtain ⟨A', c', e, h1, h2, h3⟩ := StrsB.of_sl h hn
  intro hl
  obtain ⟨b, off, e1, e2, e3⟩ := h3 hl
  subst hn
  cases e
  exact ⟨b, off, e1, e2, e3⟩
theorem texts_three (w : World) (x y z : ByteArray) : Texts (w.alloc (.cells #[.string x, .string y, .string z] 9)) (some ⟨w.heap.size, 0, none⟩) [x, y, z] := fun _ => by
  have hh : (w.alloc (.cells #[.string x, .string y, .string z] 9)).heap[w.heap.size]? = some (.cells #[.string x, .string y, .string z] 9 (0, 0)) := by
    show (w.heap.push _)[w.heap.size]? = _
    simp
  refine ⟨_, 0, rfl, by simp, fun j hj => ?_⟩
  rw [Lib.cell_of_heap hh]
  match j, hj with
  | 0, _ => rfl
  | 1, _ => rfl
  | 2, _ => rfl
theorem allT_cut (s : ByteArray) (K : Nat) (h : K ≤ s.size) : allT [s.extract 0 K, ⟨#[]⟩, s.extract K s.size] = s.data.toList := by
  have e1 : (s.extract 0 K).data.toList = s.data.toList.take K := by rw [Lib.extract_data]; simp
  have e2 : (s.extract K s.size).data.toList = s.data.toList.drop K := by
    rw [Lib.extract_data]
    have : s.data.toList.length = s.size := by simp
    rw [List.take_of_length_le (by rw [List.length_drop]; omega)]
  simp only [allT, List.flatMap_cons, List.flatMap_nil, e1, e2]
  show _ ++ ([] ++ (_ ++ [])) = _
  simp
theorem allT_snoc (l : List ByteArray) (x : ByteArray) : allT (l ++ [x]) = allT l ++ x.data.toList := by simp [allT]
set_option maxRecDepth 20000 in
set_option maxHeartbeats 8000000 in
theorem shaJoins_ok (W : World) (A0 : Option Addr) (n0 c0 : Nat) (x0 : List ByteArray) (w0 : Sl W A0 n0 c0 1 (x0.flatMap EStr) ∧ x0.length = n0 ∧ (A0 = none → c0 = 0) ∧ ∀ y ∈ x0, y.size ≤ maxLen) (x1 : ByteArray) (w1 : x1.size ≤ 140737488351232) (x2 : UInt16) :
    Calls Try.prog 5 #[.slice A0 n0 c0, .string x1, .int .u16 x2.toNat] W fun e w' => e = .returned (.bool true) ∧ Below W.heap.size W w' := by
  obtain ⟨hsl, hn, _, _⟩ := w0
  have HS0 := Lib.hid (texts_sl hsl hn)
  clear hsl
  by_cases g0 : 20 < n0
  · clear hn
    go_enter Try.func5, Try.ntmps5
    go_wp2_with fail
    refine (shaAwake_any _).mono ?_
    rintro e w1 ⟨rfl, b1⟩
    go_wp2
    go_ret
    exact ⟨rfl, b1⟩
  by_cases g1 : 1000 < x1.size
  · clear hn
    go_enter Try.func5, Try.ntmps5
    go_wp2_with fail
    refine (shaAwake_any _).mono ?_
    rintro e w1 ⟨rfl, b1⟩
    go_wp2
    go_ret
    exact ⟨rfl, b1⟩
  obtain rfl : n0 = x0.length := hn.symm
  clear hn
  have hx2 := x2.toNat_lt
  obtain ⟨cut, hcut⟩ : ∃ cut, cut = x2.toNat := ⟨_, rfl⟩
  rw [← hcut] at hx2 ⊢
  clear hcut
  have q1 : (cut : Int).tmod ((x1.size : Int) + 1) = (cut : Int) % ((x1.size : Int) + 1) := Int.tmod_eq_emod_of_nonneg (by omega)
  have q2 : (cut : Int) % ((x1.size : Int) + 1) = ((cut % (x1.size + 1) : Nat) : Int) := by simp
  have hkl : cut % (x1.size + 1) < x1.size + 1 := Nat.mod_lt _ (by omega)
  generalize cut % (x1.size + 1) = K at *
  have hk2 : K ≤ x1.size := by omega
  have hk3 : (K : Int) ≤ (x1.size : Int) := by omega
  have q3 : ¬ ((x1.size : Int) + 1 = 0) := by omega
  go_enter Try.func5, Try.ntmps5
  go_wp2_with fail
  go_loopw [7, 22] (fun a i wr => ∃ (k : Nat) (S : ByteArray), k ≤ x0.length ∧ i = .int .i64 k ∧ a = .string S ∧ Hid (S.data.toList = allT (x0.take k)) ∧ S.size ≤ k * 300 ∧ Hid (Below W.heap.size W wr)) (fun _ i _ => x0.length - (intOf i).toNat)
  case atStart => exact ⟨0, ⟨#[]⟩, Nat.zero_le _, rfl, rfl, rfl, by decide, Below.refl _ _⟩
  case round =>
    obtain ⟨k, S, hk, rfl, rfl, HS, hSz, HW⟩ := hrel
    by_cases hlt : k < x0.length
    · obtain ⟨b, off, rfl, hblt, hcell⟩ := HS0.out (by omega)
      obtain ⟨t, ht⟩ : ∃ t, x0[k]? = some t := ⟨x0[k], List.getElem?_eq_getElem hlt⟩
      have e1 : wr.cell? ⟨b, off + k, none⟩ = some (.string t) := by
        have := (HW.out.cell (p := ⟨b, off + k, none⟩) hblt).trans (hcell k hlt)
        rw [this, ht]; rfl
      have HT : Hid (x0.take (k + 1) = x0.take k ++ [t]) := by unfold Hid; rw [List.take_add_one, ht]; rfl
      clear hcell ht
      by_cases ht : 300 < t.size
      · go_wp2_with fail
        refine (shaAwake_any _).mono ?_
        rintro e w1 ⟨rfl, b1⟩
        go_wp2
        go_ret
        exact ⟨rfl, below_then HW.out b1⟩
      · have HN : Hid ((S ++ t : ByteArray).data.toList = allT (x0.take (k + 1))) := by
          unfold Hid; rw [HT.out, allT_snoc, ← HS.out]; simp
        go_wp2
        go_roundw
        case rel => exact ⟨k + 1, _, by omega, by go_num, rfl, HN, by rw [ByteArray.size_append]; omega, HW⟩
        case measure => simp [intOf]; omega
    · obtain rfl : k = x0.length := by omega
      have hS := HS.out
      rw [List.take_length] at hS
      have hSl : S.data.toList.length = S.size := by simp
      have a1 : ∀ w', Below W.heap.size W w' → Calls Try.prog 15 #[.slice A0 x0.length c0] w' fun e w'' => e = .returned (.string (shaSum (allT x0))) ∧ Below w'.heap.size w' w'' := fun w' hb => join_any A0 c0 x0 w' (HS0.out.below hb) (by rw [← hS, hSl]; omega) (by omega)
      have a2 : ∀ w', Calls Try.prog 13 #[.string S] w' fun e w'' => e = .returned (.string (shaSum (allT x0))) ∧ Below w'.heap.size w' w'' := fun w' => by
        have := shaSum_any S w' (by omega); rwa [hS] at this
      have a4 : ∀ w', Calls Try.prog 13 #[.string x1] w' fun e w'' => e = .returned (.string (shaSum x1.data.toList)) ∧ Below w'.heap.size w' w'' := fun w' => shaSum_any x1 w' (by omega)
      have a5 := shaSum_size x1.data.toList
      have a6 : ∀ w' : World, Calls Try.prog 15 #[.slice (some ⟨w'.heap.size, 0, none⟩) 3 3] (w'.alloc (.cells #[.string (x1.extract 0 K), .string ⟨#[]⟩, .string (x1.extract K x1.size)] 9)) fun e w'' => e = .returned (.string (shaSum x1.data.toList)) ∧ Below (w'.heap.size + 1) (w'.alloc (.cells #[.string (x1.extract 0 K), .string ⟨#[]⟩, .string (x1.extract K x1.size)] 9)) w'' := fun w' => by
        have hz : (w'.alloc (.cells #[.string (x1.extract 0 K), .string ⟨#[]⟩, .string (x1.extract K x1.size)] 9)).heap.size = w'.heap.size + 1 := by simp
        have h := join_any (some ⟨w'.heap.size, 0, none⟩) 3 [x1.extract 0 K, ⟨#[]⟩, x1.extract K x1.size] _ (texts_three w' _ _ _) (by rw [allT_cut x1 K (by omega)]; simp; omega) (by show 3 ≤ _; omega)
        rw [allT_cut x1 K (by omega), hz] at h
        exact h
      generalize shaSum x1.data.toList = T at *
      generalize shaSum (allT x0) = U at *
      have A1 := Lib.hid a1; clear a1
      have A2 := Lib.hid a2; clear a2
      have A4 := Lib.hid a4; clear a4
      have A6 := Lib.hid a6; clear a6
      clear hS hSl HS
      go_wp2_with fail
      have HW : Hid (Below W.heap.size W wr.drew) := HW.out.drew
      refine wp_region_noPanic ?_
      refine wp_region_held_drew (S := fun _ => True) (by kernel_rfl) trivial (fun hHeld => ?_)
      generalize wr.drew = wz at *
      have HS : Hid True := trivial
      refine' wpAnyH_take (i := 0) (v := ?v1) rfl (by kernel_rfl) (by kernel_rfl) (by kernel_rfl) (fun _ _ _ h => h) (Or.inl ⟨by rfl, ?hy1⟩) (by assumption) ?rest1
      case hy1 => (intro w hSw; (try dsimp only at hSw); go_simp; try with_reducible rfl)
      try simp only [Act.put, List.setIfInBounds_toArray, List.set_cons_zero, List.set_cons_succ]
      refine' wpAnyH_take (i := 2) (v := ?v2) rfl (by kernel_rfl) (by kernel_rfl) (by kernel_rfl) (fun _ _ _ h => h) (Or.inl ⟨by rfl, ?hy2⟩) (by assumption) ?rest2
      case hy2 => (intro w hSw; (try dsimp only at hSw); go_simp; try with_reducible rfl)
      try simp only [Act.put, List.setIfInBounds_toArray, List.set_cons_zero, List.set_cons_succ]
      refine wpAnyH_ready (rs := [1]) (by kernel_rfl) (by simp) ?_
      refine AllReadyH.cons rfl (fun K hK => ?_) AllReadyH.nil
      go_simp
      go_at_call 15
      refine (A1.out _ HW.out).mono ?_
      rintro er w' ⟨rfl, b'⟩
      have HW := Lib.hid (HW.out.trans (b'.mono HW.out.size))
      have HS := Lib.hid (trivial)
      clear b' hHeld
      go_wp2_with fail
      refine hK.out _ _ HS.out (fun hHeld => ?_)
      clear hK K
      try simp only [Act.put, List.setIfInBounds_toArray, List.set_cons_zero, List.set_cons_succ]
      refine wpAnyH_ready (rs := [3]) (by kernel_rfl) (by simp) ?_
      refine AllReadyH.cons rfl (fun K hK => ?_) AllReadyH.nil
      go_simp
      go_at_call 13
      refine (A2.out _).mono ?_
      rintro er w' ⟨rfl, b'⟩
      have HW := Lib.hid (HW.out.trans (b'.mono HW.out.size))
      have HS := Lib.hid (trivial)
      clear b' hHeld
      go_wp2_with fail
      refine hK.out _ _ HS.out (fun hHeld => ?_)
      clear hK K
      try simp only [Act.put, List.setIfInBounds_toArray, List.set_cons_zero, List.set_cons_succ]
      refine' wpAnyH_take (i := 4) (v := ?v3) rfl (by kernel_rfl) (by kernel_rfl) (by kernel_rfl) (fun _ _ _ h => h) (Or.inl ⟨by rfl, ?hy3⟩) (by assumption) ?rest3
      case hy3 => (intro w hSw; (try dsimp only at hSw); go_simp; try with_reducible rfl)
      try simp only [Act.put, List.setIfInBounds_toArray, List.set_cons_zero, List.set_cons_succ]
      refine' wpAnyH_take (i := 5) (v := ?v4) rfl (by kernel_rfl) (by kernel_rfl) (by kernel_rfl) (fun _ _ _ h => h) (Or.inl ⟨by rfl, ?hy4⟩) (by assumption) ?rest4
      case hy4 => (intro w hSw; (try dsimp only at hSw); go_simp; try with_reducible rfl)
      try simp only [Act.put, List.setIfInBounds_toArray, List.set_cons_zero, List.set_cons_succ]
      refine' wpAnyH_take (i := 6) (v := ?v5) rfl (by kernel_rfl) (by kernel_rfl) (by kernel_rfl) (fun _ _ _ h => h) (Or.inl ⟨by rfl, ?hy5⟩) (by assumption) ?rest5
      case hy5 => (intro w hSw; (try dsimp only at hSw); go_simp; try with_reducible rfl)
      try simp only [Act.put, List.setIfInBounds_toArray, List.set_cons_zero, List.set_cons_succ]
      refine' wpAnyH_take (i := 7) (v := ?v6) rfl (by kernel_rfl) (by kernel_rfl) (by kernel_rfl) (fun _ _ _ h => h) (Or.inl ⟨by rfl, ?hy6⟩) (by assumption) ?rest6
      case hy6 => (intro w hSw; (try dsimp only at hSw); go_simp; try with_reducible rfl)
      try simp only [Act.put, List.setIfInBounds_toArray, List.set_cons_zero, List.set_cons_succ]
      refine' wpAnyH_take (i := 8) (v := ?v7) rfl (by kernel_rfl) (by kernel_rfl) (by kernel_rfl) (fun _ _ _ h => h) (Or.inl ⟨by rfl, ?hy7⟩) (by assumption) ?rest7
      case hy7 => (intro w hSw; (try dsimp only at hSw); go_simp; try with_reducible rfl)
      try simp only [Act.put, List.setIfInBounds_toArray, List.set_cons_zero, List.set_cons_succ]
      refine' wpAnyH_take (i := 9) (v := ?v8) rfl (by kernel_rfl) (by kernel_rfl) (by kernel_rfl) (fun _ _ _ h => h) (Or.inl ⟨by rfl, ?hy8⟩) (by assumption) ?rest8
      case hy8 => (intro w hSw; (try dsimp only at hSw); go_simp; try with_reducible rfl)
      try simp only [Act.put, List.setIfInBounds_toArray, List.set_cons_zero, List.set_cons_succ]
      refine' wpAnyH_take (i := 10) (v := ?v9) rfl (by kernel_rfl) (by kernel_rfl) (by kernel_rfl) (fun _ _ _ h => h) (Or.inl ⟨by rfl, ?hy9⟩) (by assumption) ?rest9
      case hy9 => (intro w hSw; (try dsimp only at hSw); go_simp; try with_reducible rfl)
      try simp only [Act.put, List.setIfInBounds_toArray, List.set_cons_zero, List.set_cons_succ]
      refine' wpAnyH_take (i := 11) (v := ?v10) rfl (by kernel_rfl) (by kernel_rfl) (by kernel_rfl) (fun _ _ _ h => h) (Or.inl ⟨by rfl, ?hy10⟩) (by assumption) ?rest10
      case hy10 => (intro w hSw; (try dsimp only at hSw); go_simp; try with_reducible rfl)
      try simp only [Act.put, List.setIfInBounds_toArray, List.set_cons_zero, List.set_cons_succ]
      refine' wpAnyH_take (i := 14) (v := ?v11) rfl (by kernel_rfl) (by kernel_rfl) (by kernel_rfl) (fun _ _ _ h => h) (Or.inl ⟨by rfl, ?hy11⟩) (by assumption) ?rest11
      case hy11 => (intro w hSw; (try dsimp only at hSw); go_simp; try with_reducible rfl)
      try simp only [Act.put, List.setIfInBounds_toArray, List.set_cons_zero, List.set_cons_succ]
      refine wpAnyH_ready (rs := [12]) (by kernel_rfl) (by simp) ?_
      refine AllReadyH.cons rfl (fun K hK => ?_) AllReadyH.nil
      go_simp
      refine hK.out _ _ trivial (fun hHeld => ?_)
      clear hK K
      try simp only [Act.put, List.setIfInBounds_toArray, List.set_cons_zero, List.set_cons_succ]
      refine wpAnyH_ready (rs := [13]) (by kernel_rfl) (by simp) ?_
      refine AllReadyH.cons rfl (fun K hK => ?_) AllReadyH.nil
      go_simp
      go_at_call 15
      refine (A6.out _).mono ?_
      rintro er w' ⟨rfl, b'⟩
      have HW := Lib.hid ((HW.out.alloc HW.out.size _).trans (b'.mono (Nat.le_succ_of_le HW.out.size)))
      clear b' hHeld
      go_wp2_with fail
      refine hK.out _ _ trivial (fun hHeld => ?_)
      clear hK K
      try simp only [Act.put, List.setIfInBounds_toArray, List.set_cons_zero, List.set_cons_succ]
      refine wpAnyH_ready (rs := [15]) (by kernel_rfl) (by simp) ?_
      refine AllReadyH.cons rfl (fun K hK => ?_) AllReadyH.nil
      go_simp
      go_at_call 13
      refine (A4.out _).mono ?_
      rintro er w' ⟨rfl, b'⟩
      have HW := Lib.hid (HW.out.trans (b'.mono HW.out.size))
      have HS := Lib.hid (trivial)
      clear b' hHeld
      go_wp2_with fail
      refine hK.out _ _ HS.out (fun hHeld => ?_)
      clear hK K
      try simp only [Act.put, List.setIfInBounds_toArray, List.set_cons_zero, List.set_cons_succ]
      refine' wpAnyH_take (i := 16) (v := ?v12) rfl (by kernel_rfl) (by kernel_rfl) (by kernel_rfl) (fun _ _ _ h => h) (Or.inl ⟨by rfl, ?hy12⟩) (by assumption) ?rest12
      case hy12 => (intro w hSw; (try dsimp only at hSw); go_simp; try with_reducible rfl)
      try simp only [Act.put, List.setIfInBounds_toArray, List.set_cons_zero, List.set_cons_succ]
      refine' wpAnyH_take (i := 17) (v := ?v13) rfl (by kernel_rfl) (by kernel_rfl) (by kernel_rfl) (fun _ _ _ h => h) (Or.inl ⟨by rfl, ?hy13⟩) (by assumption) ?rest13
      case hy13 => (intro w hSw; (try dsimp only at hSw); go_simp; try with_reducible rfl)
      try simp only [Act.put, List.setIfInBounds_toArray, List.set_cons_zero, List.set_cons_succ]
      refine' wpAnyH_take (i := 18) (v := ?v14) rfl (by kernel_rfl) (by kernel_rfl) (by kernel_rfl) (fun _ _ _ h => h) (Or.inl ⟨by rfl, ?hy14⟩) (by assumption) ?rest14
      case hy14 => (intro w hSw; (try dsimp only at hSw); go_simp; try with_reducible rfl)
      try simp only [Act.put, List.setIfInBounds_toArray, List.set_cons_zero, List.set_cons_succ]
      refine' wpAnyH_take (i := 19) (v := ?v15) rfl (by kernel_rfl) (by kernel_rfl) (by kernel_rfl) (fun _ _ _ h => h) (Or.inl ⟨by rfl, ?hy15⟩) (by assumption) ?rest15
      case hy15 => (intro w hSw; (try dsimp only at hSw); go_simp; try with_reducible rfl)
      try simp only [Act.put, List.setIfInBounds_toArray, List.set_cons_zero, List.set_cons_succ]
      refine wpAnyH_ready (rs := [20]) (by kernel_rfl) (by simp) ?_
      refine AllReadyH.cons rfl (fun K hK => ?_) AllReadyH.nil
      go_simp
      go_at_call 13
      refine (A4.out _).mono ?_
      rintro er w' ⟨rfl, b'⟩
      have HW := Lib.hid (HW.out.trans (b'.mono HW.out.size))
      have HS := Lib.hid (trivial)
      clear b' hHeld
      go_wp2_with fail
      refine hK.out _ _ HS.out (fun hHeld => ?_)
      clear hK K
      try simp only [Act.put, List.setIfInBounds_toArray, List.set_cons_zero, List.set_cons_succ]
      refine' wpAnyH_take (i := 21) (v := ?v16) rfl (by kernel_rfl) (by kernel_rfl) (by kernel_rfl) (fun _ _ _ h => h) (Or.inl ⟨by rfl, ?hy16⟩) (by assumption) ?rest16
      case hy16 => (intro w hSw; (try dsimp only at hSw); go_simp; try with_reducible rfl)
      try simp only [Act.put, List.setIfInBounds_toArray, List.set_cons_zero, List.set_cons_succ]
      refine' wpAnyH_take (i := 22) (v := ?v17) rfl (by kernel_rfl) (by kernel_rfl) (by kernel_rfl) (fun _ _ _ h => h) (Or.inl ⟨by rfl, ?hy17⟩) (by assumption) ?rest17
      case hy17 => (intro w hSw; (try dsimp only at hSw); go_simp; try with_reducible rfl)
      try simp only [Act.put, List.setIfInBounds_toArray, List.set_cons_zero, List.set_cons_succ]
      refine' wpAnyH_take (i := 23) (v := ?v18) rfl (by kernel_rfl) (by kernel_rfl) (by kernel_rfl) (fun _ _ _ h => h) (Or.inl ⟨by rfl, ?hy18⟩) (by assumption) ?rest18
      case hy18 => (intro w hSw; (try dsimp only at hSw); go_simp; try with_reducible rfl)
      try simp only [Act.put, List.setIfInBounds_toArray, List.set_cons_zero, List.set_cons_succ]
      refine' wpAnyH_take (i := 24) (v := ?v19) rfl (by kernel_rfl) (by kernel_rfl) (by kernel_rfl) (fun _ _ _ h => h) (Or.inl ⟨by rfl, ?hy19⟩) (by assumption) ?rest19
      case hy19 => (intro w hSw; (try dsimp only at hSw); go_simp; try with_reducible rfl)
      try simp only [Act.put, List.setIfInBounds_toArray, List.set_cons_zero, List.set_cons_succ]
      refine wpAnyH_ready (rs := [25]) (by kernel_rfl) (by simp) ?_
      refine AllReadyH.cons rfl (fun K hK => ?_) AllReadyH.nil
      go_simp
      go_at_call 12
      refine (shaAwake_any _).mono ?_
      rintro er w' ⟨rfl, b'⟩
      have HW := Lib.hid (HW.out.trans (b'.mono HW.out.size))
      have HS := Lib.hid (trivial)
      clear b' hHeld
      go_wp2_with fail
      refine hK.out _ _ HS.out (fun hHeld => ?_)
      clear hK K
      try simp only [Act.put, List.setIfInBounds_toArray, List.set_cons_zero, List.set_cons_succ]
      refine wpAnyH_take (i := 26) (v := .bool true) rfl (by kernel_rfl) (by kernel_rfl) (by kernel_rfl) (fun _ _ _ h => h) (Or.inl ⟨by rfl, ?_⟩) hHeld ?_
      · intro w hSw
        go_simp
      refine wpAnyH_take (i := 27) (v := .bool true) rfl (by kernel_rfl) (by kernel_rfl) (by kernel_rfl) (fun _ _ _ h => h) (Or.inl ⟨by rfl, ?_⟩) hHeld ?_
      · intro w hSw
        go_simp
      refine wpAnyH_done (by kernel_rfl) ?_ _
      refine NoPanic.normal ?_
      go_wp2
      go_ret
      exact ⟨rfl, HW.out⟩
end Go.Proofs.Ytclmnekadlpfkaa
