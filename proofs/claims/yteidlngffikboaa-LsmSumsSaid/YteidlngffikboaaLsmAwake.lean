/- Walks: chapter 38's examples: awake returns true (printed by gen-lsm-awake.py). -/
import Derived.Test.YteidlngffikboaaLsmPut
import Derived.Test.YteidlngffikboaaLsmName
import Derived.IntWalk
namespace Go.Proofs.Yteidlngffikboaa
open Go.RowKit
set_option linter.unusedVariables false
set_option linter.unusedSimpArgs false
def awkS (f : Nat → UInt8) : Nat → CntS
  | 0 => ([], [])
  | j + 1 => (putL (awkS f j) (nameB (f j)) 1).1
theorem awkS_ok (f : Nat → UInt8) : ∀ j, okS (awkS f j) ∧ sizeS (awkS f j) ≤ j ∧ (awkS f j).2.length ≤ j
  | 0 => ⟨okS_nil, Nat.le_refl _, Nat.le_refl _⟩
  | j + 1 => by
    obtain ⟨h1, h2, h3⟩ := awkS_ok f j
    obtain ⟨k1, k2, k3⟩ := putL_ok h1 (nameB (f j)) 1
    exact ⟨k1, by show sizeS (putL _ _ _).1 ≤ _; omega, by show (putL _ _ _).1.2.length ≤ _; omega⟩
theorem memL_nil (k : ByteArray) : memL [] k 1 = [(k, 1)] := by unfold memL; rw [memW]; simp
theorem putL_mem {s : CntS} {k : ByteArray} {n : Int} (hk : k.size = 32) (h1 : -1000000 ≤ n ∧ n ≤ 1000000) (h2 : -bnd ≤ inL s.1 k + n ∧ inL s.1 k + n ≤ bnd) : putL s k n = if (memL s.1 k n).length < 8 then ((memL s.1 k n, s.2), 0) else if 12 ≤ s.2.length then (s, 9) else (([], comeP s.2 (memL s.1 k n)), 0) := by
  unfold putL
  rw [if_neg (fun h => h hk), if_neg (fun h => h ⟨h1.1, h1.2, h2⟩)]
theorem awk1 : ∀ j, j ≤ 8 → 1 ≤ j → awkS (fun _ => 1) j = ([(nameB 1, (j : Int))], [])
  | 0, _, h => absurd h (by omega)
  | 1, _, _ => by
    show (putL ([], []) (nameB 1) 1).1 = _
    rw [putL_mem rfl (by omega) (by simp [inL, bnd])]
    rw [memL_nil]; rfl
  | j + 2, h, _ => by
    have ih := awk1 (j + 1) (by omega) (by omega)
    show (putL (awkS (fun _ => 1) (j + 1)) (nameB 1) 1).1 = _
    rw [ih, putL_mem rfl (by omega) (by simp [inL, bnd]; omega)]
    have hm : memL [(nameB 1, ((j + 1 : Nat) : Int))] (nameB 1) 1 = [(nameB 1, ((j + 2 : Nat) : Int))] := by
      unfold memL
      rw [memW]
      dsimp only
      rw [if_neg (by rw [bl_irrefl]; simp), if_pos rfl, if_pos (by omega), memW]
      simp; omega
    dsimp only
    rw [hm]; rfl
theorem memL_last (k : ByteArray) (n : Int) (hn : n ≠ 0) : ∀ l : List Cnt, (∀ x ∈ l, bl x.1 k = true) → memL l k n = l ++ [(k, n)]
  | [], _ => by unfold memL; rw [memW]; simp [hn]
  | x :: l, h => by
    have ih := memL_last k n hn l (fun y hy => h y (by simp [hy]))
    unfold memL at *
    rw [memW, if_pos (h x (by simp)), ih]; rfl
theorem inL_none2 {l : List Cnt} {k : ByteArray} (h : ∀ x ∈ l, bl x.1 k = true) : inL l k = 0 := inL_none fun y hy e => by have := h y hy; rw [e, bl_irrefl] at this; cases this
def rows8 (j : Nat) : List Cnt := (List.range j).map fun i => (nameB (UInt8.ofNat i), 1)
theorem rows8_succ (j : Nat) : rows8 (j + 1) = rows8 j ++ [(nameB (UInt8.ofNat j), 1)] := by unfold rows8; rw [List.range_succ, List.map_append]; rfl
theorem rows8_lt : ∀ j : Fin 8, ∀ x ∈ rows8 j.val, bl x.1 (nameB (UInt8.ofNat j.val)) = true := by decide +kernel
theorem awk2 : ∀ j, j ≤ 7 → awkS UInt8.ofNat j = (rows8 j, [])
  | 0, _ => rfl
  | j + 1, h => by
    have ih := awk2 j (by omega)
    have hlt := rows8_lt ⟨j, by omega⟩
    dsimp only at hlt
    show (putL (awkS UInt8.ofNat j) (nameB (UInt8.ofNat j)) 1).1 = _
    rw [ih, putL_mem rfl (by omega) (by dsimp only; rw [inL_none2 hlt]; simp [bnd])]
    dsimp only
    rw [memL_last _ _ (by decide) _ hlt, ← rows8_succ, if_pos (by unfold rows8; simp; omega)]
theorem awk8 : awkS UInt8.ofNat 8 = ([], [rows8 8]) := by
  have hlt := rows8_lt ⟨7, by omega⟩
  dsimp only at hlt
  show (putL (awkS UInt8.ofNat 7) (nameB (UInt8.ofNat 7)) 1).1 = _
  rw [awk2 7 (by omega), putL_mem rfl (by omega) (by dsimp only; rw [inL_none2 hlt]; simp [bnd])]
  dsimp only
  rw [memL_last _ _ (by decide) _ hlt, ← rows8_succ, if_neg (by unfold rows8; simp), if_neg (by simp)]
  have hne : rows8 8 ≠ [] := by intro e; have := congrArg List.length e; simp [rows8] at this
  unfold comeP
  rw [if_neg hne, comeL]
set_option maxRecDepth 20000 in
set_option maxHeartbeats 2000000 in
theorem fit1_any (w : World) (b : Nat) (k : ByteArray) (hk : k.size = 32) (hc : w.cell? ⟨b, 0, none⟩ = some (.string k)) (hb : b < w.heap.size) :
    Calls Try.prog 29 #[.slice (some ⟨b, 0, none⟩) 1 1] w fun e w' => e = .returned (.bool true) ∧ Below w.heap.size w w' := by
  have h1 : ((k.size : Int) != 32) = false := by simp [hk]
  have h2 : (k.size != 32) = false := by simp [hk]
  clear hk
  have HB : Hid (∀ m, Below w.heap.size w (w.drewN m)) := fun m => below_drewN w m
  go_enter Try.func29, Try.ntmps29
  go_wp2_with fail
  refine wp_loop_rounds 2 ?_
  rw [rounds_succ]
  go_wp2_with fail
  go_quiet (fail)
  go_wp2_with fail
  rw [rounds_succ]
  go_wp2_with fail
  go_ret
  exact ⟨rfl, HB.out _⟩
/-- counts without rows, in another box, stay, whatever is stored into this one -/
theorem BoxL.far {w : World} {B C : Nat} {vm vr am ar x y : Value} {s s' : CntS} {W : World} (h : BoxL w B am ar s W) (hC : BoxL w C vm vr s' W) (hne : B ≠ C) (h0 : s.2 = []) : BoxL w B am ar s ((W.setCell ⟨C, 0, none⟩ x).setCell ⟨C, 1, none⟩ y) := by
  have hk := fun k (hk : k ≠ C) => set2_keep W C x y k hk
  obtain ⟨c1, c2, e5, k1, k2⟩ := hC.rows
  have e6 : vm = c1 ∧ vr = c2 := by unfold LsmV at e5; injection e5 with e5; injection e5 with e5; injection e5 with e6 e5; injection e5 with e5; exact ⟨e6, e5⟩
  obtain ⟨rfl, rfl⟩ := e6
  have hsl : ∀ o z, W.cell? ⟨C, o, none⟩ = some z → ∃ A n c, z = .slice A n c := by
    intro o z hz
    obtain ⟨A1, c1, e, _⟩ := k1.1.shape
    obtain ⟨A2, c2, e', _⟩ := k2.shape
    unfold World.cell? at hz
    rw [hC.blk] at hz
    match o, hz with
    | 0, hz => simp at hz; exact ⟨_, _, _, hz.symm.trans e⟩
    | 1, hz => simp at hz; exact ⟨_, _, _, hz.symm.trans e'⟩
    | o + 2, hz => simp at hz
  obtain ⟨d1, d2, e7, m1, m2⟩ := h.rows
  refine ⟨(hk B hne).trans h.blk, ⟨d1, d2, e7, m1.off hsl hk (by rw [set2_size]; exact Nat.le_refl _), ?_⟩, h.top, (h.low.setCell (p := ⟨C, 0, none⟩) hC.le _).setCell (p := ⟨C, 1, none⟩) hC.le _, h.le⟩
  rw [h0] at m2 ⊢
  obtain ⟨⟨A, c, q1, q2, q3, _⟩, q5⟩ := m2
  exact ⟨⟨A, c, q1, q2, q3, fun hl => absurd hl (Nat.lt_irrefl _)⟩, q5⟩
set_option maxRecDepth 20000 in
set_option maxHeartbeats 8000000 in
theorem awake_any (w : World) : Calls Try.prog 7 #[] w fun e w' => e = .returned (.bool true) ∧ Below w.heap.size w w' := by
  have HN0 : Hid (BoxL w w.heap.size (.slice none 0 0) (.slice none 0 0) (awkS (fun _ => 1) 0) (w.alloc (.cells #[.slice none 0 0, .slice none 0 0] 25))) := boxL_new w w (Below.refl _ _)
  have HNM : Hid (∀ W, Calls Try.prog 27 #[.int .u8 1] W fun e w' => e = .returned (.string (nameB 1)) ∧ Below W.heap.size W w') := fun W => name_const W 1 1 rfl
  go_enter Try.func7, Try.ntmps7
  go_wp2_with fail
  go_loopw [4] (fun a wr => ∃ j : Nat, j ≤ 8 ∧ a = .int .i64 j ∧ ∃ vm vr, Hid (BoxL w w.heap.size vm vr (awkS (fun _ => 1) j) wr)) (fun a _ => 8 - (intOf a).toNat)
  case atStart => exact ⟨0, by omega, rfl, _, _, HN0⟩
  case round =>
    obtain ⟨j, hj, rfl, vm, vr, HBX⟩ := hrel
    by_cases hlt : j < 8
    · have hlt' : (j : Int) < 8 := by omega
      go_wp2_with fail
      refine wp_region_noPanic ?_
      refine wp_region_held_drew (S := fun _ => True) (by kernel_rfl) trivial (fun hHeld => ?_)
      have hbd : Below wr.heap.size wr wr.drew := below_drewN wr 1
      have HBd : Hid (BoxL w w.heap.size vm vr (awkS (fun _ => 1) j) wr.drew) := HBX.out.below hbd
      clear HBX hbd
      generalize wr.drew = wd at *
      refine wpAnyH_ready (rs := [0, 1]) (by kernel_rfl) (by simp) ?_
      refine AllReadyH.cons rfl (fun K hK => ?_) (AllReadyH.cons rfl (fun K hK => ?_) AllReadyH.nil)
      · have x0 := HBd.out.c0
        have x1 := HBd.out.c1
        go_simp
        go_wp2_with fail
        refine hK.out _ _ trivial (fun hHeld => ?_)
        clear hK K x0 x1
        try simp only [Act.put, List.setIfInBounds_toArray, List.set_cons_zero, List.set_cons_succ]
        refine wpAnyH_ready (rs := [1]) (by kernel_rfl) (by simp) ?_
        refine AllReadyH.cons rfl (fun K hK => ?_) AllReadyH.nil
        go_simp
        go_at_call 27
        refine (HNM.out wd).mono ?_
        rintro er w2 ⟨rfl, bn⟩
        have HB2 := Lib.hid (HBd.out.below bn)
        have HBn := Lib.hid bn
        clear bn
        go_wp2_with fail
        refine hK.out _ _ trivial (fun hHeld => ?_)
        clear hK K
        try simp only [Act.put, List.setIfInBounds_toArray, List.set_cons_zero, List.set_cons_succ]
        have HPT := Lib.hid (pput_any w2 _ (awkS (fun _ => 1) j) (nameB 1) 1 HB2.out.rows (awkS_ok (fun _ => 1) j).1 (by have := (awkS_ok (fun _ => 1) j).2.1; omega) (by have := (awkS_ok (fun _ => 1) j).2.2; omega) (by omega) (by show (32 : Nat) ≤ 1000000; omega))
        unfold LsmV at HPT
        refine wpAnyH_ready (rs := [2]) (by kernel_rfl) (by simp) ?_
        refine AllReadyH.cons rfl (fun K hK => ?_) AllReadyH.nil
        go_simp
        go_at_call 16
        refine HPT.out.mono ?_
        rintro er w3 ⟨v3, rfl, hl3, b3, hf3⟩
        obtain ⟨vm3, vr3, rfl, hs3⟩ := HB2.out.store b3 hl3 hf3
        have HS3 := Lib.hid hs3
        have H3 := Lib.hid (HB2.out.below b3)
        obtain ⟨A3, n3, c3, A4, n4, c4, rfl, rfl⟩ := hs3.shapes
        have n0 := H3.out.c0
        have n1 := H3.out.c1
        have nf0 := H3.out.f 0
        have nf1 := H3.out.f 1
        clear hl3 b3 hf3 hs3 HPT
        unfold LsmV
        go_wp2_with fail
        refine hK.out _ _ trivial (fun hHeld => ?_)
        clear hK K
        try simp only [Act.put, List.setIfInBounds_toArray, List.set_cons_zero, List.set_cons_succ]
        refine' wpAnyH_take (i := 3) (v := ?v1) rfl (by kernel_rfl) (by kernel_rfl) (by kernel_rfl) (fun _ _ _ h => h) (Or.inl ⟨by kernel_rfl, ?hy1⟩) (by assumption) ?rest1
        case hy1 => (intro w hSw; (try dsimp only at hSw); go_simp; try with_reducible rfl)
        try simp only [Act.put, List.setIfInBounds_toArray, List.set_cons_zero, List.set_cons_succ]
        refine' wpAnyH_take (i := 4) (v := ?v2) rfl (by kernel_rfl) (by kernel_rfl) (by kernel_rfl) (fun _ _ _ h => h) (Or.inl ⟨by kernel_rfl, ?hy2⟩) (by assumption) ?rest2
        case hy2 => (intro w hSw; (try dsimp only at hSw); go_simp; try with_reducible rfl)
        try simp only [Act.put, List.setIfInBounds_toArray, List.set_cons_zero, List.set_cons_succ]
        refine' wpAnyH_take (i := 5) (v := ?v3) rfl (by kernel_rfl) (by kernel_rfl) (by kernel_rfl) (fun _ _ _ h => h) (Or.inl ⟨by kernel_rfl, ?hy3⟩) (by assumption) ?rest3
        case hy3 => (intro w hSw; (try dsimp only at hSw); go_simp; try with_reducible rfl)
        try simp only [Act.put, List.setIfInBounds_toArray, List.set_cons_zero, List.set_cons_succ]
        refine wpAnyH_ready (rs := [6]) (by kernel_rfl) (by simp) ?_
        refine AllReadyH.cons rfl (fun K hK => ?_) AllReadyH.nil
        go_simp
        go_wp2_with fail
        refine hK.out _ _ trivial (fun hHeld => ?_)
        clear hK K
        refine wpAnyH_done (by kernel_rfl) ?_ _
        refine NoPanic.normal ?_
        go_wp2_with fail
        go_roundw
        case rel => exact ⟨j + 1, by omega, by go_num, _, _, HS3⟩
        case measure => simp [intOf]; omega
      · go_simp
        go_at_call 27
        refine (HNM.out wd).mono ?_
        rintro er w2 ⟨rfl, bn⟩
        have HB2 := Lib.hid (HBd.out.below bn)
        have HBn := Lib.hid bn
        clear bn
        go_wp2_with fail
        refine hK.out _ _ trivial (fun hHeld => ?_)
        clear hK K
        try simp only [Act.put, List.setIfInBounds_toArray, List.set_cons_zero, List.set_cons_succ]
        refine wpAnyH_ready (rs := [0]) (by kernel_rfl) (by simp) ?_
        refine AllReadyH.cons rfl (fun K hK => ?_) AllReadyH.nil
        have x0 := HB2.out.c0
        have x1 := HB2.out.c1
        go_simp
        go_wp2_with fail
        refine hK.out _ _ trivial (fun hHeld => ?_)
        clear hK K x0 x1
        try simp only [Act.put, List.setIfInBounds_toArray, List.set_cons_zero, List.set_cons_succ]
        have HPT := Lib.hid (pput_any w2 _ (awkS (fun _ => 1) j) (nameB 1) 1 HB2.out.rows (awkS_ok (fun _ => 1) j).1 (by have := (awkS_ok (fun _ => 1) j).2.1; omega) (by have := (awkS_ok (fun _ => 1) j).2.2; omega) (by omega) (by show (32 : Nat) ≤ 1000000; omega))
        unfold LsmV at HPT
        refine wpAnyH_ready (rs := [2]) (by kernel_rfl) (by simp) ?_
        refine AllReadyH.cons rfl (fun K hK => ?_) AllReadyH.nil
        go_simp
        go_at_call 16
        refine HPT.out.mono ?_
        rintro er w3 ⟨v3, rfl, hl3, b3, hf3⟩
        obtain ⟨vm3, vr3, rfl, hs3⟩ := HB2.out.store b3 hl3 hf3
        have HS3 := Lib.hid hs3
        have H3 := Lib.hid (HB2.out.below b3)
        obtain ⟨A3, n3, c3, A4, n4, c4, rfl, rfl⟩ := hs3.shapes
        have n0 := H3.out.c0
        have n1 := H3.out.c1
        have nf0 := H3.out.f 0
        have nf1 := H3.out.f 1
        clear hl3 b3 hf3 hs3 HPT
        unfold LsmV
        go_wp2_with fail
        refine hK.out _ _ trivial (fun hHeld => ?_)
        clear hK K
        try simp only [Act.put, List.setIfInBounds_toArray, List.set_cons_zero, List.set_cons_succ]
        refine' wpAnyH_take (i := 3) (v := ?v4) rfl (by kernel_rfl) (by kernel_rfl) (by kernel_rfl) (fun _ _ _ h => h) (Or.inl ⟨by kernel_rfl, ?hy4⟩) (by assumption) ?rest4
        case hy4 => (intro w hSw; (try dsimp only at hSw); go_simp; try with_reducible rfl)
        try simp only [Act.put, List.setIfInBounds_toArray, List.set_cons_zero, List.set_cons_succ]
        refine' wpAnyH_take (i := 4) (v := ?v5) rfl (by kernel_rfl) (by kernel_rfl) (by kernel_rfl) (fun _ _ _ h => h) (Or.inl ⟨by kernel_rfl, ?hy5⟩) (by assumption) ?rest5
        case hy5 => (intro w hSw; (try dsimp only at hSw); go_simp; try with_reducible rfl)
        try simp only [Act.put, List.setIfInBounds_toArray, List.set_cons_zero, List.set_cons_succ]
        refine' wpAnyH_take (i := 5) (v := ?v6) rfl (by kernel_rfl) (by kernel_rfl) (by kernel_rfl) (fun _ _ _ h => h) (Or.inl ⟨by kernel_rfl, ?hy6⟩) (by assumption) ?rest6
        case hy6 => (intro w hSw; (try dsimp only at hSw); go_simp; try with_reducible rfl)
        try simp only [Act.put, List.setIfInBounds_toArray, List.set_cons_zero, List.set_cons_succ]
        refine wpAnyH_ready (rs := [6]) (by kernel_rfl) (by simp) ?_
        refine AllReadyH.cons rfl (fun K hK => ?_) AllReadyH.nil
        go_simp
        go_wp2_with fail
        refine hK.out _ _ trivial (fun hHeld => ?_)
        clear hK K
        refine wpAnyH_done (by kernel_rfl) ?_ _
        refine NoPanic.normal ?_
        go_wp2_with fail
        go_roundw
        case rel => exact ⟨j + 1, by omega, by go_num, _, _, HS3⟩
        case measure => simp [intOf]; omega
    · obtain rfl : j = 8 := by omega
      obtain ⟨wo, rfl⟩ : ∃ wo : World, wo = wr := ⟨_, rfl⟩
      rw [show ((8 : Nat) : Int) = 8 from rfl]
      have HWO : Hid (w.heap.size < wo.heap.size) := HBX.out.lt
      have HN2 : Hid (BoxL w wo.heap.size (.slice none 0 0) (.slice none 0 0) (awkS UInt8.ofNat 0) (wo.alloc (.cells #[.slice none 0 0, .slice none 0 0] 25))) := boxL_new w wo HBX.out.low
      have HB1 : Hid (BoxL w w.heap.size vm vr (awkS (fun _ => 1) 8) (wo.alloc (.cells #[.slice none 0 0, .slice none 0 0] 25))) := HBX.out.below ((Below.refl _ _).alloc (Nat.le_refl _) _)
      obtain ⟨A1, n1, c1, A2, n2, c2, rfl, rfl⟩ := HBX.out.shapes
      clear HBX HN0
      have H81 : Hid (awkS (fun _ => 1) 8 = ([(nameB 1, 8)], [])) := awk1 8 (Nat.le_refl _) (by omega)
      go_wp2_with fail
      go_loopw [13] (fun a wr => ∃ j : Nat, j ≤ 8 ∧ a = .int .i64 j ∧ ∃ vm vr, Hid (BoxL w wo.heap.size vm vr (awkS UInt8.ofNat j) wr) ∧ Hid (BoxL w w.heap.size (.slice A1 n1 c1) (.slice A2 n2 c2) (awkS (fun _ => 1) 8) wr)) (fun a _ => 8 - (intOf a).toNat)
      case atStart => exact ⟨0, by omega, rfl, _, _, HN2, HB1⟩
      case round =>
        clear HN2 HB1 HNM
        obtain ⟨j, hj, rfl, vm, vr, HBX, HB1⟩ := hrel
        by_cases hlt : j < 8
        · have hlt' : (j : Int) < 8 := by omega
          have hj7 : (j : Int) ≤ 7 := by omega
          have HNM : Hid (∀ W, Calls Try.prog 27 #[.int .u8 (j : Int)] W fun e w' => e = .returned (.string (nameB (UInt8.ofNat j))) ∧ Below W.heap.size W w') := fun W => name_const W (UInt8.ofNat j) j (by simp; omega)
          go_wp2_with fail
          refine wp_region_noPanic ?_
          refine wp_region_held_drew (S := fun _ => True) (by kernel_rfl) trivial (fun hHeld => ?_)
          have hbd : Below wr.heap.size wr wr.drew := below_drewN wr 1
          have HBd : Hid (BoxL w wo.heap.size vm vr (awkS UInt8.ofNat j) wr.drew) := HBX.out.below hbd
          have HB1d : Hid (BoxL w w.heap.size (.slice A1 n1 c1) (.slice A2 n2 c2) (awkS (fun _ => 1) 8) wr.drew) := HB1.out.below hbd
          clear HB1
          clear HBX hbd
          generalize wr.drew = wd at *
          refine' wpAnyH_take (i := 1) (v := ?v7) rfl (by kernel_rfl) (by kernel_rfl) (by kernel_rfl) (fun _ _ _ h => h) (Or.inl ⟨by kernel_rfl, ?hy7⟩) (by assumption) ?rest7
          case hy7 => (intro w hSw; (try dsimp only at hSw); go_simp; try with_reducible rfl)
          try simp only [Act.put, List.setIfInBounds_toArray, List.set_cons_zero, List.set_cons_succ]
          refine wpAnyH_take (i := 2) (v := .int .u8 (j : Int)) rfl (by kernel_rfl) (by kernel_rfl) (by kernel_rfl) (fun _ _ _ h => h) (Or.inl ⟨by kernel_rfl, ?_⟩) hHeld ?_
          · intro w hSw
            have hj1 := hj7
            go_simp
            all_goals (try rw [IntWalk.u8_in _ (by omega)])
          try simp only [Act.put, List.setIfInBounds_toArray, List.set_cons_zero, List.set_cons_succ]
          refine wpAnyH_ready (rs := [0, 3]) (by kernel_rfl) (by simp) ?_
          refine AllReadyH.cons rfl (fun K hK => ?_) (AllReadyH.cons rfl (fun K hK => ?_) AllReadyH.nil)
          · have x0 := HBd.out.c0
            have x1 := HBd.out.c1
            go_simp
            go_wp2_with fail
            refine hK.out _ _ trivial (fun hHeld => ?_)
            clear hK K x0 x1
            try simp only [Act.put, List.setIfInBounds_toArray, List.set_cons_zero, List.set_cons_succ]
            refine wpAnyH_ready (rs := [3]) (by kernel_rfl) (by simp) ?_
            refine AllReadyH.cons rfl (fun K hK => ?_) AllReadyH.nil
            go_simp
            go_at_call 27
            refine (HNM.out wd).mono ?_
            rintro er w2 ⟨rfl, bn⟩
            have HB2 := Lib.hid (HBd.out.below bn)
            have HBn := Lib.hid bn
            clear bn
            go_wp2_with fail
            refine hK.out _ _ trivial (fun hHeld => ?_)
            clear hK K
            try simp only [Act.put, List.setIfInBounds_toArray, List.set_cons_zero, List.set_cons_succ]
            have HPT := Lib.hid (pput_any w2 _ (awkS UInt8.ofNat j) (nameB (UInt8.ofNat j)) 1 HB2.out.rows (awkS_ok UInt8.ofNat j).1 (by have := (awkS_ok UInt8.ofNat j).2.1; omega) (by have := (awkS_ok UInt8.ofNat j).2.2; omega) (by omega) (by show (32 : Nat) ≤ 1000000; omega))
            unfold LsmV at HPT
            refine wpAnyH_ready (rs := [4]) (by kernel_rfl) (by simp) ?_
            refine AllReadyH.cons rfl (fun K hK => ?_) AllReadyH.nil
            go_simp
            go_at_call 16
            refine HPT.out.mono ?_
            rintro er w3 ⟨v3, rfl, hl3, b3, hf3⟩
            obtain ⟨vm3, vr3, rfl, hs3⟩ := HB2.out.store b3 hl3 hf3
            have HS3 := Lib.hid hs3
            have H3 := Lib.hid (HB2.out.below b3)
            have HO3 := Lib.hid (((HB1d.out.below HBn.out).below b3))
            obtain ⟨A3, n3, c3, A4, n4, c4, rfl, rfl⟩ := hs3.shapes
            have n0 := H3.out.c0
            have n1 := H3.out.c1
            have nf0 := H3.out.f 0
            have nf1 := H3.out.f 1
            clear hl3 b3 hf3 hs3 HPT
            unfold LsmV
            go_wp2_with fail
            refine hK.out _ _ trivial (fun hHeld => ?_)
            clear hK K
            try simp only [Act.put, List.setIfInBounds_toArray, List.set_cons_zero, List.set_cons_succ]
            refine' wpAnyH_take (i := 5) (v := ?v8) rfl (by kernel_rfl) (by kernel_rfl) (by kernel_rfl) (fun _ _ _ h => h) (Or.inl ⟨by kernel_rfl, ?hy8⟩) (by assumption) ?rest8
            case hy8 => (intro w hSw; (try dsimp only at hSw); go_simp; try with_reducible rfl)
            try simp only [Act.put, List.setIfInBounds_toArray, List.set_cons_zero, List.set_cons_succ]
            refine' wpAnyH_take (i := 6) (v := ?v9) rfl (by kernel_rfl) (by kernel_rfl) (by kernel_rfl) (fun _ _ _ h => h) (Or.inl ⟨by kernel_rfl, ?hy9⟩) (by assumption) ?rest9
            case hy9 => (intro w hSw; (try dsimp only at hSw); go_simp; try with_reducible rfl)
            try simp only [Act.put, List.setIfInBounds_toArray, List.set_cons_zero, List.set_cons_succ]
            refine' wpAnyH_take (i := 7) (v := ?v10) rfl (by kernel_rfl) (by kernel_rfl) (by kernel_rfl) (fun _ _ _ h => h) (Or.inl ⟨by kernel_rfl, ?hy10⟩) (by assumption) ?rest10
            case hy10 => (intro w hSw; (try dsimp only at hSw); go_simp; try with_reducible rfl)
            try simp only [Act.put, List.setIfInBounds_toArray, List.set_cons_zero, List.set_cons_succ]
            refine wpAnyH_ready (rs := [8]) (by kernel_rfl) (by simp) ?_
            refine AllReadyH.cons rfl (fun K hK => ?_) AllReadyH.nil
            go_simp
            go_wp2_with fail
            refine hK.out _ _ trivial (fun hHeld => ?_)
            clear hK K
            refine wpAnyH_done (by kernel_rfl) ?_ _
            refine NoPanic.normal ?_
            go_wp2_with fail
            go_roundw
            case rel => exact ⟨j + 1, by omega, by go_num, _, _, HS3, HO3.out.far H3.out (by have := HWO.out; omega) (by rw [awk1 8 (Nat.le_refl _) (by omega)])⟩
            case measure => simp [intOf]; omega
          · go_simp
            go_at_call 27
            refine (HNM.out wd).mono ?_
            rintro er w2 ⟨rfl, bn⟩
            have HB2 := Lib.hid (HBd.out.below bn)
            have HBn := Lib.hid bn
            clear bn
            go_wp2_with fail
            refine hK.out _ _ trivial (fun hHeld => ?_)
            clear hK K
            try simp only [Act.put, List.setIfInBounds_toArray, List.set_cons_zero, List.set_cons_succ]
            refine wpAnyH_ready (rs := [0]) (by kernel_rfl) (by simp) ?_
            refine AllReadyH.cons rfl (fun K hK => ?_) AllReadyH.nil
            have x0 := HB2.out.c0
            have x1 := HB2.out.c1
            go_simp
            go_wp2_with fail
            refine hK.out _ _ trivial (fun hHeld => ?_)
            clear hK K x0 x1
            try simp only [Act.put, List.setIfInBounds_toArray, List.set_cons_zero, List.set_cons_succ]
            have HPT := Lib.hid (pput_any w2 _ (awkS UInt8.ofNat j) (nameB (UInt8.ofNat j)) 1 HB2.out.rows (awkS_ok UInt8.ofNat j).1 (by have := (awkS_ok UInt8.ofNat j).2.1; omega) (by have := (awkS_ok UInt8.ofNat j).2.2; omega) (by omega) (by show (32 : Nat) ≤ 1000000; omega))
            unfold LsmV at HPT
            refine wpAnyH_ready (rs := [4]) (by kernel_rfl) (by simp) ?_
            refine AllReadyH.cons rfl (fun K hK => ?_) AllReadyH.nil
            go_simp
            go_at_call 16
            refine HPT.out.mono ?_
            rintro er w3 ⟨v3, rfl, hl3, b3, hf3⟩
            obtain ⟨vm3, vr3, rfl, hs3⟩ := HB2.out.store b3 hl3 hf3
            have HS3 := Lib.hid hs3
            have H3 := Lib.hid (HB2.out.below b3)
            have HO3 := Lib.hid (((HB1d.out.below HBn.out).below b3))
            obtain ⟨A3, n3, c3, A4, n4, c4, rfl, rfl⟩ := hs3.shapes
            have n0 := H3.out.c0
            have n1 := H3.out.c1
            have nf0 := H3.out.f 0
            have nf1 := H3.out.f 1
            clear hl3 b3 hf3 hs3 HPT
            unfold LsmV
            go_wp2_with fail
            refine hK.out _ _ trivial (fun hHeld => ?_)
            clear hK K
            try simp only [Act.put, List.setIfInBounds_toArray, List.set_cons_zero, List.set_cons_succ]
            refine' wpAnyH_take (i := 5) (v := ?v11) rfl (by kernel_rfl) (by kernel_rfl) (by kernel_rfl) (fun _ _ _ h => h) (Or.inl ⟨by kernel_rfl, ?hy11⟩) (by assumption) ?rest11
            case hy11 => (intro w hSw; (try dsimp only at hSw); go_simp; try with_reducible rfl)
            try simp only [Act.put, List.setIfInBounds_toArray, List.set_cons_zero, List.set_cons_succ]
            refine' wpAnyH_take (i := 6) (v := ?v12) rfl (by kernel_rfl) (by kernel_rfl) (by kernel_rfl) (fun _ _ _ h => h) (Or.inl ⟨by kernel_rfl, ?hy12⟩) (by assumption) ?rest12
            case hy12 => (intro w hSw; (try dsimp only at hSw); go_simp; try with_reducible rfl)
            try simp only [Act.put, List.setIfInBounds_toArray, List.set_cons_zero, List.set_cons_succ]
            refine' wpAnyH_take (i := 7) (v := ?v13) rfl (by kernel_rfl) (by kernel_rfl) (by kernel_rfl) (fun _ _ _ h => h) (Or.inl ⟨by kernel_rfl, ?hy13⟩) (by assumption) ?rest13
            case hy13 => (intro w hSw; (try dsimp only at hSw); go_simp; try with_reducible rfl)
            try simp only [Act.put, List.setIfInBounds_toArray, List.set_cons_zero, List.set_cons_succ]
            refine wpAnyH_ready (rs := [8]) (by kernel_rfl) (by simp) ?_
            refine AllReadyH.cons rfl (fun K hK => ?_) AllReadyH.nil
            go_simp
            go_wp2_with fail
            refine hK.out _ _ trivial (fun hHeld => ?_)
            clear hK K
            refine wpAnyH_done (by kernel_rfl) ?_ _
            refine NoPanic.normal ?_
            go_wp2_with fail
            go_roundw
            case rel => exact ⟨j + 1, by omega, by go_num, _, _, HS3, HO3.out.far H3.out (by have := HWO.out; omega) (by rw [awk1 8 (Nat.le_refl _) (by omega)])⟩
            case measure => simp [intOf]; omega
        · obtain rfl : j = 8 := by omega
          have HNM : Hid (∀ W, Calls Try.prog 27 #[.int .u8 1] W fun e w' => e = .returned (.string (nameB 1)) ∧ Below W.heap.size W w') := fun W => name_const W 1 1 rfl
          have hbd : Below wr.heap.size wr wr.drew := below_drewN wr 1
          have HBd : Hid (BoxL w wo.heap.size vm vr ([], [rows8 8]) wr.drew) := by
            have := HBX.out.below hbd
            rw [awk8] at this
            exact this
          have HB1d : Hid (BoxL w w.heap.size (.slice A1 n1 c1) (.slice A2 n2 c2) ([(nameB 1, 8)], []) wr.drew) := by
            have := HB1.out.below hbd
            rw [H81.out] at this
            exact this
          obtain ⟨a1, a2, e5, k1, k2⟩ := HBd.out.rows
          have e6 : vm = a1 ∧ vr = a2 := by unfold LsmV at e5; injection e5 with e5; injection e5 with e5; injection e5 with e6 e5; injection e5 with e5; exact ⟨e6, e5⟩
          obtain ⟨rfl, rfl⟩ := e6
          obtain ⟨A3, c3, rfl, z3⟩ := k1.1.shape
          obtain ⟨A4, c4, rfl, z4, z5⟩ := k2.shape
          clear e5 k1 k2 z3 z4 z5 HBX HB1 hbd
          have HG : Hid (∀ W, Below wr.drew.heap.size wr.drew W → Calls Try.prog 22 #[.agg #[.slice A1 n1 c1, .slice A2 n2 c2], .string (nameB 1)] W fun e w' => e = .returned (.int .i64 8) ∧ Below W.heap.size W w') := fun W hb => by
            obtain ⟨b1, b2, e7, m1, m2⟩ := (HB1d.out.below hb).rows
            have := pGet_any W b1 b2 [(nameB 1, 8)] [] (nameB 1) m1 m2 (fun r hr => by
              have : r = [(nameB 1, 8)] := by simpa using hr
              rw [this]
              exact ⟨by simp [RisC], fun x hx => by rw [List.mem_singleton.1 hx]; exact ⟨rfl, by decide, by decide⟩⟩) (by simp [total]) (by simp)
            rw [← e7] at this
            have hg : getL [(nameB 1, 8)] [] (nameB 1) = 8 := by simp [getL, inL, sumIn]
            rw [hg] at this
            exact this
          go_wp2_with fail
          refine wp_region_noPanic ?_
          refine wp_region_held_drew (S := fun w' => Below wr.drew.heap.size wr.drew w') (by kernel_rfl) (Below.refl _ _) (fun hHeld => ?_)
          generalize wr.drew = wd at *
          have H1 : Hid (∀ w', Below wd.heap.size wd w' → w'.cell? ⟨w.heap.size, 0, none⟩ = some (.slice A1 n1 c1) ∧ w'.cell? ⟨w.heap.size, 1, none⟩ = some (.slice A2 n2 c2)) := fun w' hb => ⟨(HB1d.out.below hb).c0, (HB1d.out.below hb).c1⟩
          have H2 : Hid (∀ w', Below wd.heap.size wd w' → w'.cell? ⟨wo.heap.size, 0, none⟩ = some (.slice A3 0 c3) ∧ w'.cell? ⟨wo.heap.size, 1, none⟩ = some (.slice A4 1 c4)) := fun w' hb => ⟨(HBd.out.below hb).c0, (HBd.out.below hb).c1⟩
          have HLd : Hid (Below w.heap.size w wd) := HBd.out.low
          clear HBd HB1d
          refine wpAnyH_take (i := 0) (v := .agg #[.slice A1 n1 c1, .slice A2 n2 c2]) rfl (by kernel_rfl) (by kernel_rfl) (by kernel_rfl) (fun _ _ _ h => h) (Or.inl ⟨by kernel_rfl, ?_⟩) hHeld ?_
          · intro wz hSw
            obtain ⟨hh, hg⟩ := H1.out wz hSw
            go_simp
          try simp only [Act.put, List.setIfInBounds_toArray, List.set_cons_zero, List.set_cons_succ]
          refine wpAnyH_ready (rs := [1]) (by kernel_rfl) (by simp) ?_
          refine AllReadyH.cons rfl (fun K hK => ?_) AllReadyH.nil
          go_simp
          go_at_call 27
          refine (HNM.out wd).mono ?_
          rintro er w2 ⟨rfl, b2⟩
          have HB2 := Lib.hid b2
          clear b2
          go_wp2_with fail
          refine hK.out _ _ HB2.out (fun hHeld => ?_)
          clear hK K
          try simp only [Act.put, List.setIfInBounds_toArray, List.set_cons_zero, List.set_cons_succ]
          have HG2 := Lib.hid (HG.out w2 HB2.out)
          refine wpAnyH_ready (rs := [2]) (by kernel_rfl) (by simp) ?_
          refine AllReadyH.cons rfl (fun K hK => ?_) AllReadyH.nil
          go_simp
          go_at_call 22
          refine HG2.out.mono ?_
          rintro er w3 ⟨rfl, b3⟩
          have HB3 := Lib.hid (HB2.out.trans (b3.mono HB2.out.size))
          clear b3 HG2 HB2
          go_wp2_with fail
          refine hK.out _ _ HB3.out (fun hHeld => ?_)
          clear hK K
          try simp only [Act.put, List.setIfInBounds_toArray, List.set_cons_zero, List.set_cons_succ]
          refine' wpAnyH_take (i := 3) (v := ?v14) rfl (by kernel_rfl) (by kernel_rfl) (by kernel_rfl) (fun _ _ _ h => h) (Or.inl ⟨by kernel_rfl, ?hy14⟩) (by assumption) ?rest14
          case hy14 => (intro w hSw; (try dsimp only at hSw); go_simp; try with_reducible rfl)
          try simp only [Act.put, List.setIfInBounds_toArray, List.set_cons_zero, List.set_cons_succ]
          refine' wpAnyH_take (i := 4) (v := ?v15) rfl (by kernel_rfl) (by kernel_rfl) (by kernel_rfl) (fun _ _ _ h => h) (Or.inl ⟨by kernel_rfl, ?hy15⟩) (by assumption) ?rest15
          case hy15 => (intro w hSw; (try dsimp only at hSw); go_simp; try with_reducible rfl)
          try simp only [Act.put, List.setIfInBounds_toArray, List.set_cons_zero, List.set_cons_succ]
          refine' wpAnyH_take (i := 5) (v := ?v16) rfl (by kernel_rfl) (by kernel_rfl) (by kernel_rfl) (fun _ _ _ h => h) (Or.inl ⟨by kernel_rfl, ?hy16⟩) (by assumption) ?rest16
          case hy16 => (intro w hSw; (try dsimp only at hSw); go_simp; try with_reducible rfl)
          try simp only [Act.put, List.setIfInBounds_toArray, List.set_cons_zero, List.set_cons_succ]
          refine wpAnyH_take (i := 6) (v := (.slice A4 1 c4)) rfl (by kernel_rfl) (by kernel_rfl) (by kernel_rfl) (fun _ _ _ h => h) (Or.inl ⟨by kernel_rfl, ?_⟩) hHeld ?_
          · intro w hSw
            have hh := (H2.out _ hSw).2
            go_simp
          try simp only [Act.put, List.setIfInBounds_toArray, List.set_cons_zero, List.set_cons_succ]
          refine' wpAnyH_take (i := 7) (v := ?v17) rfl (by kernel_rfl) (by kernel_rfl) (by kernel_rfl) (fun _ _ _ h => h) (Or.inl ⟨by kernel_rfl, ?hy17⟩) (by assumption) ?rest17
          case hy17 => (intro w hSw; (try dsimp only at hSw); go_simp; try with_reducible rfl)
          try simp only [Act.put, List.setIfInBounds_toArray, List.set_cons_zero, List.set_cons_succ]
          refine' wpAnyH_take (i := 8) (v := ?v18) rfl (by kernel_rfl) (by kernel_rfl) (by kernel_rfl) (fun _ _ _ h => h) (Or.inl ⟨by kernel_rfl, ?hy18⟩) (by assumption) ?rest18
          case hy18 => (intro w hSw; (try dsimp only at hSw); go_simp; try with_reducible rfl)
          try simp only [Act.put, List.setIfInBounds_toArray, List.set_cons_zero, List.set_cons_succ]
          refine' wpAnyH_take (i := 9) (v := ?v19) rfl (by kernel_rfl) (by kernel_rfl) (by kernel_rfl) (fun _ _ _ h => h) (Or.inl ⟨by kernel_rfl, ?hy19⟩) (by assumption) ?rest19
          case hy19 => (intro w hSw; (try dsimp only at hSw); go_simp; try with_reducible rfl)
          try simp only [Act.put, List.setIfInBounds_toArray, List.set_cons_zero, List.set_cons_succ]
          refine' wpAnyH_take (i := 10) (v := ?v20) rfl (by kernel_rfl) (by kernel_rfl) (by kernel_rfl) (fun _ _ _ h => h) (Or.inl ⟨by kernel_rfl, ?hy20⟩) (by assumption) ?rest20
          case hy20 => (intro w hSw; (try dsimp only at hSw); go_simp; try with_reducible rfl)
          try simp only [Act.put, List.setIfInBounds_toArray, List.set_cons_zero, List.set_cons_succ]
          refine' wpAnyH_take (i := 11) (v := ?v21) rfl (by kernel_rfl) (by kernel_rfl) (by kernel_rfl) (fun _ _ _ h => h) (Or.inl ⟨by kernel_rfl, ?hy21⟩) (by assumption) ?rest21
          case hy21 => (intro w hSw; (try dsimp only at hSw); go_simp; try with_reducible rfl)
          try simp only [Act.put, List.setIfInBounds_toArray, List.set_cons_zero, List.set_cons_succ]
          refine wpAnyH_take (i := 12) (v := (.slice A3 0 c3)) rfl (by kernel_rfl) (by kernel_rfl) (by kernel_rfl) (fun _ _ _ h => h) (Or.inl ⟨by kernel_rfl, ?_⟩) hHeld ?_
          · intro w hSw
            have hh := (H2.out _ hSw).1
            go_simp
          try simp only [Act.put, List.setIfInBounds_toArray, List.set_cons_zero, List.set_cons_succ]
          refine' wpAnyH_take (i := 13) (v := ?v22) rfl (by kernel_rfl) (by kernel_rfl) (by kernel_rfl) (fun _ _ _ h => h) (Or.inl ⟨by kernel_rfl, ?hy22⟩) (by assumption) ?rest22
          case hy22 => (intro w hSw; (try dsimp only at hSw); go_simp; try with_reducible rfl)
          try simp only [Act.put, List.setIfInBounds_toArray, List.set_cons_zero, List.set_cons_succ]
          refine' wpAnyH_take (i := 14) (v := ?v23) rfl (by kernel_rfl) (by kernel_rfl) (by kernel_rfl) (fun _ _ _ h => h) (Or.inl ⟨by kernel_rfl, ?hy23⟩) (by assumption) ?rest23
          case hy23 => (intro w hSw; (try dsimp only at hSw); go_simp; try with_reducible rfl)
          try simp only [Act.put, List.setIfInBounds_toArray, List.set_cons_zero, List.set_cons_succ]
          refine' wpAnyH_take (i := 15) (v := ?v24) rfl (by kernel_rfl) (by kernel_rfl) (by kernel_rfl) (fun _ _ _ h => h) (Or.inl ⟨by kernel_rfl, ?hy24⟩) (by assumption) ?rest24
          case hy24 => (intro w hSw; (try dsimp only at hSw); go_simp; try with_reducible rfl)
          try simp only [Act.put, List.setIfInBounds_toArray, List.set_cons_zero, List.set_cons_succ]
          refine' wpAnyH_take (i := 16) (v := ?v25) rfl (by kernel_rfl) (by kernel_rfl) (by kernel_rfl) (fun _ _ _ h => h) (Or.inl ⟨by kernel_rfl, ?hy25⟩) (by assumption) ?rest25
          case hy25 => (intro w hSw; (try dsimp only at hSw); go_simp; try with_reducible rfl)
          try simp only [Act.put, List.setIfInBounds_toArray, List.set_cons_zero, List.set_cons_succ]
          refine wpAnyH_ready (rs := [17]) (by kernel_rfl) (by simp) ?_
          refine AllReadyH.cons rfl (fun K hK => ?_) AllReadyH.nil
          go_simp
          go_at_call 27
          refine (HNM.out w3).mono ?_
          rintro er w4 ⟨rfl, b4⟩
          have HB4 := Lib.hid (HB3.out.trans (b4.mono HB3.out.size))
          clear b4 HB3
          go_wp2_with fail
          refine hK.out _ _ HB4.out (fun hHeld => ?_)
          clear hK K
          try simp only [Act.put, List.setIfInBounds_toArray, List.set_cons_zero, List.set_cons_succ]
          refine wpAnyH_ready (rs := [18]) (by kernel_rfl) (by simp) ?_
          refine AllReadyH.cons rfl (fun K hK => ?_) AllReadyH.nil
          go_simp
          have HB5 : Hid (Below wd.heap.size wd (w4.alloc (.cells #[.string (nameB 1)] 9))) := HB4.out.alloc HB4.out.size _
          go_wp2_with fail
          refine hK.out _ _ HB5.out (fun hHeld => ?_)
          clear hK K
          try simp only [Act.put, List.setIfInBounds_toArray, List.set_cons_zero, List.set_cons_succ]
          have HF := Lib.hid (fit1_any (w4.alloc (.cells #[.string (nameB 1)] 9)) w4.heap.size (nameB 1) rfl (by unfold World.cell?; rw [World.alloc_heap_new]; rfl) (by simp))
          refine wpAnyH_ready (rs := [19]) (by kernel_rfl) (by simp) ?_
          refine AllReadyH.cons rfl (fun K hK => ?_) AllReadyH.nil
          go_simp
          go_at_call 29
          refine HF.out.mono ?_
          rintro er w6 ⟨rfl, b6⟩
          have HB6 := Lib.hid (HB5.out.trans (b6.mono HB5.out.size))
          clear b6 HB5 HF HB4
          go_wp2_with fail
          refine hK.out _ _ HB6.out (fun hHeld => ?_)
          clear hK K
          try simp only [Act.put, List.setIfInBounds_toArray, List.set_cons_zero, List.set_cons_succ]
          refine wpAnyH_take (i := 20) (v := .bool true) rfl (by kernel_rfl) (by kernel_rfl) (by kernel_rfl) (fun _ _ _ h => h) (Or.inl ⟨by kernel_rfl, ?_⟩) (by assumption) ?_
          · intro wz hSw
            go_simp
          refine wpAnyH_take (i := 21) (v := .bool true) rfl (by kernel_rfl) (by kernel_rfl) (by kernel_rfl) (fun _ _ _ h => h) (Or.inl ⟨by kernel_rfl, ?_⟩) (by assumption) ?_
          · intro wz hSw
            go_simp
          refine wpAnyH_done (by kernel_rfl) ?_ _
          refine NoPanic.normal ?_
          go_wp2_with fail
          go_ret
          exact ⟨rfl, HLd.out.trans (HB6.out.mono HLd.out.size)⟩
end Go.Proofs.Yteidlngffikboaa
