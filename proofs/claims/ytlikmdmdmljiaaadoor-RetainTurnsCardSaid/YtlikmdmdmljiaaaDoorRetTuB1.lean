/- RetainTurns: walk of one arm (written by gen-ret-turns.py). -/
import Derived.Test.YtlikmdmdmljiaaaDoorRetTuS
namespace Go.Proofs.YtlikmdmdmljiaaaDoor
open Go.RowKit
set_option linter.unusedVariables false
set_option linter.unusedSimpArgs false

set_option maxRecDepth 20000 in
set_option maxHeartbeats 8000000 in
theorem turns_b1 (N n k : Int) (is : Bool) (d t u : Cal.Dt) (W : World) (ht : Tab W) (h0 : 0 ≤ N) (h1 : N < 4294967296) (hn : N % 6000000 = n)
    (gt : 1970 ≤ t.y ∧ t.y ≤ 20000 ∧ 1 ≤ t.m ∧ t.m ≤ 12 ∧ 1 ≤ t.d ∧ t.d ≤ 31)
    (HA : ∀ w, Calls Tryd.prog 15 #[.int .i64 n] w fun e w' => e = .returned (.agg #[.int .i64 t.y, .int .i64 t.m, .int .i64 t.d]) ∧ Below w.heap.size w w')
    (HB : ∀ w, Calls Tryd.prog 15 #[.int .i64 (n + 1)] w fun e w' => e = .returned (.agg #[.int .i64 u.y, .int .i64 u.m, .int .i64 u.d]) ∧ Below w.heap.size w w')
    (HD : ∀ w, Calls Tryd.prog 13 #[.agg #[.int .i64 t.y, .int .i64 t.m, .int .i64 t.d]] w fun e w' => e = .returned (.tuple #[.int .i64 n, .bool true]) ∧ Below w.heap.size w w')
    (HK : ∀ w, Calls Tryd.prog 13 #[.agg #[.int .i64 d.y, .int .i64 d.m, .int .i64 d.d]] w fun e w' => e = .returned (.tuple #[.int .i64 k, .bool is]) ∧ Below w.heap.size w w')
    (H3 : is = false ∧ k = 0 ∨ is = true ∧ 8388608 < k ∨ is = true ∧ k ≤ 8388608 ∧ ∀ w, Calls Tryd.prog 15 #[.int .i64 k] w fun e w' => e = .returned (.agg #[.int .i64 d.y, .int .i64 d.m, .int .i64 d.d]) ∧ Below w.heap.size w w')
    (HQ : ∀ w, (binOp .eql 42 (.agg #[.int .i64 u.y, .int .i64 u.m, .int .i64 u.d]) (.agg #[.int .i64 t.y, .int .i64 t.m, .int .i64 (t.d + 1)])).run Tryd.prog w = .ok (.bool false) w)
    (HG : ∀ w x y, (eqGuard .eql 42 x y (.agg #[.int .i64 u.y, .int .i64 u.m, .int .i64 u.d]) (.agg #[.int .i64 t.y, .int .i64 t.m, .int .i64 (t.d + 1)])).run Tryd.prog w = .ok () w)
    (a1 : 28 ≤ t.d) (a2 : u.d = 1) (a3 : u.y = t.y) (a4 : u.m = t.m + 1) :
    Calls Tryd.prog 5 #[.int .u32 N, .agg #[.int .i64 d.y, .int .i64 d.m, .int .i64 d.d]] W fun e w' => e = .returned (.bool true) ∧ Below W.heap.size W w' := by
  have hqd := fun w => date_eql d d w
  have hgd := fun w x y => date_guard .eql x y d d w
  have hn0 : 0 ≤ n := by omega
  have hn1 : n < 6000000 := by omega
  have HN := Lib.hid hn; clear hn
  have HA := Lib.hid HA
  have HB := Lib.hid HB
  have HD := Lib.hid HD
  have HK := Lib.hid HK
  have H3 := Lib.hid H3
  have HQ := Lib.hid HQ
  have HG := Lib.hid HG
  have HT := Lib.hid ht; clear ht
  have dnn : decide (n = n) = true := by simp
  have x1 : decide (28 ≤ t.d) = true := by simpa using a1
  have x2 : (u.d == 1) = true := by simpa using a2
  have x3 : (u.y == t.y) = true := by simpa using a3
  have x4 : (u.m == t.m + 1) = true := by simpa using a4
  clear a2 a3 a4
  have HDD : Hid (∀ w, (binOp .eql 42 (.agg #[.int .i64 d.y, .int .i64 d.m, .int .i64 d.d]) (.agg #[.int .i64 d.y, .int .i64 d.m, .int .i64 d.d])).run Tryd.prog w = .ok (.bool true) w) := fun w => (hqd w).trans (by simp)
  have HGD : Hid (∀ w x y, (eqGuard .eql 42 x y (.agg #[.int .i64 d.y, .int .i64 d.m, .int .i64 d.d]) (.agg #[.int .i64 d.y, .int .i64 d.m, .int .i64 d.d])).run Tryd.prog w = .ok () w) := hgd
  clear hqd hgd
  go_enter Tryd.func5, Tryd.ntmps5
  go_wp2_with (rw [HN.out])
  refine (HA.out _).mono ?_
  rintro e w1 ⟨rfl, b1⟩
  have HW : Hid (Below W.heap.size W w1) := ((Below.refl _ _).alloc (Nat.le_refl _) _).trans (b1.mono (by simp))
  have hl0 : W.heap.size < w1.heap.size := by have := b1.size; simp at this; omega
  have e0 : w1.cell? ⟨W.heap.size, 0, none⟩ = some (.int .i64 d.y) := (b1.cell (p := ⟨W.heap.size, 0, none⟩) (by simp)).trans (by simp)
  have e1 : w1.cell? ⟨W.heap.size, 1, none⟩ = some (.int .i64 d.m) := (b1.cell (p := ⟨W.heap.size, 1, none⟩) (by simp)).trans (by simp)
  have e2 : w1.cell? ⟨W.heap.size, 2, none⟩ = some (.int .i64 d.d) := (b1.cell (p := ⟨W.heap.size, 2, none⟩) (by simp)).trans (by simp)
  have HR0 := Lib.hid (And.intro e0 (And.intro e1 e2))
  clear b1 e0 e1 e2
  go_wp2_with fail
  refine (HB.out _).mono ?_
  rintro e w2 ⟨rfl, b2⟩
  replace HW := Lib.hid (HW.out.trans (b2.mono HW.out.size))
  replace HR0 := Lib.hid (And.intro ((b2.cell hl0).trans HR0.out.1) (And.intro ((b2.cell hl0).trans HR0.out.2.1) ((b2.cell hl0).trans HR0.out.2.2)))
  have hl2 : W.heap.size < w2.heap.size := Nat.lt_of_lt_of_le hl0 b2.size
  clear b2 hl0
  go_wp2_with fail
  have hS : TuS d t u W.heap.size w2.heap.size ((w2.alloc (.cells #[.int .i64 t.y, .int .i64 t.m, .int .i64 t.d] 42)).alloc (.cells #[.int .i64 u.y, .int .i64 u.m, .int .i64 u.d] 42)) := by
    have hb : Below w2.heap.size w2 ((w2.alloc (.cells #[.int .i64 t.y, .int .i64 t.m, .int .i64 t.d] 42)).alloc (.cells #[.int .i64 u.y, .int .i64 u.m, .int .i64 u.d] 42)) := ((Below.refl _ _).alloc (Nat.le_refl _) _).alloc (by simp) _
    exact ⟨(hb.cell hl2).trans HR0.out.1, (hb.cell hl2).trans HR0.out.2.1, (hb.cell hl2).trans HR0.out.2.2, by simp, by simp, by simp, by simp, by simp, by simp, by simp; omega, by simp, (HT.out.below HW.out (Nat.le_refl _)).below hb (Nat.le_refl _)⟩
  have hW : Below W.heap.size W ((w2.alloc (.cells #[.int .i64 t.y, .int .i64 t.m, .int .i64 t.d] 42)).alloc (.cells #[.int .i64 u.y, .int .i64 u.m, .int .i64 u.d] 42)) := (HW.out.alloc HW.out.size _).alloc (by have := HW.out.size; simp; omega) _
  clear HW HR0 hl2
  have HW := Lib.hid hW; clear hW
  have HS := Lib.hid hS; clear hS
  generalize ((w2.alloc (.cells #[.int .i64 t.y, .int .i64 t.m, .int .i64 t.d] 42)).alloc (.cells #[.int .i64 u.y, .int .i64 u.m, .int .i64 u.d] 42)) = wz at *
  generalize w2.heap.size = B1 at *
  refine (HD.out _).mono ?_
  rintro e w3 ⟨rfl, b3⟩
  replace HW := Lib.hid (HW.out.trans (b3.mono HW.out.size))
  replace HS := Lib.hid (HS.out.below b3)
  clear b3
  obtain ⟨c0, c1, c2, c3, c4, c5, c6, c7, c8, l0, l1, htb⟩ := HS.out
  clear htb HT
  obtain ⟨g1, g2, g3, g4, g5, g6⟩ := gt
  go_wp2_with (first | (rw [(HG.out _ _ _)]) | (rw [(HQ.out _)]))
  refine (HK.out _).mono ?_
  rintro e w4 ⟨rfl, b4⟩
  replace HW := Lib.hid (HW.out.trans (b4.mono HW.out.size))
  replace HS := Lib.hid (HS.out.below b4)
  clear b4 c0 c1 c2 c3 c4 c5 c6 c7 c8 l0 l1
  rcases H3.out with ⟨rfl, rfl⟩ | ⟨rfl, hk⟩ | ⟨rfl, hk, HV⟩
  · have dz : decide ((0 : Int) = 0) = true := by simp
    go_wp2_with fail
    clear HA HB HD HK H3 HQ HG HN g1 g2 g3 g4 g5 g6 hn0 hn1 h0 h1 a1 dnn
    clear x1 x2 x3 x4
    refine wp_region_noPanic ?_
    refine wp_region_held_drew (S := TuS d t u W.heap.size B1) (by kernel_rfl) HS.out.drew (fun hHeld => ?_)
    replace HW : Hid (Below W.heap.size W w4.drew) := Lib.hid HW.out.drew
    replace HS : Hid (TuS d t u W.heap.size B1 w4.drew) := Lib.hid HS.out.drew
    generalize w4.drew = wy at *
    refine' wpAnyH_take (i := 0) (v := ?v1) rfl (by kernel_rfl) (by kernel_rfl) (by kernel_rfl) (fun _ _ _ h => h) (Or.inl ⟨by kernel_rfl, ?hy1⟩) (by assumption) ?rest1
    case hy1 => (intro w hSw; (try dsimp only at hSw); go_simp; try with_reducible rfl)
    try simp only [Act.put, List.setIfInBounds_toArray, List.set_cons_zero, List.set_cons_succ]
    refine wpAnyH_take (i := 1) (v := .bool true) rfl (by kernel_rfl) (by kernel_rfl) (by kernel_rfl) (fun _ _ _ h => h) (Or.inl ⟨by kernel_rfl, ?_⟩) hHeld ?_
    · intro w hSw
      go_simp
      first | done | ((try rw [Int.tdiv_eq_ediv_of_nonneg (by omega)]); (try rw [Int.tmod_eq_emod_of_nonneg (by omega)]); (try rw [IntKind.wrap_i64]); (try omega))
    try simp only [Act.put, List.setIfInBounds_toArray, List.set_cons_zero, List.set_cons_succ]
    refine wpAnyH_take (i := 2) (v := .bool true) rfl (by kernel_rfl) (by kernel_rfl) (by kernel_rfl) (fun _ _ _ h => h) (Or.inl ⟨by kernel_rfl, ?_⟩) hHeld ?_
    · intro w hSw
      go_simp
      first | done | ((try rw [Int.tdiv_eq_ediv_of_nonneg (by omega)]); (try rw [Int.tmod_eq_emod_of_nonneg (by omega)]); (try rw [IntKind.wrap_i64]); (try omega))
    try simp only [Act.put, List.setIfInBounds_toArray, List.set_cons_zero, List.set_cons_succ]
    refine' wpAnyH_take (i := 3) (v := ?v2) rfl (by kernel_rfl) (by kernel_rfl) (by kernel_rfl) (fun _ _ _ h => h) (Or.inl ⟨by kernel_rfl, ?hy2⟩) (by assumption) ?rest2
    case hy2 => (intro w hSw; (try dsimp only at hSw); go_simp; try with_reducible rfl)
    try simp only [Act.put, List.setIfInBounds_toArray, List.set_cons_zero, List.set_cons_succ]
    refine wpAnyH_take (i := 4) (v := .bool true) rfl (by kernel_rfl) (by kernel_rfl) (by kernel_rfl) (fun _ _ _ h => h) (Or.inl ⟨by kernel_rfl, ?_⟩) hHeld ?_
    · intro w hSw
      go_simp
      first | done | ((try rw [Int.tdiv_eq_ediv_of_nonneg (by omega)]); (try rw [Int.tmod_eq_emod_of_nonneg (by omega)]); (try rw [IntKind.wrap_i64]); (try omega))
    try simp only [Act.put, List.setIfInBounds_toArray, List.set_cons_zero, List.set_cons_succ]
    refine wpAnyH_take (i := 5) (v := .bool true) rfl (by kernel_rfl) (by kernel_rfl) (by kernel_rfl) (fun _ _ _ h => h) (Or.inl ⟨by kernel_rfl, ?_⟩) hHeld ?_
    · intro w hSw
      go_simp
      first | done | ((try rw [Int.tdiv_eq_ediv_of_nonneg (by omega)]); (try rw [Int.tmod_eq_emod_of_nonneg (by omega)]); (try rw [IntKind.wrap_i64]); (try omega))
    try simp only [Act.put, List.setIfInBounds_toArray, List.set_cons_zero, List.set_cons_succ]
    refine wpAnyH_take (i := 6) (v := .bool true) rfl (by kernel_rfl) (by kernel_rfl) (by kernel_rfl) (fun _ _ _ h => h) (Or.inl ⟨by kernel_rfl, ?_⟩) hHeld ?_
    · intro w hSw
      go_simp
      first | done | ((try rw [Int.tdiv_eq_ediv_of_nonneg (by omega)]); (try rw [Int.tmod_eq_emod_of_nonneg (by omega)]); (try rw [IntKind.wrap_i64]); (try omega))
    try simp only [Act.put, List.setIfInBounds_toArray, List.set_cons_zero, List.set_cons_succ]
    refine wpAnyH_take (i := 7) (v := undef) rfl (by kernel_rfl) (by kernel_rfl) (by kernel_rfl) (fun _ _ _ h => h) (Or.inr ⟨by kernel_rfl, rfl⟩) (by assumption) ?_
    try simp only [Act.put, List.setIfInBounds_toArray, List.set_cons_zero, List.set_cons_succ]
    refine wpAnyH_take (i := 8) (v := undef) rfl (by kernel_rfl) (by kernel_rfl) (by kernel_rfl) (fun _ _ _ h => h) (Or.inr ⟨by kernel_rfl, rfl⟩) (by assumption) ?_
    try simp only [Act.put, List.setIfInBounds_toArray, List.set_cons_zero, List.set_cons_succ]
    refine wpAnyH_take (i := 9) (v := undef) rfl (by kernel_rfl) (by kernel_rfl) (by kernel_rfl) (fun _ _ _ h => h) (Or.inr ⟨by kernel_rfl, rfl⟩) (by assumption) ?_
    try simp only [Act.put, List.setIfInBounds_toArray, List.set_cons_zero, List.set_cons_succ]
    refine wpAnyH_take (i := 10) (v := undef) rfl (by kernel_rfl) (by kernel_rfl) (by kernel_rfl) (fun _ _ _ h => h) (Or.inr ⟨by kernel_rfl, rfl⟩) (by assumption) ?_
    try simp only [Act.put, List.setIfInBounds_toArray, List.set_cons_zero, List.set_cons_succ]
    refine wpAnyH_take (i := 11) (v := undef) rfl (by kernel_rfl) (by kernel_rfl) (by kernel_rfl) (fun _ _ _ h => h) (Or.inr ⟨by kernel_rfl, rfl⟩) (by assumption) ?_
    try simp only [Act.put, List.setIfInBounds_toArray, List.set_cons_zero, List.set_cons_succ]
    refine wpAnyH_take (i := 12) (v := undef) rfl (by kernel_rfl) (by kernel_rfl) (by kernel_rfl) (fun _ _ _ h => h) (Or.inr ⟨by kernel_rfl, rfl⟩) (by assumption) ?_
    try simp only [Act.put, List.setIfInBounds_toArray, List.set_cons_zero, List.set_cons_succ]
    refine wpAnyH_take (i := 13) (v := undef) rfl (by kernel_rfl) (by kernel_rfl) (by kernel_rfl) (fun _ _ _ h => h) (Or.inr ⟨by kernel_rfl, rfl⟩) (by assumption) ?_
    try simp only [Act.put, List.setIfInBounds_toArray, List.set_cons_zero, List.set_cons_succ]
    refine wpAnyH_take (i := 14) (v := undef) rfl (by kernel_rfl) (by kernel_rfl) (by kernel_rfl) (fun _ _ _ h => h) (Or.inr ⟨by kernel_rfl, rfl⟩) (by assumption) ?_
    try simp only [Act.put, List.setIfInBounds_toArray, List.set_cons_zero, List.set_cons_succ]
    refine wpAnyH_take (i := 15) (v := undef) rfl (by kernel_rfl) (by kernel_rfl) (by kernel_rfl) (fun _ _ _ h => h) (Or.inr ⟨by kernel_rfl, rfl⟩) (by assumption) ?_
    try simp only [Act.put, List.setIfInBounds_toArray, List.set_cons_zero, List.set_cons_succ]
    refine wpAnyH_take (i := 16) (v := undef) rfl (by kernel_rfl) (by kernel_rfl) (by kernel_rfl) (fun _ _ _ h => h) (Or.inr ⟨by kernel_rfl, rfl⟩) (by assumption) ?_
    try simp only [Act.put, List.setIfInBounds_toArray, List.set_cons_zero, List.set_cons_succ]
    refine wpAnyH_take (i := 17) (v := undef) rfl (by kernel_rfl) (by kernel_rfl) (by kernel_rfl) (fun _ _ _ h => h) (Or.inr ⟨by kernel_rfl, rfl⟩) (by assumption) ?_
    try simp only [Act.put, List.setIfInBounds_toArray, List.set_cons_zero, List.set_cons_succ]
    refine wpAnyH_take (i := 18) (v := .bool true) rfl (by kernel_rfl) (by kernel_rfl) (by kernel_rfl) (fun _ _ _ h => h) (Or.inl ⟨by kernel_rfl, ?_⟩) hHeld ?_
    · intro w hSw
      go_simp
      first | done | ((try rw [Int.tdiv_eq_ediv_of_nonneg (by omega)]); (try rw [Int.tmod_eq_emod_of_nonneg (by omega)]); (try rw [IntKind.wrap_i64]); (try omega))
    try simp only [Act.put, List.setIfInBounds_toArray, List.set_cons_zero, List.set_cons_succ]
    refine wpAnyH_take (i := 19) (v := .bool true) rfl (by kernel_rfl) (by kernel_rfl) (by kernel_rfl) (fun _ _ _ h => h) (Or.inl ⟨by kernel_rfl, ?_⟩) hHeld ?_
    · intro w hSw
      go_simp
      first | done | ((try rw [Int.tdiv_eq_ediv_of_nonneg (by omega)]); (try rw [Int.tmod_eq_emod_of_nonneg (by omega)]); (try rw [IntKind.wrap_i64]); (try omega))
    try simp only [Act.put, List.setIfInBounds_toArray, List.set_cons_zero, List.set_cons_succ]
    refine wpAnyH_ready (rs := [20]) (by kernel_rfl) (by simp) ?_
    refine AllReadyH.cons rfl (fun K hK => ?_) AllReadyH.nil
    go_simp
    go_at_call 7
    refine (retAwake_any _ HS.out.tab).mono ?_
    rintro er w' ⟨rfl, b'⟩
    have HW := Lib.hid (HW.out.trans (b'.mono HW.out.size))
    have HS := Lib.hid (HS.out.below b')
    clear b' hHeld
    go_wp2_with fail
    refine hK.out _ _ HS.out (fun hHeld => ?_)
    clear hK K
    try simp only [Act.put, List.setIfInBounds_toArray, List.set_cons_zero, List.set_cons_succ]
    refine wpAnyH_take (i := 21) (v := .bool true) rfl (by kernel_rfl) (by kernel_rfl) (by kernel_rfl) (fun _ _ _ h => h) (Or.inl ⟨by kernel_rfl, ?_⟩) hHeld ?_
    · intro w hSw
      go_simp
    refine wpAnyH_take (i := 22) (v := .bool true) rfl (by kernel_rfl) (by kernel_rfl) (by kernel_rfl) (fun _ _ _ h => h) (Or.inl ⟨by kernel_rfl, ?_⟩) hHeld ?_
    · intro w hSw
      go_simp
    refine wpAnyH_done (by kernel_rfl) ?_ _
    refine NoPanic.normal ?_
    go_wp2
    go_ret
    exact ⟨rfl, HW.out⟩
  · have dz : decide (8388608 < k) = true := by simpa using hk
    go_wp2_with fail
    clear HA HB HD HK H3 HQ HG HN g1 g2 g3 g4 g5 g6 hn0 hn1 h0 h1 a1 dnn
    clear x1 x2 x3 x4
    refine wp_region_noPanic ?_
    refine wp_region_held_drew (S := TuS d t u W.heap.size B1) (by kernel_rfl) HS.out.drew (fun hHeld => ?_)
    replace HW : Hid (Below W.heap.size W w4.drew) := Lib.hid HW.out.drew
    replace HS : Hid (TuS d t u W.heap.size B1 w4.drew) := Lib.hid HS.out.drew
    generalize w4.drew = wy at *
    refine' wpAnyH_take (i := 0) (v := ?v3) rfl (by kernel_rfl) (by kernel_rfl) (by kernel_rfl) (fun _ _ _ h => h) (Or.inl ⟨by kernel_rfl, ?hy3⟩) (by assumption) ?rest3
    case hy3 => (intro w hSw; (try dsimp only at hSw); go_simp; try with_reducible rfl)
    try simp only [Act.put, List.setIfInBounds_toArray, List.set_cons_zero, List.set_cons_succ]
    refine wpAnyH_take (i := 1) (v := .bool false) rfl (by kernel_rfl) (by kernel_rfl) (by kernel_rfl) (fun _ _ _ h => h) (Or.inl ⟨by kernel_rfl, ?_⟩) hHeld ?_
    · intro w hSw
      go_simp
      first | done | ((try rw [Int.tdiv_eq_ediv_of_nonneg (by omega)]); (try rw [Int.tmod_eq_emod_of_nonneg (by omega)]); (try rw [IntKind.wrap_i64]); (try omega))
    try simp only [Act.put, List.setIfInBounds_toArray, List.set_cons_zero, List.set_cons_succ]
    refine wpAnyH_take (i := 2) (v := .bool false) rfl (by kernel_rfl) (by kernel_rfl) (by kernel_rfl) (fun _ _ _ h => h) (Or.inl ⟨by kernel_rfl, ?_⟩) hHeld ?_
    · intro w hSw
      go_simp
      first | done | ((try rw [Int.tdiv_eq_ediv_of_nonneg (by omega)]); (try rw [Int.tmod_eq_emod_of_nonneg (by omega)]); (try rw [IntKind.wrap_i64]); (try omega))
    try simp only [Act.put, List.setIfInBounds_toArray, List.set_cons_zero, List.set_cons_succ]
    refine wpAnyH_take (i := 3) (v := undef) rfl (by kernel_rfl) (by kernel_rfl) (by kernel_rfl) (fun _ _ _ h => h) (Or.inr ⟨by kernel_rfl, rfl⟩) (by assumption) ?_
    try simp only [Act.put, List.setIfInBounds_toArray, List.set_cons_zero, List.set_cons_succ]
    refine wpAnyH_take (i := 4) (v := undef) rfl (by kernel_rfl) (by kernel_rfl) (by kernel_rfl) (fun _ _ _ h => h) (Or.inr ⟨by kernel_rfl, rfl⟩) (by assumption) ?_
    try simp only [Act.put, List.setIfInBounds_toArray, List.set_cons_zero, List.set_cons_succ]
    refine wpAnyH_take (i := 5) (v := .bool false) rfl (by kernel_rfl) (by kernel_rfl) (by kernel_rfl) (fun _ _ _ h => h) (Or.inl ⟨by kernel_rfl, ?_⟩) hHeld ?_
    · intro w hSw
      go_simp
      first | done | ((try rw [Int.tdiv_eq_ediv_of_nonneg (by omega)]); (try rw [Int.tmod_eq_emod_of_nonneg (by omega)]); (try rw [IntKind.wrap_i64]); (try omega))
    try simp only [Act.put, List.setIfInBounds_toArray, List.set_cons_zero, List.set_cons_succ]
    refine wpAnyH_take (i := 6) (v := .bool false) rfl (by kernel_rfl) (by kernel_rfl) (by kernel_rfl) (fun _ _ _ h => h) (Or.inl ⟨by kernel_rfl, ?_⟩) hHeld ?_
    · intro w hSw
      go_simp
      first | done | ((try rw [Int.tdiv_eq_ediv_of_nonneg (by omega)]); (try rw [Int.tmod_eq_emod_of_nonneg (by omega)]); (try rw [IntKind.wrap_i64]); (try omega))
    try simp only [Act.put, List.setIfInBounds_toArray, List.set_cons_zero, List.set_cons_succ]
    refine' wpAnyH_take (i := 7) (v := ?v4) rfl (by kernel_rfl) (by kernel_rfl) (by kernel_rfl) (fun _ _ _ h => h) (Or.inl ⟨by kernel_rfl, ?hy4⟩) (by assumption) ?rest4
    case hy4 => (intro w hSw; (try dsimp only at hSw); go_simp; try with_reducible rfl)
    try simp only [Act.put, List.setIfInBounds_toArray, List.set_cons_zero, List.set_cons_succ]
    refine' wpAnyH_take (i := 8) (v := ?v5) rfl (by kernel_rfl) (by kernel_rfl) (by kernel_rfl) (fun _ _ _ h => h) (Or.inl ⟨by kernel_rfl, ?hy5⟩) (by assumption) ?rest5
    case hy5 => (intro w hSw; (try dsimp only at hSw); go_simp; try with_reducible rfl)
    try simp only [Act.put, List.setIfInBounds_toArray, List.set_cons_zero, List.set_cons_succ]
    refine' wpAnyH_take (i := 9) (v := ?v6) rfl (by kernel_rfl) (by kernel_rfl) (by kernel_rfl) (fun _ _ _ h => h) (Or.inl ⟨by kernel_rfl, ?hy6⟩) (by assumption) ?rest6
    case hy6 => (intro w hSw; (try dsimp only at hSw); go_simp; try with_reducible rfl)
    try simp only [Act.put, List.setIfInBounds_toArray, List.set_cons_zero, List.set_cons_succ]
    refine wpAnyH_take (i := 10) (v := .bool true) rfl (by kernel_rfl) (by kernel_rfl) (by kernel_rfl) (fun _ _ _ h => h) (Or.inl ⟨by kernel_rfl, ?_⟩) hHeld ?_
    · intro w hSw
      go_simp
      first | done | ((try rw [Int.tdiv_eq_ediv_of_nonneg (by omega)]); (try rw [Int.tmod_eq_emod_of_nonneg (by omega)]); (try rw [IntKind.wrap_i64]); (try omega))
    try simp only [Act.put, List.setIfInBounds_toArray, List.set_cons_zero, List.set_cons_succ]
    refine wpAnyH_take (i := 11) (v := .bool true) rfl (by kernel_rfl) (by kernel_rfl) (by kernel_rfl) (fun _ _ _ h => h) (Or.inl ⟨by kernel_rfl, ?_⟩) hHeld ?_
    · intro w hSw
      go_simp
      first | done | ((try rw [Int.tdiv_eq_ediv_of_nonneg (by omega)]); (try rw [Int.tmod_eq_emod_of_nonneg (by omega)]); (try rw [IntKind.wrap_i64]); (try omega))
    try simp only [Act.put, List.setIfInBounds_toArray, List.set_cons_zero, List.set_cons_succ]
    refine wpAnyH_take (i := 12) (v := undef) rfl (by kernel_rfl) (by kernel_rfl) (by kernel_rfl) (fun _ _ _ h => h) (Or.inr ⟨by kernel_rfl, rfl⟩) (by assumption) ?_
    try simp only [Act.put, List.setIfInBounds_toArray, List.set_cons_zero, List.set_cons_succ]
    refine wpAnyH_take (i := 13) (v := undef) rfl (by kernel_rfl) (by kernel_rfl) (by kernel_rfl) (fun _ _ _ h => h) (Or.inr ⟨by kernel_rfl, rfl⟩) (by assumption) ?_
    try simp only [Act.put, List.setIfInBounds_toArray, List.set_cons_zero, List.set_cons_succ]
    refine wpAnyH_take (i := 14) (v := undef) rfl (by kernel_rfl) (by kernel_rfl) (by kernel_rfl) (fun _ _ _ h => h) (Or.inr ⟨by kernel_rfl, rfl⟩) (by assumption) ?_
    try simp only [Act.put, List.setIfInBounds_toArray, List.set_cons_zero, List.set_cons_succ]
    refine wpAnyH_take (i := 15) (v := undef) rfl (by kernel_rfl) (by kernel_rfl) (by kernel_rfl) (fun _ _ _ h => h) (Or.inr ⟨by kernel_rfl, rfl⟩) (by assumption) ?_
    try simp only [Act.put, List.setIfInBounds_toArray, List.set_cons_zero, List.set_cons_succ]
    refine wpAnyH_take (i := 16) (v := .bool true) rfl (by kernel_rfl) (by kernel_rfl) (by kernel_rfl) (fun _ _ _ h => h) (Or.inl ⟨by kernel_rfl, ?_⟩) hHeld ?_
    · intro w hSw
      go_simp
      first | done | ((try rw [Int.tdiv_eq_ediv_of_nonneg (by omega)]); (try rw [Int.tmod_eq_emod_of_nonneg (by omega)]); (try rw [IntKind.wrap_i64]); (try omega))
    try simp only [Act.put, List.setIfInBounds_toArray, List.set_cons_zero, List.set_cons_succ]
    refine wpAnyH_take (i := 17) (v := .bool true) rfl (by kernel_rfl) (by kernel_rfl) (by kernel_rfl) (fun _ _ _ h => h) (Or.inl ⟨by kernel_rfl, ?_⟩) hHeld ?_
    · intro w hSw
      go_simp
      first | done | ((try rw [Int.tdiv_eq_ediv_of_nonneg (by omega)]); (try rw [Int.tmod_eq_emod_of_nonneg (by omega)]); (try rw [IntKind.wrap_i64]); (try omega))
    try simp only [Act.put, List.setIfInBounds_toArray, List.set_cons_zero, List.set_cons_succ]
    refine wpAnyH_take (i := 18) (v := .bool true) rfl (by kernel_rfl) (by kernel_rfl) (by kernel_rfl) (fun _ _ _ h => h) (Or.inl ⟨by kernel_rfl, ?_⟩) hHeld ?_
    · intro w hSw
      go_simp
      first | done | ((try rw [Int.tdiv_eq_ediv_of_nonneg (by omega)]); (try rw [Int.tmod_eq_emod_of_nonneg (by omega)]); (try rw [IntKind.wrap_i64]); (try omega))
    try simp only [Act.put, List.setIfInBounds_toArray, List.set_cons_zero, List.set_cons_succ]
    refine wpAnyH_take (i := 19) (v := .bool true) rfl (by kernel_rfl) (by kernel_rfl) (by kernel_rfl) (fun _ _ _ h => h) (Or.inl ⟨by kernel_rfl, ?_⟩) hHeld ?_
    · intro w hSw
      go_simp
      first | done | ((try rw [Int.tdiv_eq_ediv_of_nonneg (by omega)]); (try rw [Int.tmod_eq_emod_of_nonneg (by omega)]); (try rw [IntKind.wrap_i64]); (try omega))
    try simp only [Act.put, List.setIfInBounds_toArray, List.set_cons_zero, List.set_cons_succ]
    refine wpAnyH_ready (rs := [20]) (by kernel_rfl) (by simp) ?_
    refine AllReadyH.cons rfl (fun K hK => ?_) AllReadyH.nil
    go_simp
    go_at_call 7
    refine (retAwake_any _ HS.out.tab).mono ?_
    rintro er w' ⟨rfl, b'⟩
    have HW := Lib.hid (HW.out.trans (b'.mono HW.out.size))
    have HS := Lib.hid (HS.out.below b')
    clear b' hHeld
    go_wp2_with fail
    refine hK.out _ _ HS.out (fun hHeld => ?_)
    clear hK K
    try simp only [Act.put, List.setIfInBounds_toArray, List.set_cons_zero, List.set_cons_succ]
    refine wpAnyH_take (i := 21) (v := .bool true) rfl (by kernel_rfl) (by kernel_rfl) (by kernel_rfl) (fun _ _ _ h => h) (Or.inl ⟨by kernel_rfl, ?_⟩) hHeld ?_
    · intro w hSw
      go_simp
    refine wpAnyH_take (i := 22) (v := .bool true) rfl (by kernel_rfl) (by kernel_rfl) (by kernel_rfl) (fun _ _ _ h => h) (Or.inl ⟨by kernel_rfl, ?_⟩) hHeld ?_
    · intro w hSw
      go_simp
    refine wpAnyH_done (by kernel_rfl) ?_ _
    refine NoPanic.normal ?_
    go_wp2
    go_ret
    exact ⟨rfl, HW.out⟩
  · have dz : decide (8388608 < k) = false := by simp; omega
    have HL : Hid ((Tryd.prog.info? 42).map (·.size) = some (#[Value.int .i64 d.y, .int .i64 d.m, .int .i64 d.d] : Array Value).toList.length) := by unfold Hid; kernel_rfl
    go_wp2_with fail
    clear HA HB HD HK H3 HQ HG HN g1 g2 g3 g4 g5 g6 hn0 hn1 h0 h1 a1 dnn
    clear x1 x2 x3 x4
    refine wp_region_noPanic ?_
    refine wp_region_held_drew (S := TuS d t u W.heap.size B1) (by kernel_rfl) HS.out.drew (fun hHeld => ?_)
    replace HW : Hid (Below W.heap.size W w4.drew) := Lib.hid HW.out.drew
    replace HS : Hid (TuS d t u W.heap.size B1 w4.drew) := Lib.hid HS.out.drew
    generalize w4.drew = wy at *
    refine' wpAnyH_take (i := 0) (v := ?v7) rfl (by kernel_rfl) (by kernel_rfl) (by kernel_rfl) (fun _ _ _ h => h) (Or.inl ⟨by kernel_rfl, ?hy7⟩) (by assumption) ?rest7
    case hy7 => (intro w hSw; (try dsimp only at hSw); go_simp; try with_reducible rfl)
    try simp only [Act.put, List.setIfInBounds_toArray, List.set_cons_zero, List.set_cons_succ]
    refine wpAnyH_take (i := 1) (v := .bool false) rfl (by kernel_rfl) (by kernel_rfl) (by kernel_rfl) (fun _ _ _ h => h) (Or.inl ⟨by kernel_rfl, ?_⟩) hHeld ?_
    · intro w hSw
      go_simp
      first | done | ((try rw [Int.tdiv_eq_ediv_of_nonneg (by omega)]); (try rw [Int.tmod_eq_emod_of_nonneg (by omega)]); (try rw [IntKind.wrap_i64]); (try omega))
    try simp only [Act.put, List.setIfInBounds_toArray, List.set_cons_zero, List.set_cons_succ]
    refine wpAnyH_take (i := 2) (v := .bool false) rfl (by kernel_rfl) (by kernel_rfl) (by kernel_rfl) (fun _ _ _ h => h) (Or.inl ⟨by kernel_rfl, ?_⟩) hHeld ?_
    · intro w hSw
      go_simp
      first | done | ((try rw [Int.tdiv_eq_ediv_of_nonneg (by omega)]); (try rw [Int.tmod_eq_emod_of_nonneg (by omega)]); (try rw [IntKind.wrap_i64]); (try omega))
    try simp only [Act.put, List.setIfInBounds_toArray, List.set_cons_zero, List.set_cons_succ]
    refine wpAnyH_take (i := 3) (v := undef) rfl (by kernel_rfl) (by kernel_rfl) (by kernel_rfl) (fun _ _ _ h => h) (Or.inr ⟨by kernel_rfl, rfl⟩) (by assumption) ?_
    try simp only [Act.put, List.setIfInBounds_toArray, List.set_cons_zero, List.set_cons_succ]
    refine wpAnyH_take (i := 4) (v := undef) rfl (by kernel_rfl) (by kernel_rfl) (by kernel_rfl) (fun _ _ _ h => h) (Or.inr ⟨by kernel_rfl, rfl⟩) (by assumption) ?_
    try simp only [Act.put, List.setIfInBounds_toArray, List.set_cons_zero, List.set_cons_succ]
    refine wpAnyH_take (i := 5) (v := .bool false) rfl (by kernel_rfl) (by kernel_rfl) (by kernel_rfl) (fun _ _ _ h => h) (Or.inl ⟨by kernel_rfl, ?_⟩) hHeld ?_
    · intro w hSw
      go_simp
      first | done | ((try rw [Int.tdiv_eq_ediv_of_nonneg (by omega)]); (try rw [Int.tmod_eq_emod_of_nonneg (by omega)]); (try rw [IntKind.wrap_i64]); (try omega))
    try simp only [Act.put, List.setIfInBounds_toArray, List.set_cons_zero, List.set_cons_succ]
    refine wpAnyH_take (i := 6) (v := .bool false) rfl (by kernel_rfl) (by kernel_rfl) (by kernel_rfl) (fun _ _ _ h => h) (Or.inl ⟨by kernel_rfl, ?_⟩) hHeld ?_
    · intro w hSw
      go_simp
      first | done | ((try rw [Int.tdiv_eq_ediv_of_nonneg (by omega)]); (try rw [Int.tmod_eq_emod_of_nonneg (by omega)]); (try rw [IntKind.wrap_i64]); (try omega))
    try simp only [Act.put, List.setIfInBounds_toArray, List.set_cons_zero, List.set_cons_succ]
    refine' wpAnyH_take (i := 7) (v := ?v8) rfl (by kernel_rfl) (by kernel_rfl) (by kernel_rfl) (fun _ _ _ h => h) (Or.inl ⟨by kernel_rfl, ?hy8⟩) (by assumption) ?rest8
    case hy8 => (intro w hSw; (try dsimp only at hSw); go_simp; try with_reducible rfl)
    try simp only [Act.put, List.setIfInBounds_toArray, List.set_cons_zero, List.set_cons_succ]
    refine' wpAnyH_take (i := 8) (v := ?v9) rfl (by kernel_rfl) (by kernel_rfl) (by kernel_rfl) (fun _ _ _ h => h) (Or.inl ⟨by kernel_rfl, ?hy9⟩) (by assumption) ?rest9
    case hy9 => (intro w hSw; (try dsimp only at hSw); go_simp; try with_reducible rfl)
    try simp only [Act.put, List.setIfInBounds_toArray, List.set_cons_zero, List.set_cons_succ]
    refine' wpAnyH_take (i := 9) (v := ?v10) rfl (by kernel_rfl) (by kernel_rfl) (by kernel_rfl) (fun _ _ _ h => h) (Or.inl ⟨by kernel_rfl, ?hy10⟩) (by assumption) ?rest10
    case hy10 => (intro w hSw; (try dsimp only at hSw); go_simp; try with_reducible rfl)
    try simp only [Act.put, List.setIfInBounds_toArray, List.set_cons_zero, List.set_cons_succ]
    refine wpAnyH_take (i := 10) (v := .bool false) rfl (by kernel_rfl) (by kernel_rfl) (by kernel_rfl) (fun _ _ _ h => h) (Or.inl ⟨by kernel_rfl, ?_⟩) hHeld ?_
    · intro w hSw
      go_simp
      first | done | ((try rw [Int.tdiv_eq_ediv_of_nonneg (by omega)]); (try rw [Int.tmod_eq_emod_of_nonneg (by omega)]); (try rw [IntKind.wrap_i64]); (try omega))
    try simp only [Act.put, List.setIfInBounds_toArray, List.set_cons_zero, List.set_cons_succ]
    refine wpAnyH_take (i := 11) (v := .bool false) rfl (by kernel_rfl) (by kernel_rfl) (by kernel_rfl) (fun _ _ _ h => h) (Or.inl ⟨by kernel_rfl, ?_⟩) hHeld ?_
    · intro w hSw
      go_simp
      first | done | ((try rw [Int.tdiv_eq_ediv_of_nonneg (by omega)]); (try rw [Int.tmod_eq_emod_of_nonneg (by omega)]); (try rw [IntKind.wrap_i64]); (try omega))
    try simp only [Act.put, List.setIfInBounds_toArray, List.set_cons_zero, List.set_cons_succ]
    refine' wpAnyH_take (i := 12) (v := ?v11) rfl (by kernel_rfl) (by kernel_rfl) (by kernel_rfl) (fun _ _ _ h => h) (Or.inl ⟨by kernel_rfl, ?hy11⟩) (by assumption) ?rest11
    case hy11 => (intro w hSw; (try dsimp only at hSw); go_simp; try with_reducible rfl)
    try simp only [Act.put, List.setIfInBounds_toArray, List.set_cons_zero, List.set_cons_succ]
    refine wpAnyH_take (i := 14) (v := .agg #[.int .i64 d.y, .int .i64 d.m, .int .i64 d.d]) rfl (by kernel_rfl) (by kernel_rfl) (by kernel_rfl) (fun _ _ _ h => h) (Or.inl ⟨by kernel_rfl, ?_⟩) hHeld ?_
    · intro w hSw
      have q0 := hSw.d0
      have q1 := hSw.d1
      have q2 := hSw.d2
      go_simp
    try simp only [Act.put, List.setIfInBounds_toArray, List.set_cons_zero, List.set_cons_succ]
    refine wpAnyH_ready (rs := [13]) (by kernel_rfl) (by simp) ?_
    refine AllReadyH.cons rfl (fun K hK => ?_) AllReadyH.nil
    go_simp
    go_at_call 15
    refine (HV _).mono ?_
    rintro er w' ⟨rfl, b'⟩
    have HW := Lib.hid (HW.out.trans (b'.mono HW.out.size))
    have HS := Lib.hid (HS.out.below b')
    clear b' hHeld
    go_wp2_with fail
    refine hK.out _ _ HS.out (fun hHeld => ?_)
    clear hK K
    try simp only [Act.put, List.setIfInBounds_toArray, List.set_cons_zero, List.set_cons_succ]
    refine wpAnyH_take (i := 15) (v := .bool true) rfl (by kernel_rfl) (by kernel_rfl) (by kernel_rfl) (fun _ _ _ h => h) (Or.inl ⟨by kernel_rfl, ?_⟩) hHeld ?_
    · intro w hSw
      have hh := HDD.out w
      have hg := HGD.out w
      go_simp
    try simp only [Act.put, List.setIfInBounds_toArray, List.set_cons_zero, List.set_cons_succ]
    refine wpAnyH_take (i := 16) (v := .bool true) rfl (by kernel_rfl) (by kernel_rfl) (by kernel_rfl) (fun _ _ _ h => h) (Or.inl ⟨by kernel_rfl, ?_⟩) hHeld ?_
    · intro w hSw
      go_simp
      first | done | ((try rw [Int.tdiv_eq_ediv_of_nonneg (by omega)]); (try rw [Int.tmod_eq_emod_of_nonneg (by omega)]); (try rw [IntKind.wrap_i64]); (try omega))
    try simp only [Act.put, List.setIfInBounds_toArray, List.set_cons_zero, List.set_cons_succ]
    refine wpAnyH_take (i := 17) (v := .bool true) rfl (by kernel_rfl) (by kernel_rfl) (by kernel_rfl) (fun _ _ _ h => h) (Or.inl ⟨by kernel_rfl, ?_⟩) hHeld ?_
    · intro w hSw
      go_simp
      first | done | ((try rw [Int.tdiv_eq_ediv_of_nonneg (by omega)]); (try rw [Int.tmod_eq_emod_of_nonneg (by omega)]); (try rw [IntKind.wrap_i64]); (try omega))
    try simp only [Act.put, List.setIfInBounds_toArray, List.set_cons_zero, List.set_cons_succ]
    refine wpAnyH_take (i := 18) (v := .bool true) rfl (by kernel_rfl) (by kernel_rfl) (by kernel_rfl) (fun _ _ _ h => h) (Or.inl ⟨by kernel_rfl, ?_⟩) hHeld ?_
    · intro w hSw
      go_simp
      first | done | ((try rw [Int.tdiv_eq_ediv_of_nonneg (by omega)]); (try rw [Int.tmod_eq_emod_of_nonneg (by omega)]); (try rw [IntKind.wrap_i64]); (try omega))
    try simp only [Act.put, List.setIfInBounds_toArray, List.set_cons_zero, List.set_cons_succ]
    refine wpAnyH_take (i := 19) (v := .bool true) rfl (by kernel_rfl) (by kernel_rfl) (by kernel_rfl) (fun _ _ _ h => h) (Or.inl ⟨by kernel_rfl, ?_⟩) hHeld ?_
    · intro w hSw
      go_simp
      first | done | ((try rw [Int.tdiv_eq_ediv_of_nonneg (by omega)]); (try rw [Int.tmod_eq_emod_of_nonneg (by omega)]); (try rw [IntKind.wrap_i64]); (try omega))
    try simp only [Act.put, List.setIfInBounds_toArray, List.set_cons_zero, List.set_cons_succ]
    refine wpAnyH_ready (rs := [20]) (by kernel_rfl) (by simp) ?_
    refine AllReadyH.cons rfl (fun K hK => ?_) AllReadyH.nil
    go_simp
    go_at_call 7
    refine (retAwake_any _ HS.out.tab).mono ?_
    rintro er w' ⟨rfl, b'⟩
    have HW := Lib.hid (HW.out.trans (b'.mono HW.out.size))
    have HS := Lib.hid (HS.out.below b')
    clear b' hHeld
    go_wp2_with fail
    refine hK.out _ _ HS.out (fun hHeld => ?_)
    clear hK K
    try simp only [Act.put, List.setIfInBounds_toArray, List.set_cons_zero, List.set_cons_succ]
    refine wpAnyH_take (i := 21) (v := .bool true) rfl (by kernel_rfl) (by kernel_rfl) (by kernel_rfl) (fun _ _ _ h => h) (Or.inl ⟨by kernel_rfl, ?_⟩) hHeld ?_
    · intro w hSw
      go_simp
    refine wpAnyH_take (i := 22) (v := .bool true) rfl (by kernel_rfl) (by kernel_rfl) (by kernel_rfl) (fun _ _ _ h => h) (Or.inl ⟨by kernel_rfl, ?_⟩) hHeld ?_
    · intro w hSw
      go_simp
    refine wpAnyH_done (by kernel_rfl) ?_ _
    refine NoPanic.normal ?_
    go_wp2
    go_ret
    exact ⟨rfl, HW.out⟩

end Go.Proofs.YtlikmdmdmljiaaaDoor
