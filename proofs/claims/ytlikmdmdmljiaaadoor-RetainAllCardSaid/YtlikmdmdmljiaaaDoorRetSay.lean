/- moment, Text, awake: walks. -/
import Derived.Test.YtlikmdmdmljiaaaDoorRetText
namespace Go.Proofs.YtlikmdmdmljiaaaDoor
open Go.RowKit
set_option linter.unusedVariables false
set_option linter.unusedSimpArgs false
set_option maxRecDepth 20000 in
set_option maxHeartbeats 1000000 in
theorem moment_any (n : Int) (w : World) : Calls Tryd.prog 29 #[.int .i64 n] w fun e w' => e = .returned (.bool (decide (0 ≤ n ∧ n ≤ 274877906944))) ∧ Below w.heap.size w w' := by
  by_cases h0 : 0 ≤ n
  · have d0 : decide (0 ≤ n) = true := by simpa using h0
    by_cases h1 : n ≤ 274877906944
    · have d1 : decide (n ≤ 274877906944) = true := by simpa using h1
      go_enter Tryd.func29, Tryd.ntmps29
      go_wp2
      go_ret
      exact ⟨by simp [h0, h1], Below.refl _ _⟩
    · have d1 : decide (n ≤ 274877906944) = false := by simpa using h1
      go_enter Tryd.func29, Tryd.ntmps29
      go_wp2
      go_ret
      exact ⟨by simp [h0, h1], Below.refl _ _⟩
  · have d0 : decide (0 ≤ n) = false := by simpa using h0
    go_enter Tryd.func29, Tryd.ntmps29
    go_wp2
    go_ret
    exact ⟨by simp [h0], Below.refl _ _⟩
theorem twoB_bd (n : Int) (h0 : 0 ≤ n) (h1 : n ≤ 1000000) : (twoB n).size ≤ 22 := twoB_size n h0 h1
structure DtS (Y M D : Int) (B : Nat) (w : World) : Prop where
  y : w.cell? ⟨B, 0, none⟩ = some (.int .i64 Y)
  m : w.cell? ⟨B, 1, none⟩ = some (.int .i64 M)
  d : w.cell? ⟨B, 2, none⟩ = some (.int .i64 D)
  lt : B < w.heap.size
  tab : Tab w
theorem DtS.below {Y M D : Int} {B : Nat} {w w' : World} (h : DtS Y M D B w) (b : Below w.heap.size w w') : DtS Y M D B w' :=
  ⟨(b.cell h.lt).trans h.y, (b.cell h.lt).trans h.m, (b.cell h.lt).trans h.d, Nat.lt_of_lt_of_le h.lt b.size, h.tab.below b (Nat.le_refl _)⟩
theorem DtS.drew {Y M D : Int} {B : Nat} {w : World} (h : DtS Y M D B w) : DtS Y M D B w.drew := ⟨h.y, h.m, h.d, h.lt, h.tab⟩
theorem civC_bd (n : Int) : 0 ≤ (civC n).y ∧ (civC n).y ≤ 1000000 ∧ 0 ≤ (civC n).m ∧ (civC n).m ≤ 1000000 ∧ 0 ≤ (civC n).d ∧ (civC n).d ≤ 1000000 := by
  unfold civC
  by_cases h : n < 0 ∨ 8388608 < n
  · rw [if_pos h]; simp
  · rw [if_neg h]
    obtain ⟨p1, p2, p3, p4, p5, p6⟩ := Cal.civ_parts n (by omega)
    have m1 := Cal.mlen_le (Cal.civ n).y (Cal.civ n).m
    have c0 := Cal.cR_0 (Cal.civ n).y (Cal.civ n).m
    have hy : (Cal.civ n).y ≤ 100000 := by
      apply Int.not_lt.mp
      intro hlt
      have := Cal.sY_lt hlt
      have : (10000000 : Int) ≤ Cal.sY 100000 := by decide
      omega
    omega
def s1 (c : UInt8) : ByteArray := ⟨#[c]⟩
def textT (t : Cal.Dt) (r : Int) : ByteArray := twoB t.y ++ s1 45 ++ twoB t.m ++ s1 45 ++ twoB t.d ++ s1 32 ++ twoB (r / 3600) ++ s1 58 ++ twoB (r / 60 % 60) ++ s1 58 ++ twoB (r % 60)
def textB (n : Int) : ByteArray := if 0 ≤ n ∧ n ≤ 274877906944 then textT (civC (n / 86400)) (n % 86400) else .empty
set_option maxRecDepth 20000 in
set_option maxHeartbeats 2000000 in
theorem text_in (n : Int) (w : World) (h0 : 0 ≤ n) (h1 : n ≤ 274877906944) (ht : Tab w) : Calls Tryd.prog 17 #[.int .i64 n] w fun e w' => e = .returned (.string (textB n)) ∧ Below w.heap.size w w' := by
  have hm : decide (0 ≤ n ∧ n ≤ 274877906944) = true := by simp; omega
  have HM := Lib.hid (moment_any n w); rw [hm] at HM
  have hE : textB n = textT (civC (n / 86400)) (n % 86400) := by unfold textB; rw [if_pos ⟨h0, h1⟩]
  have HE := Lib.hid hE; clear hE
  obtain ⟨hy0, hy1, hm0, hm1, hd0, hd1⟩ := civC_bd (n / 86400)
  have HC := fun w => Lib.hid (civil_any (n / 86400) w)
  generalize civC (n / 86400) = t at *
  obtain ⟨Y, M, D⟩ := t
  simp only at hy0 hy1 hm0 hm1 hd0 hd1
  replace HC : ∀ w, Hid (Calls Tryd.prog 15 #[.int .i64 (n / 86400)] w fun e w' => e = .returned (.agg #[.int .i64 Y, .int .i64 M, .int .i64 D]) ∧ Below w.heap.size w w') := HC
  have HT := Lib.hid ht; clear ht hm
  have hr0 : 0 ≤ n % 86400 := by omega
  have hr1 : n % 86400 < 86400 := by omega
  obtain ⟨r, hr⟩ : ∃ r, n % 86400 = r := ⟨_, rfl⟩
  rw [hr] at hr0 hr1 HE
  have HR := Lib.hid hr; clear hr
  have hp := twoB_size (r / 3600) (by omega) (by omega)
  have hq := twoB_size (r / 60 % 60) (by omega) (by omega)
  have hs := twoB_size (r % 60) (by omega) (by omega)
  have zy := twoB_size Y hy0 hy1
  have zm := twoB_size M hm0 hm1
  have zd := twoB_size D hd0 hd1
  have KY := fun (w : World) (h : Tab w) => Lib.hid (two_any Y w hy0 hy1 h)
  have KM := fun (w : World) (h : Tab w) => Lib.hid (two_any M w hm0 hm1 h)
  have KD := fun (w : World) (h : Tab w) => Lib.hid (two_any D w hd0 hd1 h)
  have KP := fun (w : World) (h : Tab w) => Lib.hid (two_any (r / 3600) w (by omega) (by omega) h)
  have KQ := fun (w : World) (h : Tab w) => Lib.hid (two_any (r / 60 % 60) w (by omega) (by omega) h)
  have KS := fun (w : World) (h : Tab w) => Lib.hid (two_any (r % 60) w (by omega) (by omega) h)
  have HE2 : Hid (textB n = twoB Y ++ s1 45 ++ twoB M ++ s1 45 ++ twoB D ++ s1 32 ++ twoB (r / 3600) ++ s1 58 ++ twoB (r / 60 % 60) ++ s1 58 ++ twoB (r % 60)) := HE
  clear HE
  generalize twoB Y = bY at *
  generalize twoB M = bM at *
  generalize twoB D = bD at *
  generalize twoB (r / 3600) = bP at *
  generalize twoB (r / 60 % 60) = bQ at *
  generalize twoB (r % 60) = bS at *
  clear hy0 hy1 hm0 hm1 hd0 hd1
  go_enter Tryd.func17, Tryd.ntmps17
  go_wp2_with fail
  refine HM.out.mono ?_
  rintro e w1 ⟨rfl, b1⟩
  have HW := Lib.hid b1; clear b1
  go_wp2_with fail
  refine (HC _).out.mono ?_
  rintro e w2 ⟨rfl, b2⟩
  have HW2 := Lib.hid (HW.out.trans (b2.mono HW.out.size)); clear b2
  go_wp2_with (rw [HR.out])
  have hS : DtS Y M D w2.heap.size (w2.alloc (.cells #[.int .i64 Y, .int .i64 M, .int .i64 D] 42)) :=
    ⟨by simp, by simp, by simp, by simp, (HT.out.below HW2.out (Nat.le_refl _)).below ((Below.refl _ _).alloc (Nat.le_refl _) _) (Nat.le_refl _)⟩
  have hW : Below w.heap.size w (w2.alloc (.cells #[.int .i64 Y, .int .i64 M, .int .i64 D] 42)) := HW2.out.alloc HW2.out.size _
  clear HW HW2 HT HM HC HR
  have HW := Lib.hid hW; clear hW
  have HS := Lib.hid hS; clear hS
  generalize w2.heap.size = B at *
  generalize w2.alloc (.cells #[.int .i64 Y, .int .i64 M, .int .i64 D] 42) = wz at *
  refine wp_region_noPanic ?_
  refine wp_region_held_drew (S := DtS Y M D B) (by kernel_rfl) HS.out.drew (fun hHeld => ?_)
  replace HW : Hid (Below w.heap.size w wz.drew) := Lib.hid HW.out.drew
  replace HS : Hid (DtS Y M D B wz.drew) := Lib.hid HS.out.drew
  refine' wpAnyH_take (i := 0) (v := ?v1) rfl (by kernel_rfl) (by kernel_rfl) (by kernel_rfl) (fun _ _ _ h => h) (Or.inl ⟨by kernel_rfl, ?hy1⟩) (by assumption) ?rest1
  case hy1 => (intro w hSw; (try dsimp only at hSw); go_simp; try with_reducible rfl)
  try simp only [Act.put, List.setIfInBounds_toArray, List.set_cons_zero, List.set_cons_succ]
  refine' wpAnyH_take (i := 4) (v := ?v2) rfl (by kernel_rfl) (by kernel_rfl) (by kernel_rfl) (fun _ _ _ h => h) (Or.inl ⟨by kernel_rfl, ?hy2⟩) (by assumption) ?rest2
  case hy2 => (intro w hSw; (try dsimp only at hSw); go_simp; try with_reducible rfl)
  try simp only [Act.put, List.setIfInBounds_toArray, List.set_cons_zero, List.set_cons_succ]
  refine' wpAnyH_take (i := 9) (v := ?v3) rfl (by kernel_rfl) (by kernel_rfl) (by kernel_rfl) (fun _ _ _ h => h) (Or.inl ⟨by kernel_rfl, ?hy3⟩) (by assumption) ?rest3
  case hy3 => (intro w hSw; (try dsimp only at hSw); go_simp; try with_reducible rfl)
  try simp only [Act.put, List.setIfInBounds_toArray, List.set_cons_zero, List.set_cons_succ]
  refine' wpAnyH_take (i := 14) (v := ?v4) rfl (by kernel_rfl) (by kernel_rfl) (by kernel_rfl) (fun _ _ _ h => h) (Or.inl ⟨by kernel_rfl, ?hy4⟩) (by assumption) ?rest4
  case hy4 => (intro w hSw; (try dsimp only at hSw); go_simp; try with_reducible rfl)
  try simp only [Act.put, List.setIfInBounds_toArray, List.set_cons_zero, List.set_cons_succ]
  refine' wpAnyH_take (i := 19) (v := ?v5) rfl (by kernel_rfl) (by kernel_rfl) (by kernel_rfl) (fun _ _ _ h => h) (Or.inl ⟨by kernel_rfl, ?hy5⟩) (by assumption) ?rest5
  case hy5 => (intro w hSw; (try dsimp only at hSw); go_simp; try with_reducible rfl)
  try simp only [Act.put, List.setIfInBounds_toArray, List.set_cons_zero, List.set_cons_succ]
  refine' wpAnyH_take (i := 25) (v := ?v6) rfl (by kernel_rfl) (by kernel_rfl) (by kernel_rfl) (fun _ _ _ h => h) (Or.inl ⟨by kernel_rfl, ?hy6⟩) (by assumption) ?rest6
  case hy6 => (intro w hSw; (try dsimp only at hSw); go_simp; try with_reducible rfl)
  try simp only [Act.put, List.setIfInBounds_toArray, List.set_cons_zero, List.set_cons_succ]
  refine wpAnyH_take (i := 1) (v := .int .i64 Y) rfl (by kernel_rfl) (by kernel_rfl) (by kernel_rfl) (fun _ _ _ h => h) (Or.inl ⟨by kernel_rfl, ?_⟩) hHeld ?_
  · intro w hSw
    have hh := hSw.y
    go_simp
  try simp only [Act.put, List.setIfInBounds_toArray, List.set_cons_zero, List.set_cons_succ]
  refine wpAnyH_take (i := 5) (v := .int .i64 M) rfl (by kernel_rfl) (by kernel_rfl) (by kernel_rfl) (fun _ _ _ h => h) (Or.inl ⟨by kernel_rfl, ?_⟩) hHeld ?_
  · intro w hSw
    have hh := hSw.m
    go_simp
  try simp only [Act.put, List.setIfInBounds_toArray, List.set_cons_zero, List.set_cons_succ]
  refine wpAnyH_take (i := 10) (v := .int .i64 D) rfl (by kernel_rfl) (by kernel_rfl) (by kernel_rfl) (fun _ _ _ h => h) (Or.inl ⟨by kernel_rfl, ?_⟩) hHeld ?_
  · intro w hSw
    have hh := hSw.d
    go_simp
  try simp only [Act.put, List.setIfInBounds_toArray, List.set_cons_zero, List.set_cons_succ]
  refine wpAnyH_take (i := 15) (v := .int .i64 (r / 3600)) rfl (by kernel_rfl) (by kernel_rfl) (by kernel_rfl) (fun _ _ _ h => h) (Or.inl ⟨by kernel_rfl, ?_⟩) hHeld ?_
  · intro w hSw
    go_simp
    first | done | ((try rw [Int.tdiv_eq_ediv_of_nonneg (by omega)]); (try rw [Int.tmod_eq_emod_of_nonneg (by omega)]); (try rw [IntKind.wrap_i64]); (try omega))
  try simp only [Act.put, List.setIfInBounds_toArray, List.set_cons_zero, List.set_cons_succ]
  refine wpAnyH_take (i := 20) (v := .int .i64 (r / 60)) rfl (by kernel_rfl) (by kernel_rfl) (by kernel_rfl) (fun _ _ _ h => h) (Or.inl ⟨by kernel_rfl, ?_⟩) hHeld ?_
  · intro w hSw
    go_simp
    first | done | ((try rw [Int.tdiv_eq_ediv_of_nonneg (by omega)]); (try rw [Int.tmod_eq_emod_of_nonneg (by omega)]); (try rw [IntKind.wrap_i64]); (try omega))
  try simp only [Act.put, List.setIfInBounds_toArray, List.set_cons_zero, List.set_cons_succ]
  refine wpAnyH_take (i := 21) (v := .int .i64 (r / 60 % 60)) rfl (by kernel_rfl) (by kernel_rfl) (by kernel_rfl) (fun _ _ _ h => h) (Or.inl ⟨by kernel_rfl, ?_⟩) hHeld ?_
  · intro w hSw
    go_simp
    first | done | ((try rw [Int.tdiv_eq_ediv_of_nonneg (by omega)]); (try rw [Int.tmod_eq_emod_of_nonneg (by omega)]); (try rw [IntKind.wrap_i64]); (try omega))
  try simp only [Act.put, List.setIfInBounds_toArray, List.set_cons_zero, List.set_cons_succ]
  refine wpAnyH_take (i := 26) (v := .int .i64 (r % 60)) rfl (by kernel_rfl) (by kernel_rfl) (by kernel_rfl) (fun _ _ _ h => h) (Or.inl ⟨by kernel_rfl, ?_⟩) hHeld ?_
  · intro w hSw
    go_simp
    first | done | ((try rw [Int.tdiv_eq_ediv_of_nonneg (by omega)]); (try rw [Int.tmod_eq_emod_of_nonneg (by omega)]); (try rw [IntKind.wrap_i64]); (try omega))
  try simp only [Act.put, List.setIfInBounds_toArray, List.set_cons_zero, List.set_cons_succ]
  refine wpAnyH_ready (rs := [2]) (by kernel_rfl) (by simp) ?_
  refine AllReadyH.cons rfl (fun K hK => ?_) AllReadyH.nil
  go_simp
  go_at_call 30
  refine ((KY _ HS.out.tab).out).mono ?_
  rintro er w' ⟨rfl, b'⟩
  have HW := Lib.hid (HW.out.trans (b'.mono HW.out.size))
  have HS := Lib.hid (HS.out.below b')
  clear b' hHeld
  go_wp2_with fail
  refine hK.out _ _ HS.out (fun hHeld => ?_)
  clear hK K
  try simp only [Act.put, List.setIfInBounds_toArray, List.set_cons_zero, List.set_cons_succ]
  refine wpAnyH_take (i := 3) (v := .string (bY ++ ⟨#[45]⟩)) rfl (by kernel_rfl) (by kernel_rfl) (by kernel_rfl) (fun _ _ _ h => h) (Or.inl ⟨by kernel_rfl, ?_⟩) hHeld ?_
  · intro w hSw
    go_simp
    first | done | omega | ((try simp only [ByteArray.size_append]); omega)
  try simp only [Act.put, List.setIfInBounds_toArray, List.set_cons_zero, List.set_cons_succ]
  refine wpAnyH_ready (rs := [6]) (by kernel_rfl) (by simp) ?_
  refine AllReadyH.cons rfl (fun K hK => ?_) AllReadyH.nil
  go_simp
  go_at_call 30
  refine ((KM _ HS.out.tab).out).mono ?_
  rintro er w' ⟨rfl, b'⟩
  have HW := Lib.hid (HW.out.trans (b'.mono HW.out.size))
  have HS := Lib.hid (HS.out.below b')
  clear b' hHeld
  go_wp2_with fail
  refine hK.out _ _ HS.out (fun hHeld => ?_)
  clear hK K
  try simp only [Act.put, List.setIfInBounds_toArray, List.set_cons_zero, List.set_cons_succ]
  refine wpAnyH_take (i := 7) (v := .string (bY ++ ⟨#[45]⟩ ++ bM)) rfl (by kernel_rfl) (by kernel_rfl) (by kernel_rfl) (fun _ _ _ h => h) (Or.inl ⟨by kernel_rfl, ?_⟩) hHeld ?_
  · intro w hSw
    go_simp
    first | done | omega | ((try simp only [ByteArray.size_append]); omega)
  try simp only [Act.put, List.setIfInBounds_toArray, List.set_cons_zero, List.set_cons_succ]
  refine wpAnyH_take (i := 8) (v := .string (bY ++ ⟨#[45]⟩ ++ bM ++ ⟨#[45]⟩)) rfl (by kernel_rfl) (by kernel_rfl) (by kernel_rfl) (fun _ _ _ h => h) (Or.inl ⟨by kernel_rfl, ?_⟩) hHeld ?_
  · intro w hSw
    go_simp
    first | done | omega | ((try simp only [ByteArray.size_append]); omega)
  try simp only [Act.put, List.setIfInBounds_toArray, List.set_cons_zero, List.set_cons_succ]
  refine wpAnyH_ready (rs := [11]) (by kernel_rfl) (by simp) ?_
  refine AllReadyH.cons rfl (fun K hK => ?_) AllReadyH.nil
  go_simp
  go_at_call 30
  refine ((KD _ HS.out.tab).out).mono ?_
  rintro er w' ⟨rfl, b'⟩
  have HW := Lib.hid (HW.out.trans (b'.mono HW.out.size))
  have HS := Lib.hid (HS.out.below b')
  clear b' hHeld
  go_wp2_with fail
  refine hK.out _ _ HS.out (fun hHeld => ?_)
  clear hK K
  try simp only [Act.put, List.setIfInBounds_toArray, List.set_cons_zero, List.set_cons_succ]
  refine wpAnyH_take (i := 12) (v := .string (bY ++ ⟨#[45]⟩ ++ bM ++ ⟨#[45]⟩ ++ bD)) rfl (by kernel_rfl) (by kernel_rfl) (by kernel_rfl) (fun _ _ _ h => h) (Or.inl ⟨by kernel_rfl, ?_⟩) hHeld ?_
  · intro w hSw
    go_simp
    first | done | omega | ((try simp only [ByteArray.size_append]); omega)
  try simp only [Act.put, List.setIfInBounds_toArray, List.set_cons_zero, List.set_cons_succ]
  refine wpAnyH_take (i := 13) (v := .string (bY ++ ⟨#[45]⟩ ++ bM ++ ⟨#[45]⟩ ++ bD ++ ⟨#[32]⟩)) rfl (by kernel_rfl) (by kernel_rfl) (by kernel_rfl) (fun _ _ _ h => h) (Or.inl ⟨by kernel_rfl, ?_⟩) hHeld ?_
  · intro w hSw
    go_simp
    first | done | omega | ((try simp only [ByteArray.size_append]); omega)
  try simp only [Act.put, List.setIfInBounds_toArray, List.set_cons_zero, List.set_cons_succ]
  refine wpAnyH_ready (rs := [16]) (by kernel_rfl) (by simp) ?_
  refine AllReadyH.cons rfl (fun K hK => ?_) AllReadyH.nil
  go_simp
  go_at_call 30
  refine ((KP _ HS.out.tab).out).mono ?_
  rintro er w' ⟨rfl, b'⟩
  have HW := Lib.hid (HW.out.trans (b'.mono HW.out.size))
  have HS := Lib.hid (HS.out.below b')
  clear b' hHeld
  go_wp2_with fail
  refine hK.out _ _ HS.out (fun hHeld => ?_)
  clear hK K
  try simp only [Act.put, List.setIfInBounds_toArray, List.set_cons_zero, List.set_cons_succ]
  refine wpAnyH_take (i := 17) (v := .string (bY ++ ⟨#[45]⟩ ++ bM ++ ⟨#[45]⟩ ++ bD ++ ⟨#[32]⟩ ++ bP)) rfl (by kernel_rfl) (by kernel_rfl) (by kernel_rfl) (fun _ _ _ h => h) (Or.inl ⟨by kernel_rfl, ?_⟩) hHeld ?_
  · intro w hSw
    go_simp
    first | done | omega | ((try simp only [ByteArray.size_append]); omega)
  try simp only [Act.put, List.setIfInBounds_toArray, List.set_cons_zero, List.set_cons_succ]
  refine wpAnyH_take (i := 18) (v := .string (bY ++ ⟨#[45]⟩ ++ bM ++ ⟨#[45]⟩ ++ bD ++ ⟨#[32]⟩ ++ bP ++ ⟨#[58]⟩)) rfl (by kernel_rfl) (by kernel_rfl) (by kernel_rfl) (fun _ _ _ h => h) (Or.inl ⟨by kernel_rfl, ?_⟩) hHeld ?_
  · intro w hSw
    go_simp
    first | done | omega | ((try simp only [ByteArray.size_append]); omega)
  try simp only [Act.put, List.setIfInBounds_toArray, List.set_cons_zero, List.set_cons_succ]
  refine wpAnyH_ready (rs := [22]) (by kernel_rfl) (by simp) ?_
  refine AllReadyH.cons rfl (fun K hK => ?_) AllReadyH.nil
  go_simp
  go_at_call 30
  refine ((KQ _ HS.out.tab).out).mono ?_
  rintro er w' ⟨rfl, b'⟩
  have HW := Lib.hid (HW.out.trans (b'.mono HW.out.size))
  have HS := Lib.hid (HS.out.below b')
  clear b' hHeld
  go_wp2_with fail
  refine hK.out _ _ HS.out (fun hHeld => ?_)
  clear hK K
  try simp only [Act.put, List.setIfInBounds_toArray, List.set_cons_zero, List.set_cons_succ]
  refine wpAnyH_take (i := 23) (v := .string (bY ++ ⟨#[45]⟩ ++ bM ++ ⟨#[45]⟩ ++ bD ++ ⟨#[32]⟩ ++ bP ++ ⟨#[58]⟩ ++ bQ)) rfl (by kernel_rfl) (by kernel_rfl) (by kernel_rfl) (fun _ _ _ h => h) (Or.inl ⟨by kernel_rfl, ?_⟩) hHeld ?_
  · intro w hSw
    go_simp
    first | done | omega | ((try simp only [ByteArray.size_append]); omega)
  try simp only [Act.put, List.setIfInBounds_toArray, List.set_cons_zero, List.set_cons_succ]
  refine wpAnyH_take (i := 24) (v := .string (bY ++ ⟨#[45]⟩ ++ bM ++ ⟨#[45]⟩ ++ bD ++ ⟨#[32]⟩ ++ bP ++ ⟨#[58]⟩ ++ bQ ++ ⟨#[58]⟩)) rfl (by kernel_rfl) (by kernel_rfl) (by kernel_rfl) (fun _ _ _ h => h) (Or.inl ⟨by kernel_rfl, ?_⟩) hHeld ?_
  · intro w hSw
    go_simp
    first | done | omega | ((try simp only [ByteArray.size_append]); omega)
  try simp only [Act.put, List.setIfInBounds_toArray, List.set_cons_zero, List.set_cons_succ]
  refine wpAnyH_ready (rs := [27]) (by kernel_rfl) (by simp) ?_
  refine AllReadyH.cons rfl (fun K hK => ?_) AllReadyH.nil
  go_simp
  go_at_call 30
  refine ((KS _ HS.out.tab).out).mono ?_
  rintro er w' ⟨rfl, b'⟩
  have HW := Lib.hid (HW.out.trans (b'.mono HW.out.size))
  have HS := Lib.hid (HS.out.below b')
  clear b' hHeld
  go_wp2_with fail
  refine hK.out _ _ HS.out (fun hHeld => ?_)
  clear hK K
  try simp only [Act.put, List.setIfInBounds_toArray, List.set_cons_zero, List.set_cons_succ]
  refine wpAnyH_take (i := 28) (v := .string (bY ++ ⟨#[45]⟩ ++ bM ++ ⟨#[45]⟩ ++ bD ++ ⟨#[32]⟩ ++ bP ++ ⟨#[58]⟩ ++ bQ ++ ⟨#[58]⟩ ++ bS)) rfl (by kernel_rfl) (by kernel_rfl) (by kernel_rfl) (fun _ _ _ h => h) (Or.inl ⟨by kernel_rfl, ?_⟩) hHeld ?_
  · intro w hSw
    go_simp
    first | done | omega | ((try simp only [ByteArray.size_append]); omega)
  refine wpAnyH_take (i := 29) (v := .string (bY ++ ⟨#[45]⟩ ++ bM ++ ⟨#[45]⟩ ++ bD ++ ⟨#[32]⟩ ++ bP ++ ⟨#[58]⟩ ++ bQ ++ ⟨#[58]⟩ ++ bS)) rfl (by kernel_rfl) (by kernel_rfl) (by kernel_rfl) (fun _ _ _ h => h) (Or.inl ⟨by kernel_rfl, ?_⟩) hHeld ?_
  · intro w hSw
    go_simp
  refine wpAnyH_done (by kernel_rfl) ?_ _
  refine NoPanic.normal ?_
  go_wp2
  go_ret
  exact ⟨by rw [HE2.out]; rfl, HW.out⟩
theorem text_out (n : Int) (w : World) (h : ¬ (0 ≤ n ∧ n ≤ 274877906944)) : Calls Tryd.prog 17 #[.int .i64 n] w fun e w' => e = .returned (.string (textB n)) ∧ Below w.heap.size w w' := by
  have hm : decide (0 ≤ n ∧ n ≤ 274877906944) = false := by simp only [decide_eq_false_iff_not]; exact h
  have HM := Lib.hid (moment_any n w); rw [hm] at HM
  have hE : textB n = .empty := by unfold textB; rw [if_neg h]
  rw [hE]
  clear hE hm h
  go_enter Tryd.func17, Tryd.ntmps17
  go_wp2_with fail
  refine HM.out.mono ?_
  rintro e w1 ⟨rfl, b1⟩
  have HW := Lib.hid b1; clear b1
  go_wp2
  go_ret
  exact ⟨rfl, HW.out⟩
theorem text_any (n : Int) (w : World) (ht : Tab w) : Calls Tryd.prog 17 #[.int .i64 n] w fun e w' => e = .returned (.string (textB n)) ∧ Below w.heap.size w w' := by
  by_cases h : 0 ≤ n ∧ n ≤ 274877906944
  · exact text_in n w h.1 h.2 ht
  · exact text_out n w h
end Go.Proofs.YtlikmdmdmljiaaaDoor
