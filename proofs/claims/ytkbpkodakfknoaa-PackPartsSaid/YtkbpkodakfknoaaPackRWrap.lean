/- siloref17.Wrap; Same in both packages (a list and itself). -/
import Derived.Test.YtkbpkodakfknoaaPackWrap
import Derived.Test.YtkbpkodakfknoaaPackCmp
import Derived.Deep.RegionHeld3
import Derived.Laws.StructEq
namespace Go.Proofs.Ytkbpkodakfknoaa
open Go.RowKit
set_option linter.unusedVariables false
set_option linter.unusedSimpArgs false
set_option maxRecDepth 20000 in
set_option maxHeartbeats 2000000 in
theorem rpwrap_any (v : Value) (l : List Ob) (w : World) (hv : ObjsB w v l) (hs : smallO l) (hl : l.length ≤ 1000) :
    Calls Try.prog 13 #[v] w fun e w' => e = .returned (.string ⟨(pWrap l).toArray⟩) ∧ Below w.heap.size w w' := by
  have HS := Lib.hid hs
  have HPL := Lib.hid (fun j => pWrap_len (l.take j) (fun o ho => hs o (List.mem_of_mem_take ho)))
  obtain ⟨A, c, rfl, h2, h3, h4⟩ := hv
  have hc9 : c ≤ 9223372036854775807 := by unfold maxLen at h3; omega
  have HH4 := Lib.hid h4
  obtain ⟨n, hn⟩ : ∃ n, n = l.length := ⟨_, rfl⟩
  have HN := Lib.hid hn
  rw [← hn] at hl h2 ⊢
  clear hn hs h4 h3
  go_enter Try.func13, Try.ntmps13
  go_wp2_with fail
  go_loopw [3, 4] (fun s i wr => ∃ (j : Nat) (S : ByteArray), j ≤ n ∧ i = .int .i64 j ∧ s = .string S ∧ Hid (S.data.toList = pWrap (l.take j)) ∧ Hid (Below w.heap.size w wr)) (fun _ i _ => n - (intOf i).toNat)
  case atStart => exact ⟨0, ⟨#[]⟩, Nat.zero_le _, rfl, rfl, rfl, Below.refl _ _⟩
  case round =>
    obtain ⟨j, S, hj, rfl, rfl, HSd, HBr⟩ := hrel
    by_cases hlt : j < n
    · have hlt' : (j : Int) < (n : Int) := by omega
      have hnn := HN.out
      obtain ⟨b, off, rfl, hblt, hcells⟩ := HH4.out (by omega)
      have hml : j < l.length := by omega
      obtain ⟨x1, x2⟩ := hcells j hml
      have y1 := (HBr.out.cell (p := ⟨b, off + j * 2, none⟩) hblt).trans x1
      have y2 := (HBr.out.cell (p := ⟨b, off + j * 2 + 1, none⟩) hblt).trans x2
      have hj0 : (0 : Int) ≤ (j : Int) := by omega
      have hsz := HS.out l[j] (List.getElem_mem hml)
      have HT : Hid (pWrap (l.take (j + 1)) = pWrap (l.take j) ++ (oBytes l[j]).data.toList) := by
        unfold Hid; rw [List.take_succ_eq_append_getElem hml, pWrap_snoc]
      have hSs : S.size ≤ 100000000 := by
        have h1 := HPL.out j
        have h2 : S.data.toList.length = S.size := by rw [Array.length_toList]; rfl
        rw [HSd.out] at h2
        rw [List.length_take] at h1
        have h3 : min j l.length * 20100 ≤ 1000 * 20100 := Nat.mul_le_mul_right _ (by omega)
        omega
      have hol := (oBytes_size l[j] hsz).1
      have hk1 : l[j].1.size ≤ 20000 := by omega
      have hk2 : l[j].2.size ≤ 20000 := by omega
      have HW := Lib.hid (fun w => refWrap_any (oText l[j]) (by rw [oText_size]; omega) w)
      have hOB : (⟨(fWrap (oText l[j]).data.toList).toArray⟩ : ByteArray) = oBytes l[j] := rfl
      rw [hOB] at HW
      unfold oText at HW
      generalize l[j] = o at *
      generalize oBytes o = OB at *
      clear hcells x1 x2 hnn hOB
      go_wp2_with fail
      refine wp_region_noPanic ?_
      refine wp_region_held_drew (S := fun w' => w'.cell? ⟨b, off + j * 2, none⟩ = some (.string o.1) ∧ w'.cell? ⟨b, off + j * 2 + 1, none⟩ = some (.string o.2)) (by kernel_rfl) ⟨y1, y2⟩ (fun hHeld => ?_)
      obtain ⟨wx, hwx⟩ : ∃ wx, wx = wr.drew := ⟨_, rfl⟩
      have HBx : Hid (Below w.heap.size w wx) := by unfold Hid; rw [hwx]; exact HBr.out.drew
      have hbx : b < wx.heap.size := by have := HBx.out.size; omega
      rw [← hwx] at hHeld ⊢
      clear hwx y1 y2 HBr
      have hHd := hHeld
      refine' wpAnyH_take (i := 0) (v := ?v1) rfl (by kernel_rfl) (by kernel_rfl) (by kernel_rfl) (fun _ _ _ h => h) (Or.inl ⟨by kernel_rfl, ?hy1⟩) (by assumption) ?rest1
      case hy1 => (intro w hSw; (try dsimp only at hSw); go_simp; try with_reducible rfl)
      try simp only [Act.put, List.setIfInBounds_toArray, List.set_cons_zero, List.set_cons_succ]
      refine' wpAnyH_take (i := 1) (v := ?v2) rfl (by kernel_rfl) (by kernel_rfl) (by kernel_rfl) (fun _ _ _ h => h) (Or.inl ⟨by kernel_rfl, ?hy2⟩) (by assumption) ?rest2
      case hy2 => (intro w hSw; (try dsimp only at hSw); go_simp; try with_reducible rfl)
      try simp only [Act.put, List.setIfInBounds_toArray, List.set_cons_zero, List.set_cons_succ]
      refine' wpAnyH_take (i := 2) (v := ?v3) rfl (by kernel_rfl) (by kernel_rfl) (by kernel_rfl) (fun _ _ _ h => h) (Or.inl ⟨by kernel_rfl, ?hy3⟩) (by assumption) ?rest3
      case hy3 => (intro w hSw; (try dsimp only at hSw); go_simp; try with_reducible rfl)
      try simp only [Act.put, List.setIfInBounds_toArray, List.set_cons_zero, List.set_cons_succ]
      refine' wpAnyH_take (i := 3) (v := ?v4) rfl (by kernel_rfl) (by kernel_rfl) (by kernel_rfl) (fun _ _ _ h => h) (Or.inl ⟨by kernel_rfl, ?hy4⟩) (by assumption) ?rest4
      case hy4 => (intro w hSw; (try dsimp only at hSw); go_simp; try with_reducible rfl)
      try simp only [Act.put, List.setIfInBounds_toArray, List.set_cons_zero, List.set_cons_succ]
      refine' wpAnyH_take (i := 4) (v := ?v5) rfl (by kernel_rfl) (by kernel_rfl) (by kernel_rfl) (fun _ _ _ h => h) (Or.inl ⟨by kernel_rfl, ?hy5⟩) (by assumption) ?rest5
      case hy5 => (intro w hSw; (try dsimp only at hSw); go_simp; try with_reducible rfl)
      try simp only [Act.put, List.setIfInBounds_toArray, List.set_cons_zero, List.set_cons_succ]
      refine wpAnyH_take (i := 5) (v := .string o.1) rfl (by kernel_rfl) (by kernel_rfl) (by kernel_rfl) (fun _ _ _ h => h) (Or.inl ⟨by kernel_rfl, ?_⟩) hHeld ?_
      · intro w hSw
        have hh := hSw.1
        go_simp
      try simp only [Act.put, List.setIfInBounds_toArray, List.set_cons_zero, List.set_cons_succ]
      refine' wpAnyH_take (i := 6) (v := ?v6) rfl (by kernel_rfl) (by kernel_rfl) (by kernel_rfl) (fun _ _ _ h => h) (Or.inl ⟨by kernel_rfl, ?hy6⟩) (by assumption) ?rest6
      case hy6 => (intro w hSw; (try dsimp only at hSw); go_simp; try with_reducible rfl)
      try simp only [Act.put, List.setIfInBounds_toArray, List.set_cons_zero, List.set_cons_succ]
      refine' wpAnyH_take (i := 7) (v := ?v7) rfl (by kernel_rfl) (by kernel_rfl) (by kernel_rfl) (fun _ _ _ h => h) (Or.inl ⟨by kernel_rfl, ?hy7⟩) (by assumption) ?rest7
      case hy7 => (intro w hSw; (try dsimp only at hSw); go_simp; try with_reducible rfl)
      try simp only [Act.put, List.setIfInBounds_toArray, List.set_cons_zero, List.set_cons_succ]
      refine' wpAnyH_take (i := 8) (v := ?v8) rfl (by kernel_rfl) (by kernel_rfl) (by kernel_rfl) (fun _ _ _ h => h) (Or.inl ⟨by kernel_rfl, ?hy8⟩) (by assumption) ?rest8
      case hy8 => (intro w hSw; (try dsimp only at hSw); go_simp; try with_reducible rfl)
      try simp only [Act.put, List.setIfInBounds_toArray, List.set_cons_zero, List.set_cons_succ]
      refine' wpAnyH_take (i := 9) (v := ?v9) rfl (by kernel_rfl) (by kernel_rfl) (by kernel_rfl) (fun _ _ _ h => h) (Or.inl ⟨by kernel_rfl, ?hy9⟩) (by assumption) ?rest9
      case hy9 => (intro w hSw; (try dsimp only at hSw); go_simp; try with_reducible rfl)
      try simp only [Act.put, List.setIfInBounds_toArray, List.set_cons_zero, List.set_cons_succ]
      refine wpAnyH_take (i := 10) (v := .string o.2) rfl (by kernel_rfl) (by kernel_rfl) (by kernel_rfl) (fun _ _ _ h => h) (Or.inl ⟨by kernel_rfl, ?_⟩) hHeld ?_
      · intro w hSw
        have hh := hSw.2
        go_simp
      try simp only [Act.put, List.setIfInBounds_toArray, List.set_cons_zero, List.set_cons_succ]
      refine wpAnyH_take (i := 11) (v := .string (o.1 ++ o.2)) rfl (by kernel_rfl) (by kernel_rfl) (by kernel_rfl) (fun _ _ _ h => h) (Or.inl ⟨by kernel_rfl, ?_⟩) hHeld ?_
      · intro w hSw
        go_simp
        first | done | omega | ((try simp only [ByteArray.size_append]); omega)
      try simp only [Act.put, List.setIfInBounds_toArray, List.set_cons_zero, List.set_cons_succ]
      refine wpAnyH_ready (rs := [12]) (by kernel_rfl) (by simp) ?_
      refine AllReadyH.cons rfl (fun K hK => ?_) AllReadyH.nil
      go_simp
      go_at_call 31
      refine (HW.out _).mono ?_
      rintro er wy ⟨rfl, by1⟩
      have hHy := And.intro ((by1.cell (p := ⟨b, off + j * 2, none⟩) hbx).trans hHd.1) ((by1.cell (p := ⟨b, off + j * 2 + 1, none⟩) hbx).trans hHd.2)
      have HBy : Hid (Below w.heap.size w wy) := HBx.out.trans (by1.mono HBx.out.size)
      clear by1 HBx hHeld hHd
      go_wp2_with fail
      refine hK.out _ _ hHy (fun hHeld => ?_)
      clear hK K
      try simp only [Act.put, List.setIfInBounds_toArray, List.set_cons_zero, List.set_cons_succ]
      have hOs : OB.size ≤ 20100 := hol
      refine wpAnyH_take (i := 13) (v := .string (S ++ OB)) rfl (by kernel_rfl) (by kernel_rfl) (by kernel_rfl) (fun _ _ _ h => h) (Or.inl ⟨by kernel_rfl, ?_⟩) hHeld ?_
      · intro w hSw
        go_simp
        first | done | omega | ((try simp only [ByteArray.size_append]); omega)
      refine wpAnyH_take (i := 14) (v := .string (S ++ OB)) rfl (by kernel_rfl) (by kernel_rfl) (by kernel_rfl) (fun _ _ _ h => h) (Or.inl ⟨by kernel_rfl, ?_⟩) hHeld ?_
      · intro w hSw
        go_simp
      refine wpAnyH_done (by kernel_rfl) ?_ _
      refine NoPanic.normal ?_
      go_wp2_with fail
      go_roundw
      case rel => exact ⟨j + 1, S ++ OB, by omega, by go_num, rfl, by unfold Hid; rw [HT.out, ← HSd.out, ByteArray.data_append, Array.toList_append], HBy⟩
      case measure => simp [intOf]; omega
    · obtain rfl : j = n := by omega
      have hnn := HN.out
      have HTK : Hid (S = ⟨(pWrap l).toArray⟩) := by
        unfold Hid
        rw [← List.take_length (l := l), ← hnn, ← HSd.out]
      clear hnn
      go_wp2_with fail
      go_ret
      exact ⟨by rw [HTK.out]; rfl, HBr.out⟩
theorem eqIn_slot (a : ByteArray) (b c : Int) (w : World) : (Op.equalIn 10000 30 (.agg #[.string a, .int .i64 b, .int .i64 c]) (.agg #[.string a, .int .i64 b, .int .i64 c])).run Try.prog w = .ok true w := by
  have u3 := Try.underlying3
  have u9 := Try.underlying9
  have a3 := Try.isAgg3
  have a9 := Try.isAgg9
  have z3 := Try.sizeOf3
  have z9 := Try.sizeOf9
  have hS : Try.prog.underlying 30 = some (.struct (Try.prog.fieldsOf 30)) := by kernel_rfl
  have hp : Try.prog.stoodInHeld 30 = false := by kernel_rfl
  rw [show (10000 : Nat) = 9999 + 1 from rfl, run_equalIn_agg w 9999 30 _ _ hS hp]
  simp only [Program.fieldsOf, Try.underlying30]
  go_simp
set_option maxRecDepth 20000 in
set_option maxHeartbeats 2000000 in
theorem rsame_any (va vb : Value) (l : List Slt) (w : World) (ha : SlotsB w va l) (hb : SlotsB w vb l) :
    Calls Try.prog 11 #[va, vb] w fun e w' => e = .returned (.bool true) ∧ Below w.heap.size w w' := by
  obtain ⟨A, c, rfl, h2, h3, h4⟩ := ha
  obtain ⟨A', c', rfl, h2', h3', h4'⟩ := hb
  have hc9 : c ≤ 9223372036854775807 := by unfold maxLen at h3; omega
  have hc9' : c' ≤ 9223372036854775807 := by unfold maxLen at h3'; omega
  have HH4 := Lib.hid h4
  have HH4' := Lib.hid h4'
  obtain ⟨n, hn⟩ : ∃ n, n = l.length := ⟨_, rfl⟩
  have HN := Lib.hid hn
  rw [← hn] at h2 h2' ⊢
  clear hn h4 h3 h4' h3'
  go_enter Try.func11, Try.ntmps11
  go_wp2_with fail
  go_loopw [5] (fun i wr => ∃ j : Nat, j ≤ n ∧ i = .int .i64 j ∧ Hid (Below w.heap.size w wr)) (fun i _ => n - (intOf i).toNat)
  case atStart => exact ⟨0, Nat.zero_le _, rfl, Below.refl _ _⟩
  case round =>
    obtain ⟨j, hj, rfl, HBr⟩ := hrel
    by_cases hlt : j < n
    · have hlt' : (j : Int) < (n : Int) := by omega
      have hnn := HN.out
      obtain ⟨b, off, rfl, hblt, hcells⟩ := HH4.out (by omega)
      obtain ⟨b', off', rfl, hblt', hcells'⟩ := HH4'.out (by omega)
      have hml : j < l.length := by omega
      obtain ⟨x1, x2, x3⟩ := hcells j hml
      obtain ⟨z1, z2, z3⟩ := hcells' j hml
      have y1 := (HBr.out.cell (p := ⟨b, off + j * 3, none⟩) hblt).trans x1
      have y2 := (HBr.out.cell (p := ⟨b, off + j * 3 + 1, none⟩) hblt).trans x2
      have y3 := (HBr.out.cell (p := ⟨b, off + j * 3 + 2, none⟩) hblt).trans x3
      have u1 := (HBr.out.cell (p := ⟨b', off' + j * 3, none⟩) hblt').trans z1
      have u2 := (HBr.out.cell (p := ⟨b', off' + j * 3 + 1, none⟩) hblt').trans z2
      have u3 := (HBr.out.cell (p := ⟨b', off' + j * 3 + 2, none⟩) hblt').trans z3
      have hj0 : (0 : Int) ≤ (j : Int) := by omega
      have heq := eqIn_slot l[j].1 l[j].2.1 l[j].2.2
      generalize l[j] = o at *
      clear hcells hcells' x1 x2 x3 z1 z2 z3 hnn
      go_wp2_with fail
      go_quiet (fail)
      go_wp2_with fail
      go_roundw
      case rel => exact ⟨j + 1, by omega, by go_num, Below.drewN HBr.out _⟩
      case measure => simp [intOf]; omega
    · obtain rfl : j = n := by omega
      go_wp2_with fail
      go_ret
      exact ⟨rfl, HBr.out⟩
set_option maxRecDepth 20000 in
set_option maxHeartbeats 2000000 in
theorem equal_any (va vb : Value) (l : List Slt) (w : World) (ha : SlotsB w va l) (hb : SlotsB w vb l) :
    Calls Try.prog 32 #[va, vb] w fun e w' => e = .returned (.bool true) ∧ Below w.heap.size w w' := by
  obtain ⟨A, c, rfl, h2, h3, h4⟩ := ha
  obtain ⟨A', c', rfl, h2', h3', h4'⟩ := hb
  have hc9 : c ≤ 9223372036854775807 := by unfold maxLen at h3; omega
  have hc9' : c' ≤ 9223372036854775807 := by unfold maxLen at h3'; omega
  have HH4 := Lib.hid h4
  have HH4' := Lib.hid h4'
  obtain ⟨n, hn⟩ : ∃ n, n = l.length := ⟨_, rfl⟩
  have HN := Lib.hid hn
  rw [← hn] at h2 h2' ⊢
  clear hn h4 h3 h4' h3'
  go_enter Try.func32, Try.ntmps32
  go_wp2_with fail
  go_loopw [13] (fun i wr => ∃ j : Nat, j ≤ n ∧ i = .int .i64 j ∧ Hid (Below w.heap.size w wr)) (fun i _ => n - (intOf i).toNat)
  case atStart => exact ⟨0, Nat.zero_le _, rfl, Below.refl _ _⟩
  case round =>
    obtain ⟨j, hj, rfl, HBr⟩ := hrel
    by_cases hlt : j < n
    · have hlt' : (j : Int) < (n : Int) := by omega
      have hnn := HN.out
      obtain ⟨b, off, rfl, hblt, hcells⟩ := HH4.out (by omega)
      obtain ⟨b', off', rfl, hblt', hcells'⟩ := HH4'.out (by omega)
      have hml : j < l.length := by omega
      obtain ⟨x1, x2, x3⟩ := hcells j hml
      obtain ⟨z1, z2, z3⟩ := hcells' j hml
      have y1 := (HBr.out.cell (p := ⟨b, off + j * 3, none⟩) hblt).trans x1
      have y2 := (HBr.out.cell (p := ⟨b, off + j * 3 + 1, none⟩) hblt).trans x2
      have y3 := (HBr.out.cell (p := ⟨b, off + j * 3 + 2, none⟩) hblt).trans x3
      have u1 := (HBr.out.cell (p := ⟨b', off' + j * 3, none⟩) hblt').trans z1
      have u2 := (HBr.out.cell (p := ⟨b', off' + j * 3 + 1, none⟩) hblt').trans z2
      have u3 := (HBr.out.cell (p := ⟨b', off' + j * 3 + 2, none⟩) hblt').trans z3
      have hj0 : (0 : Int) ≤ (j : Int) := by omega
      have heq := eqIn_slot l[j].1 l[j].2.1 l[j].2.2
      generalize l[j] = o at *
      clear hcells hcells' x1 x2 x3 z1 z2 z3 hnn
      go_wp2_with fail
      go_quiet (fail)
      go_wp2_with fail
      go_roundw
      case rel => exact ⟨j + 1, by omega, by go_num, Below.drewN HBr.out _⟩
      case measure => simp [intOf]; omega
    · obtain rfl : j = n := by omega
      go_wp2_with fail
      go_ret
      exact ⟨rfl, HBr.out⟩
set_option maxHeartbeats 1000000 in
theorem psame_any (va vb : Value) (l : List Slt) (w : World) (ha : SlotsB w va l) (hb : SlotsB w vb l) :
    Calls Try.prog 14 #[va, vb] w fun e w' => e = .returned (.bool true) ∧ Below w.heap.size w w' := by
  have HE := Lib.hid (equal_any va vb l w ha hb)
  obtain ⟨A, c, rfl, _⟩ := ha
  obtain ⟨A', c', rfl, _⟩ := hb
  go_enter Try.func14, Try.ntmps14
  go_wp2_with fail
  refine (HE.out).mono ?_
  rintro e w1 ⟨rfl, b1⟩
  have HB1 := Lib.hid b1
  clear b1
  go_wp2_with fail
  go_ret
  exact ⟨rfl, HB1.out⟩
end Go.Proofs.Ytkbpkodakfknoaa
