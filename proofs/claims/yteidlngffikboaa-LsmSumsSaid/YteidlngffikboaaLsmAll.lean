/- siloref38.all: the keys of such counts, rising. -/
import Derived.Test.YteidlngffikboaaLsmR1
import Derived.Test.YteidlngffikboaaLsmKeysR
namespace Go.Proofs.Yteidlngffikboaa
open Go.RowKit
set_option linter.unusedVariables false
set_option linter.unusedSimpArgs false
def keysC (l : List Cnt) : List ByteArray := l.map Prod.fst
def allK (m : List Cnt) (rs : List (List Cnt)) : List ByteArray := keysC m ++ rs.flatMap keysC
theorem keysC_len (l : List Cnt) : (keysC l).length = l.length := by simp [keysC]
theorem keysC_take (l : List Cnt) (j : Nat) (h : j < l.length) : keysC (l.take (j + 1)) = keysC (l.take j) ++ [l[j].1] := by
  unfold keysC; rw [List.take_succ_eq_append_getElem h, List.map_append]; rfl
theorem flat_take (rs : List (List Cnt)) (p : Nat) (h : p < rs.length) : (rs.take (p + 1)).flatMap keysC = (rs.take p).flatMap keysC ++ keysC rs[p] := by
  rw [List.take_succ_eq_append_getElem h, List.flatMap_append]; simp only [List.flatMap_cons, List.flatMap_nil, List.append_nil]
theorem flat_len (rs : List (List Cnt)) : (rs.flatMap keysC).length = total rs := by
  unfold total; simp [List.length_flatMap, Function.comp_def, keysC]
theorem total_take (rs : List (List Cnt)) (p : Nat) : total (rs.take p) ≤ total rs := by
  unfold total
  have := congrArg (fun l => (l.map List.length).sum) (List.take_append_drop p rs)
  simp only [List.map_append, List.sum_append] at this
  omega
theorem total_get (rs : List (List Cnt)) (p : Nat) (h : p < rs.length) : total (rs.take p) + rs[p].length ≤ total rs := by
  have := total_take rs (p + 1)
  unfold total at *
  rw [List.take_succ_eq_append_getElem h, List.map_append, List.sum_append] at this
  simpa using this
set_option maxRecDepth 20000 in
set_option maxHeartbeats 4000000 in
theorem rall_any (w : World) (vm vr : Value) (m : List Cnt) (rs : List (List Cnt)) (hm : CntB w vm m) (hr : RunsB w vr rs) (l4 : m.length + total rs ≤ 1000000) (l5 : rs.length ≤ 1000000) :
    Calls Try.prog 54 #[LsmV vm vr] w fun e w' => ∃ v', e = .returned v' ∧ StrsB w' v' (rOf (allK m rs)) ∧ Below w.heap.size w w' := by
  obtain ⟨A0, c0, rfl, k2, k3, k4⟩ := hm
  obtain ⟨A, c, rfl, h2, h3, h4⟩ := hr
  have hc9 : c ≤ 9223372036854775807 := by unfold maxLen at h3; omega
  have hc8 : c0 ≤ 9223372036854775807 := by unfold maxLen at k3; omega
  have HCM := Lib.hid k4
  have HC := Lib.hid h4
  obtain ⟨n, hn⟩ : ∃ n, n = rs.length := ⟨_, rfl⟩
  obtain ⟨q, hq⟩ : ∃ q, q = m.length := ⟨_, rfl⟩
  have HN := Lib.hid hn
  have HQ := Lib.hid hq
  rw [← hn] at h2 l5
  rw [← hq] at k2
  have HL := Lib.hid l4
  have hq1 : q ≤ 1000000 := by omega
  rw [← hn, ← hq]
  clear h4 k4 hn hq l4
  unfold LsmV
  obtain ⟨wE, hwE⟩ : ∃ wE, wE = w.alloc (.cells #[.slice A0 q c0, .slice A n c] 25) := ⟨_, rfl⟩
  have HWE := Lib.hid hwE.symm
  have HBE : Hid (Below w.heap.size w wE) := by rw [hwE]; exact (Below.refl _ _).alloc (Nat.le_refl _) _
  have HSZ : Hid (wE.heap.size = w.heap.size + 1) := by rw [hwE]; unfold Hid; simp
  have HX : Hid (∀ w', Below wE.heap.size wE w' → w'.cell? ⟨w.heap.size, 0, none⟩ = some (.slice A0 q c0) ∧ w'.cell? ⟨w.heap.size, 1, none⟩ = some (.slice A n c) ∧ Below w.heap.size w w') := by
    intro w' b
    have hs := HSZ.out
    have q1 : wE.heap[w.heap.size]? = some (.cells #[.slice A0 q c0, .slice A n c] 25) := by rw [hwE]; show (w.heap.push _)[w.heap.size]? = _; simp
    have q2 := (b.block w.heap.size (by omega)).trans q1
    exact ⟨by unfold World.cell?; rw [q2]; rfl, by unfold World.cell?; rw [q2]; rfl, HBE.out.trans (b.mono HBE.out.size)⟩
  clear hwE
  go_enter Try.func54, Try.ntmps54
  go_wp2_with fail
  rw [HWE.out]
  clear HWE
  go_loopw [3, 4] (fun u a wr => ∃ j : Nat, j ≤ q ∧ a = .int .i64 j ∧ Hid (wr.ownsRow wE.heap.size 9 1 u (keysC (m.take j)).length ((keysC (m.take j)).map .string)) ∧ Hid (Below wE.heap.size wE wr)) (fun _ a _ => q - (intOf a).toNat)
  case atStart => exact ⟨0, Nat.zero_le _, rfl, by unfold Hid; exact World.ownsRow_nil _ _ _ _, Below.refl _ _⟩
  case round =>
    obtain ⟨j, hj, rfl, HO, HW⟩ := hrel
    obtain ⟨x0, x1, xb⟩ := HX.out _ HW.out
    by_cases hlt : j < q
    · have hlt' : (j : Int) < (q : Int) := by omega
      have hjl : j < m.length := by rw [← HQ.out]; exact hlt
      obtain ⟨b, off, rfl, hblt, hc⟩ := HCM.out (by omega)
      have e1 := (xb.cell (p := ⟨b, off + j * 2, none⟩) hblt).trans (hc j hjl).1
      have HT := Lib.hid (keysC_take m j hjl)
      have hlen : (keysC (m.take j)).length ≤ 1000000 := by rw [keysC_len, List.length_take]; omega
      clear hc
      generalize m[j].1 = x at *
      generalize keysC (m.take j) = out at *
      have hown := HO.out
      have HXB := Lib.hid xb
      have hsz := HW.out.size
      clear xb
      go_wp2_with (at_builtin; refine wpList_push_str rfl _ _ 54 rfl Try.underlying54 wE.heap.size _ out rfl (hown.alloc _) ⟨wr.heap.size, 0, none⟩ _ x rfl (by simp) (by omega) (by simp; omega) ?_)
      intro v' w1 hown1 hg1
      have HO1 : Hid (w1.ownsRow wE.heap.size 9 1 v' (out ++ [x]).length ((out ++ [x]).map .string)) := by unfold Hid; simpa using hown1
      have HW1 : Hid (Below wE.heap.size wE w1) := (HW.out.alloc HW.out.size _).grown hg1 (HW.out.alloc HW.out.size _).size (fun k hk => (hown.lt k hk).1)
      clear hown1 hg1 hown
      go_wp2
      go_roundw
      case rel => exact ⟨j + 1, by omega, by go_num, by rw [HT.out]; exact HO1, HW1⟩
      case measure => simp [intOf]; omega
    · obtain rfl : j = q := by omega
      have HO2 : Hid (wr.ownsRow wE.heap.size 9 1 u3 (keysC m ++ (rs.take 0).flatMap keysC).length ((keysC m ++ (rs.take 0).flatMap keysC).map .string)) := by
        have := HO.out
        rw [HQ.out, List.take_length] at this
        unfold Hid; simpa using this
      clear HO HCM
      go_wp2_with fail
      go_loopw [3, 5] (fun u a wr => ∃ p : Nat, p ≤ n ∧ a = .int .i64 p ∧ Hid (wr.ownsRow wE.heap.size 9 1 u (keysC m ++ (rs.take p).flatMap keysC).length ((keysC m ++ (rs.take p).flatMap keysC).map .string)) ∧ Hid (Below wE.heap.size wE wr)) (fun _ a _ => n - (intOf a).toNat)
      case atStart => exact ⟨0, Nat.zero_le _, rfl, HO2, HW⟩
      case round =>
        clear HO2 HW x0 x1 xb
        obtain ⟨p, hp, rfl, HO, HW⟩ := hrel
        obtain ⟨x0, x1, xb⟩ := HX.out _ HW.out
        by_cases hlp : p < n
        · have hlp' : (p : Int) < (n : Int) := by omega
          have hpl : p < rs.length := by rw [← HN.out]; exact hlp
          obtain ⟨b, off, rfl, hblt, hc⟩ := HC.out (by omega)
          obtain ⟨uv, c1, c2⟩ := hc p hpl
          have HT : Hid (keysC m ++ (rs.take (p + 1)).flatMap keysC = (keysC m ++ (rs.take p).flatMap keysC) ++ keysC rs[p]) := by unfold Hid; rw [flat_take rs p hpl, List.append_assoc]
          have hlen : (keysC m ++ (rs.take p).flatMap keysC).length + rs[p].length ≤ 1000000 := by
            rw [List.length_append, keysC_len, flat_len]
            have := total_get rs p hpl
            have := HL.out
            omega
          have C1 : Hid (∀ w', Below w.heap.size w w' → w'.cell? ⟨b, off + p, none⟩ = some uv) := fun w' b' => (b'.cell (p := ⟨b, off + p, none⟩) hblt).trans c1
          obtain ⟨Ar, cr, rfl, g2, g3, g4⟩ := c2.1
          have hcr : cr ≤ 9223372036854775807 := by unfold maxLen at g3; omega
          have HCR := Lib.hid g4
          clear hc c1 c2 g4 HC
          generalize rs[p] = r at *
          generalize keysC m ++ (rs.take p).flatMap keysC = K at *
          obtain ⟨z, hz⟩ : ∃ z, z = r.length := ⟨_, rfl⟩
          have HZ := Lib.hid hz
          rw [← hz] at g2 hlen C1
          clear hz
          have y0 := C1.out _ xb
          clear xb
          go_wp2_with fail
          go_loopw [3, 6] (fun u a wr => ∃ j : Nat, j ≤ z ∧ a = .int .i64 j ∧ Hid (wr.ownsRow wE.heap.size 9 1 u (K ++ keysC (r.take j)).length ((K ++ keysC (r.take j)).map .string)) ∧ Hid (Below wE.heap.size wE wr)) (fun _ a _ => z - (intOf a).toNat)
          case atStart => exact ⟨0, Nat.zero_le _, rfl, by unfold Hid; simpa [keysC] using HO.out, HW⟩
          case round =>
            clear HO HW x0 x1 y0
            obtain ⟨j, hj, rfl, HO, HW⟩ := hrel
            obtain ⟨x0, x1, xb⟩ := HX.out _ HW.out
            have y0 := C1.out _ xb
            by_cases hlt : j < z
            · have hlt' : (j : Int) < (z : Int) := by omega
              have hjl : j < r.length := by rw [← HZ.out]; exact hlt
              obtain ⟨b2, off2, rfl, hblt2, hc2⟩ := HCR.out (by omega)
              have e1 := (xb.cell (p := ⟨b2, off2 + j * 2, none⟩) hblt2).trans (hc2 j hjl).1
              have HT2 := Lib.hid (keysC_take r j hjl)
              have hlen2 : (K ++ keysC (r.take j)).length ≤ 1000000 := by rw [List.length_append, keysC_len, List.length_take]; omega
              clear hc2
              generalize r[j].1 = x at *
              have HTA : Hid (K ++ keysC (r.take (j + 1)) = (K ++ keysC (r.take j)) ++ [x]) := by unfold Hid; rw [HT2.out, List.append_assoc]
              generalize K ++ keysC (r.take j) = out at *
              have hown := HO.out
              have hsz := HW.out.size
              clear xb
              go_wp2_with (at_builtin; refine wpList_push_str rfl _ _ 54 rfl Try.underlying54 wE.heap.size _ out rfl (hown.alloc _) ⟨wr.heap.size, 0, none⟩ _ x rfl (by simp) (by omega) (by simp; omega) ?_)
              intro v' w1 hown1 hg1
              have HO1 : Hid (w1.ownsRow wE.heap.size 9 1 v' (out ++ [x]).length ((out ++ [x]).map .string)) := by unfold Hid; simpa using hown1
              have HW1 : Hid (Below wE.heap.size wE w1) := (HW.out.alloc HW.out.size _).grown hg1 (HW.out.alloc HW.out.size _).size (fun k hk => (hown.lt k hk).1)
              clear hown1 hg1 hown
              go_wp2
              go_roundw
              case rel => exact ⟨j + 1, by omega, by go_num, by rw [HTA.out]; exact HO1, HW1⟩
              case measure => simp [intOf]; omega
            · obtain rfl : j = z := by omega
              have HO3 : Hid (wr.ownsRow wE.heap.size 9 1 u3 (K ++ keysC r).length ((K ++ keysC r).map .string)) := by
                have := HO.out
                rw [HZ.out, List.take_length] at this
                exact this
              clear HO
              go_wp2_with fail
              go_roundw
              case rel => exact ⟨p + 1, by omega, by go_num, by rw [HT.out]; exact HO3, HW⟩
              case measure => simp [intOf]; omega
        · obtain rfl : p = n := by omega
          have hall : keysC m ++ (rs.take p).flatMap keysC = allK m rs := by rw [HN.out, List.take_length]; rfl
          have hown := HO.out
          rw [hall] at hown
          have hlen : (allK m rs).length ≤ 1000000 := by unfold allK; rw [List.length_append, keysC_len, flat_len]; exact HL.out
          have HOf := Lib.hid (rOf_any wr u3 (allK m rs) (StrsB.of_owns hown) hlen)
          have HXB := Lib.hid xb
          clear HO hall hown hlen HC xb
          go_wp2_with fail
          refine HOf.out.mono ?_
          rintro e w1 ⟨v1, rfl, hB1, b1⟩
          have HB1 := Lib.hid hB1
          have HW1 := Lib.hid (below_then HXB.out b1)
          clear hB1 b1 HOf
          go_wp2_with fail
          go_ret
          exact ⟨_, rfl, HB1.out, HW1.out⟩
end Go.Proofs.Yteidlngffikboaa
