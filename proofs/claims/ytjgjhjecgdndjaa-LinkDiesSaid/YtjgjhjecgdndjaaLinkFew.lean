/- silolaw23.few: it answers. -/
import Derived.Test.YtjgjhjecgdndjaaLinkSame
namespace Go.Proofs.Ytjgjhjecgdndjaa
open Go.RowKit
set_option linter.unusedVariables false
set_option linter.unusedSimpArgs false
def FewPost (lo lw : List ByteArray) (le : List Frm4) (w : World) (e : Ending) (w' : World) : Prop := ∃ b : Bool, e = .returned (.bool b) ∧ (b = true → lo.length ≤ 6 ∧ lw.length ≤ 310 ∧ le.length ≤ 6) ∧ Below w.heap.size w w'
set_option maxRecDepth 20000 in
set_option maxHeartbeats 4000000 in
theorem few_any (ses : UInt64) (base next idle : Int) (dead : Bool) (vo vw ve : Value) (lo lw : List ByteArray) (le : List Frm4) (w : World) (ho : StrsN w vo lo) (hw : StrsN w vw lw) (he : FrsB w ve le) (hsz : (∀ s ∈ lo, s.size ≤ maxLen) ∧ (∀ s ∈ lw, s.size ≤ maxLen) ∧ ∀ f ∈ le, f.2.2.2.size ≤ maxLen) :
    Calls Try.prog 17 #[End8 ses.toNat base vo vw next ve idle dead] w (FewPost lo lw le w) := by
  have HO := Lib.hid ho
  have HW := Lib.hid hw
  have HE := Lib.hid he
  have HSZ := Lib.hid hsz
  obtain ⟨A1, c1, rfl, p2, p3⟩ := ho.1.len
  obtain ⟨A2, c2, rfl, q2, q3⟩ := hw.1.len
  obtain ⟨A3, c3, rfl, h2, h3, h4⟩ := he
  have hc1 : c1 ≤ 9223372036854775807 := by unfold maxLen at p3; omega
  have hc2 : c2 ≤ 9223372036854775807 := by unfold maxLen at q3; omega
  have hc3 : c3 ≤ 9223372036854775807 := by unfold maxLen at h3; omega
  have HH4 := Lib.hid h4
  obtain ⟨n1, hn1⟩ : ∃ n1, n1 = lo.length := ⟨_, rfl⟩
  obtain ⟨n2, hn2⟩ : ∃ n2, n2 = lw.length := ⟨_, rfl⟩
  obtain ⟨n3, hn3⟩ : ∃ n3, n3 = le.length := ⟨_, rfl⟩
  have HN : Hid (n1 = lo.length ∧ n2 = lw.length ∧ n3 = le.length) := ⟨hn1, hn2, hn3⟩
  rw [← hn1] at HO p2 ⊢
  rw [← hn2] at HW q2 ⊢
  rw [← hn3] at HE h2 ⊢
  clear hn1 hn2 hn3 ho hw h3 h4 p3 q3 hsz
  unfold End8
  have q1 := heap_alloc_new w (.cells #[.int .u64 ses.toNat, .int .i64 base, .slice A1 n1 c1, .slice A2 n2 c2, .int .i64 next, .slice A3 n3 c3, .int .i64 idle, .bool dead] 37)
  obtain ⟨wp, hwp⟩ : ∃ wp, wp = w.alloc (.cells #[.int .u64 ses.toNat, .int .i64 base, .slice A1 n1 c1, .slice A2 n2 c2, .int .i64 next, .slice A3 n3 c3, .int .i64 idle, .bool dead] 37) := ⟨_, rfl⟩
  rw [← hwp] at q1
  have HBp : Hid (Below w.heap.size w wp) := by unfold Hid; rw [hwp]; exact (Below.refl _ _).alloc (Nat.le_refl _) _
  have HSP : Hid (wp.heap.size = w.heap.size + 1) := by unfold Hid; rw [hwp]; simp
  have HWP : Hid (w.alloc (.cells #[.int .u64 ses.toNat, .int .i64 base, .slice A1 n1 c1, .slice A2 n2 c2, .int .i64 next, .slice A3 n3 c3, .int .i64 idle, .bool dead] 37) = wp) := hwp.symm
  have HX := Lib.hid (cells8 q1)
  obtain ⟨a0, a1, a2, a3, a4, a5, a6, a7, af, alt⟩ := HX.out
  clear q1 hwp af
  go_enter Try.func17, Try.ntmps17
  by_cases h6 : n1 ≤ 6
  · have d1 : decide ((6 : Int) < (n1 : Int)) = false := by simp; omega
    by_cases h310 : n2 ≤ 310
    · have d2 : decide ((310 : Int) < (n2 : Int)) = false := by simp; omega
      by_cases h63 : n3 ≤ 6
      · have d3 : decide ((6 : Int) < (n3 : Int)) = false := by simp; omega
        have HF : Hid (n1 ≤ 6 ∧ n2 ≤ 310 ∧ n3 ≤ 6) := ⟨h6, h310, h63⟩
        go_wp2_with fail
        rw [HWP.out]
        refine wp_region_noPanic ?_
        refine wp_region_held_drew (S := fun w' => w'.cell? ⟨w.heap.size, 2, none⟩ = some (.slice A1 n1 c1) ∧ w'.cell? ⟨w.heap.size, 3, none⟩ = some (.slice A2 n2 c2)) (by kernel_rfl) ⟨a2, a3⟩ (fun hHeld => ?_)
        obtain ⟨wx, hwx⟩ : ∃ wx, wx = wp.drew := ⟨_, rfl⟩
        have HBx : Hid (Below w.heap.size w wx) := by unfold Hid; rw [hwx]; exact HBp.out.drew
        have HXx : Hid (Box8 w.heap.size (.int .u64 ses.toNat) (.int .i64 base) (.slice A1 n1 c1) (.slice A2 n2 c2) (.int .i64 next) (.slice A3 n3 c3) (.int .i64 idle) (.bool dead) wx) := by unfold Hid; rw [hwx]; exact HX.out.below (Below.drew (Below.refl wp.heap.size wp)) HX.out.lt
        have HSx : Hid (wx.heap.size = w.heap.size + 1) := by unfold Hid; rw [hwx]; exact HSP.out
        rw [← hwx] at hHeld ⊢
        clear hwx a0 a1 a2 a3 a4 a5 a6 a7 alt HX HBp HSP HWP
        refine' wpAnyH_take (i := 1) (v := ?v1) rfl (by kernel_rfl) (by kernel_rfl) (by kernel_rfl) (fun _ _ _ h => h) (Or.inl ⟨by kernel_rfl, ?hy1⟩) (by assumption) ?rest1
        case hy1 => (intro w hSw; (try dsimp only at hSw); go_simp; try with_reducible rfl)
        try simp only [Act.put, List.setIfInBounds_toArray, List.set_cons_zero, List.set_cons_succ]
        refine' wpAnyH_take (i := 8) (v := ?v2) rfl (by kernel_rfl) (by kernel_rfl) (by kernel_rfl) (fun _ _ _ h => h) (Or.inl ⟨by kernel_rfl, ?hy2⟩) (by assumption) ?rest2
        case hy2 => (intro w hSw; (try dsimp only at hSw); go_simp; try with_reducible rfl)
        try simp only [Act.put, List.setIfInBounds_toArray, List.set_cons_zero, List.set_cons_succ]
        refine' wpAnyH_take (i := 4) (v := ?v3) rfl (by kernel_rfl) (by kernel_rfl) (by kernel_rfl) (fun _ _ _ h => h) (Or.inl ⟨by kernel_rfl, ?hy3⟩) (by assumption) ?rest3
        case hy3 => (intro w hSw; (try dsimp only at hSw); go_simp; try with_reducible rfl)
        try simp only [Act.put, List.setIfInBounds_toArray, List.set_cons_zero, List.set_cons_succ]
        refine wpAnyH_take (i := 2) (v := .slice A1 n1 c1) rfl (by kernel_rfl) (by kernel_rfl) (by kernel_rfl) (fun _ _ _ h => h) (Or.inl ⟨by kernel_rfl, ?_⟩) hHeld ?_
        · intro w hSw
          have hh := hSw.1
          go_simp
        try simp only [Act.put, List.setIfInBounds_toArray, List.set_cons_zero, List.set_cons_succ]
        refine wpAnyH_take (i := 5) (v := .slice A2 n2 c2) rfl (by kernel_rfl) (by kernel_rfl) (by kernel_rfl) (fun _ _ _ h => h) (Or.inl ⟨by kernel_rfl, ?_⟩) hHeld ?_
        · intro w hSw
          have hh := hSw.2
          go_simp
        try simp only [Act.put, List.setIfInBounds_toArray, List.set_cons_zero, List.set_cons_succ]
        have HBe : Hid (Below wx.heap.size wx (wx.alloc (.cells #[] 9))) := (Below.refl _ _).alloc (Nat.le_refl _) _
        have HOe : Hid ((wx.alloc (.cells #[] 9)).ownsRow wx.heap.size 9 1 (.slice (some ⟨wx.heap.size, 0, none⟩) 0 0) ([] : List ByteArray).length ([].map .string)) := owns_empty (Nat.le_refl _)
        refine wpAnyH_ready (rs := [0]) (by kernel_rfl) (by simp) ?_
        refine AllReadyH.cons rfl (fun K hK => ?_) AllReadyH.nil
        go_simp
        have hXe := HXx.out.below HBe.out HXx.out.lt
        refine hK.out _ _ ⟨hXe.c2, hXe.c3⟩ (fun hHeld => ?_)
        clear hK K
        try simp only [Act.put, List.setIfInBounds_toArray, List.set_cons_zero, List.set_cons_succ]
        have HOs : Hid (StrsN (wx.alloc (.cells #[] 9)) (.slice A1 n1 c1) lo) := HO.out.below (HBx.out.trans (HBe.out.mono HBx.out.size)) (Nat.le_refl _)
        refine wpAnyH_ready (rs := [3]) (by kernel_rfl) (by simp) ?_
        refine AllReadyH.cons rfl (fun K hK => ?_) AllReadyH.nil
        rw [if_pos (by kernel_rfl)]
        refine wp_append_strs (.tmp 24) (.tmp 26) 33 rfl Try.underlying33 wx.heap.size _ [] rfl HOe.out _ lo rfl HOs.out (by have := HN.out; simp; omega) HBe.out.size ?_
        intro v1 w1 o1 g1
        have HB1 : Hid (Below wx.heap.size wx w1) := HBe.out.grown g1 HBe.out.size (fun k hk => (HOe.out.lt k hk).1)
        have HO1 := Lib.hid o1
        have hX1 := HXx.out.below HB1.out HXx.out.lt
        refine hK.out _ _ ⟨hX1.c2, hX1.c3⟩ (fun hHeld => ?_)
        clear hK K o1 g1 hXe HOe HOs
        simp only [Act.put, List.getElem_toArray, List.getElem_cons_succ, List.getElem_cons_zero, List.setIfInBounds_toArray, List.set_cons_zero, List.set_cons_succ]
        have HWs : Hid (StrsN w1 (.slice A2 n2 c2) lw) := HW.out.below (HBx.out.trans (HB1.out.mono HBx.out.size)) (Nat.le_refl _)
        refine wpAnyH_ready (rs := [6]) (by kernel_rfl) (by simp) ?_
        refine AllReadyH.cons rfl (fun K hK => ?_) AllReadyH.nil
        rw [if_pos (by kernel_rfl)]
        refine wp_append_strs (.tmp 27) (.tmp 29) 33 rfl Try.underlying33 wx.heap.size _ ([] ++ lo) rfl HO1.out _ lw rfl HWs.out (by have := HN.out; simp; omega) HB1.out.size ?_
        intro v2 w2 o2 g2
        have HB2 : Hid (Below wx.heap.size wx w2) := HB1.out.grown g2 HB1.out.size (fun k hk => (HO1.out.lt k hk).1)
        rw [List.nil_append] at o2
        obtain ⟨L, hL⟩ : ∃ L, L = lo ++ lw := ⟨_, rfl⟩
        rw [← hL] at o2
        have HLL : Hid (L.length ≤ 316 ∧ ∀ s ∈ L, s.size ≤ maxLen) := by
          refine ⟨by have := HN.out; rw [hL, List.length_append]; omega, fun s hs => ?_⟩
          rw [hL] at hs
          rcases List.mem_append.1 hs with h | h
          · exact HSZ.out.1 s h
          · exact HSZ.out.2.1 s h
        have HO2 := Lib.hid o2
        obtain ⟨A5, c5, hv5, hc5, hc5'⟩ := (StrsN.of_owns o2).1.len
        subst hv5
        have hX2 := HXx.out.below HB2.out HXx.out.lt
        refine hK.out _ _ ⟨hX2.c2, hX2.c3⟩ (fun hHeld => ?_)
        clear hK K o2 g2 hX1 HO1 HWs HB1
        simp only [Act.put, List.getElem_toArray, List.getElem_cons_succ, List.getElem_cons_zero, List.setIfInBounds_toArray, List.set_cons_zero, List.set_cons_succ]
        refine wpAnyH_take (i := 7) (v := .int .i64 (L.length : Nat)) rfl (by kernel_rfl) (by kernel_rfl) (by kernel_rfl) (fun _ _ _ h => h) (Or.inl ⟨by kernel_rfl, ?_⟩) hHeld ?_
        · intro w hSw
          go_simp
        simp only [Act.put, List.getElem_toArray, List.getElem_cons_succ, List.getElem_cons_zero, List.setIfInBounds_toArray, List.set_cons_zero, List.set_cons_succ]
        refine wpAnyH_done (by kernel_rfl) ?_ _
        refine NoPanic.normal ?_
        have hs9 := HLL.out.1
        have hc5'' : c5 ≤ 9223372036854775807 := by unfold maxLen at hc5'; omega
        have HC : Hid (0 < L.length → ∃ b off, A5 = some ⟨b, off, none⟩ ∧ b < w2.heap.size ∧ ∀ j (hj : j < L.length), w2.cell? ⟨b, off + j, none⟩ = some (.string L[j])) := fun h => by
          obtain ⟨b, off, c', e, _, _, e2, e3⟩ := (StrsN.of_owns HO2.out).1.at h
          cases e
          exact ⟨b, off, rfl, e2, e3⟩
        clear hX2 hc5' hL
        go_wp2_with fail
        go_loopw [3, 32] (fun s i wr => ∃ (j : Nat) (m : Int), j ≤ L.length ∧ i = .int .i64 j ∧ s = .int .i64 m ∧ Hid (Below w2.heap.size w2 wr)) (fun _ i _ => L.length - (intOf i).toNat)
        case atStart => exact ⟨0, 0, Nat.zero_le _, rfl, rfl, Below.refl _ _⟩
        case round =>
          obtain ⟨j, m, hj, rfl, rfl, HBr⟩ := hrel
          by_cases hlt : j < L.length
          · have hlt' : (j : Int) < (L.length : Int) := by omega
            obtain ⟨b, off, rfl, hblt, hcells⟩ := HC.out (by omega)
            have y1 := (HBr.out.cell (p := ⟨b, off + j, none⟩) hblt).trans (hcells j hlt)
            have hj0 : (0 : Int) ≤ (j : Int) := by omega
            have hsz := HLL.out.2 L[j] (List.getElem_mem hlt)
            unfold maxLen at hsz
            generalize L[j] = x at *
            clear hcells
            obtain ⟨m', hm'⟩ : ∃ m', IntKind.i64.wrap (m + (x.size : Int)) = m' := ⟨_, rfl⟩
            by_cases hbig : 130000 < m'
            · have dd : decide ((130000 : Int) < m') = true := by simpa using hbig
              have HBF := Lib.hid (HBx.out.trans ((HB2.out.trans (HBr.out.mono HB2.out.size)).mono HBx.out.size))
              go_wp2_with fail
              go_ret
              exact ⟨_, rfl, (fun h => by cases h), HBF.out⟩
            · have dd : decide ((130000 : Int) < m') = false := by simpa using hbig
              go_wp2_with fail
              go_roundw
              case rel => exact ⟨j + 1, m', by omega, by go_num, rfl, HBr⟩
              case measure => simp [intOf]; omega
          · obtain rfl : j = L.length := by omega
            have HB3 := Lib.hid (HB2.out.trans (HBr.out.mono HB2.out.size))
            have hX3 := HXx.out.below HB3.out HXx.out.lt
            have a5 := hX3.c5
            have HBW := Lib.hid (HBx.out.trans (HB3.out.mono HBx.out.size))
            clear hX3
            go_wp2_with fail
            obtain ⟨wm, hwm⟩ : ∃ wm, wm = wr := ⟨_, rfl⟩
            rw [← hwm]
            rw [← hwm] at HB3 HBW a5
            clear hwm HBr
            go_loopw [3, 46] (fun s i wr => ∃ (j : Nat) (m : Int), j ≤ n3 ∧ i = .int .i64 j ∧ s = .int .i64 m ∧ Hid (Below wm.heap.size wm wr)) (fun _ i _ => n3 - (intOf i).toNat)
            case atStart => exact ⟨0, m, Nat.zero_le _, rfl, rfl, Below.refl _ _⟩
            case round =>
              obtain ⟨j3, m3, hj3, rfl, rfl, HBq⟩ := hrel
              by_cases hlt3 : j3 < n3
              · have hlt3' : (j3 : Int) < (n3 : Int) := by omega
                have hnn := HN.out.2.2
                obtain ⟨b, off, rfl, hblt, hcells⟩ := HH4.out (by omega)
                have hml : j3 < le.length := by omega
                obtain ⟨x1, x2, x3, x4⟩ := hcells j3 hml
                have hpb : ∀ o, wr.cell? ⟨b, o, none⟩ = w.cell? ⟨b, o, none⟩ := fun o => (HBq.out.cell (p := ⟨b, o, none⟩) (by have := HBW.out.size; dsimp only; omega)).trans (HBW.out.cell (p := ⟨b, o, none⟩) hblt)
                have y1 := (hpb _).trans x1
                have y2 := (hpb _).trans x2
                have y3 := (hpb _).trans x3
                have y4 := (hpb _).trans x4
                have hj0 : (0 : Int) ≤ (j3 : Int) := by omega
                have hsz := HSZ.out.2.2 le[j3] (List.getElem_mem hml)
                unfold maxLen at hsz
                generalize le[j3] = f at *
                obtain ⟨f1, f2, f3, fs⟩ := f
                dsimp only at *
                clear hcells x1 x2 x3 x4 hpb hnn
                have HBa : Hid (Below wm.heap.size wm (wr.alloc (.cells #[.int .u64 f1.toNat, .int .i64 f2, .int .i64 f3, .string fs] 24))) := HBq.out.alloc HBq.out.size _
                obtain ⟨m', hm'⟩ : ∃ m', IntKind.i64.wrap (m3 + (fs.size : Int)) = m' := ⟨_, rfl⟩
                by_cases hbig : 130000 < m'
                · have dd : decide ((130000 : Int) < m') = true := by simpa using hbig
                  have HBF := Lib.hid (HBW.out.trans (HBa.out.mono HBW.out.size))
                  go_wp2_with fail
                  go_ret
                  exact ⟨_, rfl, (fun h => by cases h), HBF.out⟩
                · have dd : decide ((130000 : Int) < m') = false := by simpa using hbig
                  go_wp2_with fail
                  go_roundw
                  case rel => exact ⟨j3 + 1, m', by omega, by go_num, rfl, HBa⟩
                  case measure => simp [intOf]; omega
              · obtain rfl : j3 = n3 := by omega
                have HBF := Lib.hid (HBW.out.trans (HBq.out.mono HBW.out.size))
                have HFF : Hid (lo.length ≤ 6 ∧ lw.length ≤ 310 ∧ le.length ≤ 6) := by have h1 := HF.out; have h2 := HN.out; unfold Hid; omega
                go_wp2_with fail
                go_ret
                exact ⟨_, rfl, (fun _ => HFF.out), HBF.out⟩
      · have d3 : decide ((6 : Int) < (n3 : Int)) = true := by simp; omega
        go_wp2_with fail
        rw [HWP.out]
        go_ret
        exact ⟨_, rfl, (fun h => by cases h), HBp.out⟩
    · have d2 : decide ((310 : Int) < (n2 : Int)) = true := by simp; omega
      go_wp2_with fail
      rw [HWP.out]
      go_ret
      exact ⟨_, rfl, (fun h => by cases h), HBp.out⟩
  · have d1 : decide ((6 : Int) < (n1 : Int)) = true := by simp; omega
    go_wp2_with fail
    rw [HWP.out]
    go_ret
    exact ⟨_, rfl, (fun h => by cases h), HBp.out⟩
end Go.Proofs.Ytjgjhjecgdndjaa
