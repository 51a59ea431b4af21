/- Walks: chapter 33's best. -/
import Derived.Test.YtlkpgefapcfdbaaDeltaM9
namespace Go.Proofs.Ytlkpgefapcfdbaa
open Go.RowKit Go.Maps Go.WideMaps
set_option linter.unusedVariables false
set_option linter.unusedSimpArgs false
theorem key_mk0 (s : ByteArray) : keyOf Try.prog 9 (.string (s.extract 0 8)) = some (.string (s.data.toList.take 8)) := by
  rw [keyOf_string_mk Try.underlying9 (by rw [ByteArray.size_extract]; unfold maxLen; omega), to_list]
theorem bestL_snoc (base s : List UInt8) (l : List Nat) (k : Nat) (hk : k < l.length) : bestL base s (l.take (k + 1)) = stepB base s (bestL base s (l.take k)) l[k] := by
  unfold bestL
  rw [List.take_succ_eq_append_getElem hk, List.foldl_append]
  rfl
set_option maxHeartbeats 2000000 in
theorem best_any {H : Type} (base s : ByteArray) (bm m B : Nat) (D : DataW H) (w : World) (hb : base.size ≤ 1000000) (hs : s.size ≤ 1000000) (h1 : base.size < m + 8) (h2 : m ≤ base.size) (hP : PlD base.data.toList m D) (hown : w.ownsGroups Try.prog 9 B 3 .i64 bm m D) :
    Calls Try.prog 19 #[.agg #[.string base, .map (some bm)], .string s] w fun e w' => e = .returned (.tuple #[.int .i64 ((bestD base.data.toList s.data.toList).1 : Nat), .int .i64 ((bestD base.data.toList s.data.toList).2 : Nat)]) ∧ Below w.heap.size w w' := by
  have hsl : s.data.toList.length = s.size := by simp
  have hbl : base.data.toList.length = base.size := by simp
  by_cases h8 : s.size < 8
  · rw [bestD_short _ _ (by omega)]
    have h8' : (s.size : Int) < 8 := by omega
    go_enter Try.func19, Try.ntmps19
    go_wp2_with fail
    go_ret2
    exact ⟨rfl, (Below.refl _ _).alloc (Nat.le_refl _) _⟩
  · have HV := Lib.hid (bestL_bestD base.data.toList s.data.toList (by omega) m (by omega) (by omega))
    have h8' : (8 : Int) ≤ (s.size : Int) := by omega
    have h88 : 8 ≤ s.size := by omega
    have hg1 := groups_grow hown (World.grownBy_alloc w (.cells #[.string base, .map (some bm)] 37) none)
    have hown1 : (w.alloc (.cells #[.string base, .map (some bm)] 37)).drew.ownsGroups Try.prog 9 B 3 .i64 bm m D := hg1
    obtain ⟨v, zs, hrun, hat, hoi, hzl, _⟩ := hown1.at strLaw Try.underlying35 (placesZero _) (by unfold maxLen; omega) (key_mk0 s)
    have hzs := PlD_at hP hoi hat
    clear hown1 hg1 hat hsl hbl
    go_enter Try.func19, Try.ntmps19
    go_wp2_with fail
    obtain ⟨w1, hw1⟩ : ∃ w1, w1 = w.alloc (.cells #[.string base, .map (some bm)] 37) := ⟨_, rfl⟩
    have hx := (MapKept.heap_alloc w (.cells #[.string base, .map (some bm)] 37)).1
    have hb1 : Below (w.heap.size + 1) w1 w1.drew := (Below.refl _ _).drew
    have hB0 : Below w.heap.size w w1 := by rw [hw1]; exact (Below.refl _ _).alloc (Nat.le_refl _) _
    rw [← hw1] at hrun hoi hx ⊢
    have hsz1 : w1.heap.size = w.heap.size + 1 := by rw [hw1]; simp
    clear hw1
    have c1 : w1.drew.cell? ⟨w.heap.size, 1, none⟩ = some (.map (some bm)) := cellx (base := base) hx
    have hx' : w1.drew.heap[w.heap.size]? = some (.cells #[.string base, .map (some bm)] 37 (0, 0)) := hx
    have HB2 := Lib.hid (hB0.trans (hb1.mono (Nat.le_succ _)))
    have hs2 : w1.drew.heap.size = w.heap.size + 1 := hsz1
    refine wp_region_held_drew (S := fun w' => w' = w1.drew) (by kernel_rfl) rfl (fun hHeld => ?_)
    clear hx hb1 hB0 hsz1
    generalize w1.drew = w2 at *
    refine' wpAnyH_take (i := 0) (v := ?v1) rfl (by kernel_rfl) (by kernel_rfl) (by kernel_rfl) (fun _ _ _ h => h) (Or.inl ⟨by kernel_rfl, ?hy1⟩) (by assumption) ?rest1
    case hy1 => (intro w hSw; (try dsimp only at hSw); go_simp; try with_reducible rfl)
    try simp only [Act.put, List.setIfInBounds_toArray, List.set_cons_zero, List.set_cons_succ]
    refine wpAnyH_take (i := 1) (v := (.map (some bm))) rfl (by kernel_rfl) (by kernel_rfl) (by kernel_rfl) (fun _ _ _ h => h) (Or.inl ⟨by kernel_rfl, ?_⟩) hHeld ?_
    · intro w hSw
      have hh := (hSw ▸ c1)
      go_simp
    try simp only [Act.put, List.setIfInBounds_toArray, List.set_cons_zero, List.set_cons_succ]
    refine' wpAnyH_take (i := 2) (v := ?v2) rfl (by kernel_rfl) (by kernel_rfl) (by kernel_rfl) (fun _ _ _ h => h) (Or.inl ⟨by kernel_rfl, ?hy2⟩) (by assumption) ?rest2
    case hy2 => (intro w hSw; (try dsimp only at hSw); go_simp; try with_reducible rfl)
    try simp only [Act.put, List.setIfInBounds_toArray, List.set_cons_zero, List.set_cons_succ]
    refine' wpAnyH_take (i := 3) (v := ?v3) rfl (by kernel_rfl) (by kernel_rfl) (by kernel_rfl) (fun _ _ _ h => h) (Or.inl ⟨by kernel_rfl, ?hy3⟩) (by assumption) ?rest3
    case hy3 => (intro w hSw; (try dsimp only at hSw); go_simp; try with_reducible rfl)
    try simp only [Act.put, List.setIfInBounds_toArray, List.set_cons_zero, List.set_cons_succ]
    refine wpAnyH_take (i := 4) (v := v) rfl (by kernel_rfl) (by kernel_rfl) (by kernel_rfl) (fun _ _ _ h => h) (Or.inl ⟨by kernel_rfl, ?_⟩) hHeld ?_
    · intro w hSw
      have hh := (hSw ▸ hrun)
      go_simp
    try simp only [Act.put, List.setIfInBounds_toArray, List.set_cons_zero, List.set_cons_succ]
    refine' wpAnyH_take (i := 6) (v := ?v4) rfl (by kernel_rfl) (by kernel_rfl) (by kernel_rfl) (fun _ _ _ h => h) (Or.inl ⟨by kernel_rfl, ?hy4⟩) (by assumption) ?rest4
    case hy4 => (intro w hSw; (try dsimp only at hSw); go_simp; try with_reducible rfl)
    try simp only [Act.put, List.setIfInBounds_toArray, List.set_cons_zero, List.set_cons_succ]
    obtain ⟨ao, cap, rfl⟩ : ∃ ao cap, v = .slice ao zs.length cap := by
      rcases hoi.1.2 with ⟨hv, hz⟩ | ⟨g, cap, cur, hv, _⟩
      · exact ⟨none, 0, by rw [hv, hz]⟩
      · exact ⟨_, _, hv⟩
    refine wpAnyH_take (i := 5) (v := (.int .i64 (zs.length : Nat))) rfl (by kernel_rfl) (by kernel_rfl) (by kernel_rfl) (fun _ _ _ h => h) (Or.inl ⟨by kernel_rfl, ?_⟩) hHeld ?_
    · intro w hSw
      go_simp
    refine wpAnyH_done (by kernel_rfl) ?_ _
    simp only [Act.put, List.getElem_toArray, List.getElem_cons_succ, List.getElem_cons_zero, List.setIfInBounds_toArray, List.set_cons_zero, List.set_cons_succ]
    have hpl : (pl base.data.toList (s.data.toList.take 8) m).length = zs.length := by rw [hzs]; simp
    have hplm := pl_lt base.data.toList (s.data.toList.take 8) m
    clear hrun c1 hP hown hHeld h8 h88
    generalize pl base.data.toList (s.data.toList.take 8) m = ps at *
    go_wp2_with fail
    go_loopw [18, 4, 5] (fun v18 v4 v5 wr => ∃ k : Nat, v18 = .int .i64 (k : Nat) ∧ k ≤ zs.length ∧ v4 = .int .i64 ((bestL base.data.toList s.data.toList (ps.take k)).1 : Nat) ∧ v5 = .int .i64 ((bestL base.data.toList s.data.toList (ps.take k)).2 : Nat) ∧ Hid (Below (w.heap.size + 1) w2 wr)) (fun v18 _ _ _ => zs.length - (intOf v18).toNat)
    case atStart => exact ⟨0, rfl, Nat.zero_le _, rfl, rfl, Lib.hid (Below.refl _ _)⟩
    case round =>
      obtain ⟨k, rfl, hk, rfl, rfl, HB⟩ := hrel
      by_cases hlt : k < zs.length
      · have hlt' : (k : Int) < (zs.length : Int) := by omega
        have hkp : k < ps.length := by omega
        have hst := bestL_snoc base.data.toList s.data.toList ps k hkp
        have hlm := hplm ps[k] (List.getElem_mem hkp)
        have hoi2 := hoi.kept (gr_below (HB.out.mono (by omega)) (some w.heap.size)) (Or.inr (Lib.ownBlock_ne hoi.1 hx' (by decide)))
        obtain ⟨g, rfl⟩ : ∃ g, ao = some ⟨g, 0, none⟩ := by
          rcases hoi.1.2 with ⟨hv, hz⟩ | ⟨g, cap', cur, hv, _⟩
          · omega
          · injection hv with hv _ _; exact ⟨g, hv⟩
        have hcell := hoi2.1.cellAt k (by omega)
        have hcv : wr.cell? ⟨g, k, none⟩ = some (.int .i64 (ps[k] : Nat)) := by rw [hcell, hzs]; simp [hkp]
        have hxr := (HB.out.block w.heap.size (Nat.lt_succ_self _)).trans hx'
        have x0 : wr.cell? ⟨w.heap.size, 0, none⟩ = some (.string base) := by rw [Lib.cell_of_heap hxr]; rfl
        have x1 : wr.cell? ⟨w.heap.size, 1, none⟩ = some (.map (some bm)) := by rw [Lib.cell_of_heap hxr]; rfl
        have HST := Lib.hid hst
        clear hcell hoi hoi2 hxr hzs hplm hst
        generalize ps[k] = q at *
        have HC := Lib.hid (fun w => common_any base s (.map (some bm)) q hb hs (by omega) w)
        unfold stepB at HST
        by_cases hc : (bestL base.data.toList s.data.toList (ps.take k)).1 < comm (base.data.toList.drop q) s.data.toList
        · rw [if_pos hc] at HST
          have hc' : ((bestL base.data.toList s.data.toList (ps.take k)).1 : Int) < (comm (base.data.toList.drop q) s.data.toList : Int) := by omega
          generalize comm (base.data.toList.drop q) s.data.toList = n at *
          go_wp2_with fail
          refine (HC.out _).mono ?_
          rintro e w3 ⟨rfl, b3⟩
          have HB3 := Lib.hid (HB.out.trans (b3.mono (by have := HB.out.size; omega)))
          clear b3
          go_wp2_with fail
          exact ⟨⟨k + 1, by go_num, by omega, by rw [HST.out], by rw [HST.out], HB3⟩, by simp [intOf]; omega⟩
        · rw [if_neg hc] at HST
          have hc' : (comm (base.data.toList.drop q) s.data.toList : Int) ≤ ((bestL base.data.toList s.data.toList (ps.take k)).1 : Int) := by omega
          generalize comm (base.data.toList.drop q) s.data.toList = n at *
          go_wp2_with fail
          refine (HC.out _).mono ?_
          rintro e w3 ⟨rfl, b3⟩
          have HB3 := Lib.hid (HB.out.trans (b3.mono (by have := HB.out.size; omega)))
          clear b3
          go_wp2_with fail
          exact ⟨⟨k + 1, by go_num, by omega, by rw [HST.out], by rw [HST.out], HB3⟩, by simp [intOf]; omega⟩
      · have hk' : (zs.length : Int) ≤ (k : Int) := by omega
        obtain rfl : k = zs.length := by omega
        rw [← hpl, List.take_length]
        have HBD := Lib.hid (HB2.out.trans (HB.out.mono (Nat.le_succ _)))
        clear hplm hzs hpl
        go_wp2_with fail
        go_ret2
        rw [HV.out]
        exact ⟨rfl, HBD.out⟩
end Go.Proofs.Ytlkpgefapcfdbaa
