/- lsm.All: all counts that are not nought. -/
import Derived.Test.YteidlngffikboaaLsmFlush
import Derived.Test.YteidlngffikboaaLsmKeysOf
import Derived.Test.YteidlngffikboaaMapSet
namespace Go.Proofs.Yteidlngffikboaa
open Go.RowKit
set_option linter.unusedVariables false
set_option linter.unusedSimpArgs false
theorem owns_below {w w' : World} {B e k n : Nat} {v : Value} {xs : List Value} (h : w.ownsRow B e k v n xs) (hb : Below w.heap.size w w') : w'.ownsRow B e k v n xs := by
  refine h.kept (row := none) ⟨hb.os, hb.tape, hb.output, hb.size, fun i hi _ => hb.block i hi⟩ ?_
  cases hv : v.ownBlock with
  | none => exact .inl rfl
  | some j => exact .inr (by simp)
def allL (s : CntS) : List Cnt := tabL (rOf (allK s.1 s.2)) (getL s.1 s.2)
theorem getL_bound {s : CntS} (ok : okS s) (hn : s.2.length ≤ 100) (k : ByteArray) : -1000000000000 ≤ getL s.1 s.2 k ∧ getL s.1 s.2 k ≤ 1000000000000 := by
  have h1 := inL_bound2 ok.1 k
  have h2 := sumIn_bound k s.2 (fun r hr => inL_bound2 (ok.2.1 r hr).2 k)
  unfold getL bnd at *
  omega
set_option maxRecDepth 20000 in
set_option maxHeartbeats 4000000 in
theorem rAll_any (w : World) (v : Value) (s : CntS) (hs : LsmN w v s) (ok : okS s) (hl : sizeS s ≤ 1000000) (hn : s.2.length ≤ 100) :
    Calls Try.prog 26 #[v] w fun e w' => ∃ v', e = .returned v' ∧ CntN w' v' (allL s) ∧ Below w.heap.size w w' := by
  obtain ⟨vm, vr, rfl, hm, hr⟩ := hs
  have HBD := Lib.hid (getL_bound ok hn)
  obtain ⟨m, rs⟩ := s
  dsimp only at hm hr hn HBD
  obtain ⟨wE, hwE⟩ : ∃ wE, wE = w.alloc (.cells #[vm, vr] 25) := ⟨_, rfl⟩
  have HBE : Hid (Below w.heap.size w wE) := by rw [hwE]; exact (Below.refl _ _).alloc (Nat.le_refl _) _
  have q1 : wE.heap[w.heap.size]? = some (.cells #[vm, vr] 25) := by rw [hwE]; exact World.alloc_heap_new w _
  have HWE := Lib.hid hwE.symm
  have HX : Hid (∀ w', Below wE.heap.size wE w' → w'.cell? ⟨w.heap.size, 0, none⟩ = some vm ∧ w'.cell? ⟨w.heap.size, 1, none⟩ = some vr) := fun w' hb => by
    have hlt : w.heap.size < wE.heap.size := by rw [hwE]; simp
    have := (hb.block _ hlt).trans q1
    exact ⟨by unfold World.cell?; rw [this]; rfl, by unfold World.cell?; rw [this]; rfl⟩
  have HG : Hid (∀ w', Below w.heap.size w w' → ∀ k, Calls Try.prog 23 #[LsmV vm vr, .string k] w' fun e w'' => e = .returned (.int .i64 (getL m rs k)) ∧ Below w'.heap.size w' w'') := fun w' hb k =>
    rGet_any w' vm vr m rs k (hm.1.below hb (Nat.le_refl _)) (hr.1.below hb (Nat.le_refl _)) (by unfold sizeS at hl; dsimp only at hl; omega) (fun r hr => by have := total_mem hr; unfold sizeS at hl; dsimp only at hl; omega) (by omega) (fun r hr => by rcases List.mem_cons.1 hr with rfl | hr; exact inL_bound2 ok.1 k; exact inL_bound2 (ok.2.1 r hr).2 k)
  have HA := Lib.hid (rall_any wE vm vr m rs (hm.1.below HBE.out (Nat.le_refl _)) (hr.1.below HBE.out (Nat.le_refl _)) hl (by omega))
  have HKL : Hid ((rOf (allK m rs)).length ≤ 1000000) := by
    unfold Hid
    have h1 := rOf_len (allK m rs)
    have h2 : (allK m rs).length = m.length + total rs := by unfold allK; rw [List.length_append, keysC_len, flat_len]
    unfold sizeS at hl; dsimp only at hl; omega
  have HE : Hid (allL (m, rs) = tabL (rOf (allK m rs)) (getL m rs)) := rfl
  obtain ⟨A0, c0, rfl, z0⟩ := hm.1.shape
  obtain ⟨A, c, rfl, z1, z2⟩ := hr.shape
  clear hwE q1 z0 hm hr z1 z2 ok hl
  unfold LsmV at HG HA
  unfold LsmV
  generalize hgg : getL m rs = g at *
  have x0 := (HX.out _ (Below.refl _ _)).1
  have x1 := (HX.out _ (Below.refl _ _)).2
  clear hgg
  go_enter Try.func26, Try.ntmps26
  go_wp2_with fail
  rw [HWE.out]
  go_wp2_with fail
  refine HA.out.mono ?_
  rintro e w1 ⟨v1, rfl, hK, b1⟩
  have HB1 : Hid (Below w.heap.size w w1) := HBE.out.trans (b1.mono HBE.out.size)
  have HBE1 := Lib.hid b1
  have HK := Lib.hid hK
  obtain ⟨Ak, ck, rfl, m1, m2⟩ := hK.len
  have HKC := Lib.hid hK.cells
  generalize rOf (allK m rs) = ks at *
  clear b1 hK HA
  obtain ⟨n, hn'⟩ : ∃ n, n = ks.length := ⟨_, rfl⟩
  have HN := Lib.hid hn'
  rw [← hn'] at m1 HKL HK
  rw [← hn']
  have hn1 : n ≤ 1000000 := HKL.out
  clear hn' HKL x0 x1
  go_wp2_with fail
  go_loopw [3, 5] (fun u a wr => ∃ j : Nat, j ≤ n ∧ a = .int .i64 j ∧ Hid (wr.ownsRow w1.heap.size 51 2 u (tabL (ks.take j) g).length (cnC (tabL (ks.take j) g))) ∧ Hid (Below w1.heap.size w1 wr)) (fun _ a _ => n - (intOf a).toNat)
  case atStart => exact ⟨0, Nat.zero_le _, rfl, World.ownsRow_nil _ _ _ _, Below.refl _ _⟩
  case round =>
    obtain ⟨j, hj, rfl, HO, HW⟩ := hrel
    have HBW : Hid (Below w.heap.size w wr) := HB1.out.trans (HW.out.mono HB1.out.size)
    have hbx : Below wE.heap.size wE wr := HBE1.out.trans (HW.out.mono HBE1.out.size)
    obtain ⟨x0, x1⟩ := HX.out _ hbx
    clear hbx
    by_cases hlt : j < n
    · have hlt' : (j : Int) < (n : Int) := by omega
      have hjl : j < ks.length := by rw [← HN.out]; exact hlt
      obtain ⟨b0, off, rfl, hblt, hc⟩ := HKC.out (by omega)
      have e1 := (HW.out.cell (p := ⟨b0, off + j, none⟩) hblt).trans (hc j hjl)
      have HT := Lib.hid (tabL_take ks g j hjl)
      have hlen : (tabL (ks.take j) g).length ≤ 1000000 := Nat.le_trans (tabL_len _ _) (by rw [List.length_take]; omega)
      have HLEN := Lib.hid hlen
      clear hc hlen
      generalize ks[j] = k at *
      have hgk := HBD.out k
      have HBD1 : Hid (Below wr.heap.size wr wr.drew) := below_drewN wr 1
      have HGW := Lib.hid (HG.out wr.drew (HBW.out.trans (HBD1.out.mono HBW.out.size)) k)
      generalize g k = z at *
      have x0d : wr.drew.cell? ⟨w.heap.size, 0, none⟩ = _ := x0
      have x1d : wr.drew.cell? ⟨w.heap.size, 1, none⟩ = _ := x1
      have e2 : wr.drew.cell? ⟨b0, off + j, none⟩ = some (.string k) := e1
      have hbz : b0 < wr.drew.heap.size := Nat.lt_of_lt_of_le hblt HW.out.size
      have hwz : w.heap.size < wr.drew.heap.size := by
        refine Decidable.byContradiction fun hh => ?_
        simp [World.cell?, Array.getElem?_eq_none (Nat.le_of_not_lt hh)] at x0d
      go_wp2_with fail
      refine wp_region_noPanic ?_
      refine wp_region_held_drew (S := fun w' => Below wr.drew.heap.size wr.drew w') (by kernel_rfl) (Below.refl _ _) (fun hHeld => ?_)
      have HOd : Hid (wr.drew.ownsRow w1.heap.size 51 2 u3 (tabL (ks.take j) g).length (cnC (tabL (ks.take j) g))) := Lib.hid (owns_drewN 1 HO.out)
      have HWd : Hid (Below w1.heap.size w1 wr.drew) := Lib.hid (HW.out.trans (HBD1.out.mono HW.out.size))
      clear HO HW HBW HBD1 x0 x1 e1
      generalize wr.drew = wd at *
      refine' wpAnyH_take (i := 1) (v := ?v1) rfl (by kernel_rfl) (by kernel_rfl) (by kernel_rfl) (fun _ _ _ h => h) (Or.inl ⟨by kernel_rfl, ?hy1⟩) (by assumption) ?rest1
      case hy1 => (intro w hSw; (try dsimp only at hSw); go_simp; try with_reducible rfl)
      try simp only [Act.put, List.setIfInBounds_toArray, List.set_cons_zero, List.set_cons_succ]
      refine' wpAnyH_take (i := 2) (v := ?v2) rfl (by kernel_rfl) (by kernel_rfl) (by kernel_rfl) (fun _ _ _ h => h) (Or.inl ⟨by kernel_rfl, ?hy2⟩) (by assumption) ?rest2
      case hy2 => (intro w hSw; (try dsimp only at hSw); go_simp; try with_reducible rfl)
      try simp only [Act.put, List.setIfInBounds_toArray, List.set_cons_zero, List.set_cons_succ]
      refine' wpAnyH_take (i := 3) (v := ?v3) rfl (by kernel_rfl) (by kernel_rfl) (by kernel_rfl) (fun _ _ _ h => h) (Or.inl ⟨by kernel_rfl, ?hy3⟩) (by assumption) ?rest3
      case hy3 => (intro w hSw; (try dsimp only at hSw); go_simp; try with_reducible rfl)
      try simp only [Act.put, List.setIfInBounds_toArray, List.set_cons_zero, List.set_cons_succ]
      refine wpAnyH_take (i := 4) (v := (.string k)) rfl (by kernel_rfl) (by kernel_rfl) (by kernel_rfl) (fun _ _ _ h => h) (Or.inl ⟨by kernel_rfl, ?_⟩) hHeld ?_
      · intro w hSw
        have hh := ((hSw.cell (p := ⟨b0, off + j, none⟩) hbz).trans e2)
        go_simp
      try simp only [Act.put, List.setIfInBounds_toArray, List.set_cons_zero, List.set_cons_succ]
      refine wpAnyH_take (i := 0) (v := .agg #[.slice A0 m.length c0, .slice A rs.length c]) rfl (by kernel_rfl) (by kernel_rfl) (by kernel_rfl) (fun _ _ _ h => h) (Or.inl ⟨by kernel_rfl, ?_⟩) (by assumption) ?_
      · intro wz hSw
        have hh := (hSw.cell (p := ⟨w.heap.size, 0, none⟩) hwz).trans x0d
        have hg := (hSw.cell (p := ⟨w.heap.size, 1, none⟩) hwz).trans x1d
        go_simp
      try simp only [Act.put, List.setIfInBounds_toArray, List.set_cons_zero, List.set_cons_succ]
      refine wpAnyH_ready (rs := [5]) (by kernel_rfl) (by simp) ?_
      refine AllReadyH.cons rfl (fun K hK => ?_) AllReadyH.nil
      go_simp
      go_at_call 23
      refine HGW.out.mono ?_
      rintro er w2 ⟨rfl, b2⟩
      have HB2 := Lib.hid b2
      clear b2
      go_wp2_with fail
      refine hK.out _ _ HB2.out (fun hHeld => ?_)
      clear hK K
      try simp only [Act.put, List.setIfInBounds_toArray, List.set_cons_zero, List.set_cons_succ]
      refine wpAnyH_take (i := 6) (v := .int .i64 z) rfl (by kernel_rfl) (by kernel_rfl) (by kernel_rfl) (fun _ _ _ h => h) (Or.inl ⟨by kernel_rfl, ?_⟩) (by assumption) ?_
      · intro w hSw
        go_simp
      refine wpAnyH_done (by kernel_rfl) ?_ _
      refine NoPanic.normal ?_
      have HO2 : Hid (w2.ownsRow w1.heap.size 51 2 u3 (tabL (ks.take j) g).length (cnC (tabL (ks.take j) g))) := owns_below HOd.out HB2.out
      have HW2 : Hid (Below w1.heap.size w1 w2) := HWd.out.trans (HB2.out.mono HWd.out.size)
      have e3 : w2.cell? ⟨b0, off + j, none⟩ = some (.string k) := (HB2.out.cell (p := ⟨b0, off + j, none⟩) hbz).trans e2
      clear x0d x1d e2 hbz hwz HOd HWd
      by_cases hz0 : z = 0
      · have hzt : (z != 0) = false := by simp [hz0]
        have HZ0 := Lib.hid hz0
        clear hz0
        go_wp2_with fail
        go_roundw
        case rel => exact ⟨j + 1, by omega, by go_num, by rw [HT.out, if_pos HZ0.out, List.append_nil]; exact HO2.out, HW2.out⟩
        case measure => simp [intOf]; omega
      · have hzt : (z != 0) = true := by simp [hz0]
        have HZ0 := Lib.hid hz0
        clear hz0
        have HT1 : Hid (tabL (ks.take (j + 1)) g = tabL (ks.take j) g ++ [(k, z)]) := by rw [HT.out, if_neg HZ0.out]; rfl
        have HUO : Hid (∀ k, u3.ownBlock = some k → w1.heap.size ≤ k) := fun k hk => (HO2.out.lt k hk).1
        generalize tabL (ks.take j) g = o at *
        go_wp2_with (at_builtin; refine wpList_append_cnts rfl _ _ _ rfl Try.underlying22 w1.heap.size u3 o rfl (World.ownsRow.alloc HO2.out _) _ [(k, z)] rfl (new_cntb _ (k, z) _ (by simp)) (by have := HLEN.out; simp; omega) (by have := HW2.out.size; simp; omega) ?_)
        intro u9 w9 ho9 hg9
        have HB9 : Hid (Below w1.heap.size w1 w9) := (HW2.out.alloc HW2.out.size _).grown hg9 (HW2.out.alloc HW2.out.size _).size HUO.out
        have HO9 : Hid (w9.ownsRow w1.heap.size 51 2 u9 (o ++ [(k, z)]).length (cnC (o ++ [(k, z)]))) := by unfold Hid; simpa [cnC] using ho9
        clear ho9 hg9
        go_wp2_with fail
        go_roundw
        case rel => exact ⟨j + 1, by omega, by go_num, by rw [HT1.out]; exact HO9.out, HB9.out⟩
        case measure => simp [intOf]; omega
    · obtain rfl : j = n := by omega
      have HE2 : Hid (tabL (ks.take j) g = allL (m, rs)) := by unfold Hid; rw [HN.out, List.take_length]; exact HE.out.symm
      go_wp2_with fail
      go_ret
      refine ⟨_, rfl, ?_, HB1.out.trans (HW.out.mono HB1.out.size)⟩
      rw [← HE2.out]
      exact CntN.of_owns HO.out
end Go.Proofs.Yteidlngffikboaa

/- Here ends the text LsmRAll; here begins LsmPAll. -/
namespace Go.Proofs.Yteidlngffikboaa
open Go.RowKit
set_option linter.unusedVariables false
set_option linter.unusedSimpArgs false
theorem CntB.kp {w w' : World} {v : Value} {l : List Cnt} {X : Nat} (h : CntB w v l) (hc : ∀ o, w.cell? ⟨X, o, none⟩ = none) (hk : KpX w.heap.size X w w') (hs : w.heap.size ≤ w'.heap.size) : CntB w' v l := by
  obtain ⟨A', c', g1, g2, g3, g4⟩ := h
  refine ⟨A', c', g1, g2, g3, fun hl' => ?_⟩
  obtain ⟨b', off', f1, f2, f3⟩ := g4 hl'
  have hnb' : b' ≠ X := fun e => by
    subst e
    have := (f3 0 hl').1
    rw [hc] at this; cases this
  exact ⟨b', off', f1, Nat.lt_of_lt_of_le f2 hs, fun j hj => ⟨(World.cell?_of_block (hk b' f2 hnb')).trans (f3 j hj).1, (World.cell?_of_block (hk b' f2 hnb')).trans (f3 j hj).2⟩⟩
theorem RunsN.kp {w w' : World} {v : Value} {l : List (List Cnt)} {X : Nat} (h : RunsN w v l) (hc : ∀ o, w.cell? ⟨X, o, none⟩ = none) (hk : KpX w.heap.size X w w') (hs : w.heap.size ≤ w'.heap.size) : RunsN w' v l := by
  obtain ⟨⟨A, c, h1, h2, h3, h4⟩, h5⟩ := h
  refine ⟨⟨A, c, h1, h2, h3, fun hl => ?_⟩, h5⟩
  obtain ⟨b, off, e1, e2, e3⟩ := h4 hl
  have hnb : b ≠ X := fun e => by
    subst e
    obtain ⟨u, k1, _⟩ := e3 0 hl
    rw [hc] at k1; cases k1
  refine ⟨b, off, e1, Nat.lt_of_lt_of_le e2 hs, fun i hi => ?_⟩
  obtain ⟨u, k1, ⟨A', c', g1, g2, g3, g4⟩, k3⟩ := e3 i hi
  refine ⟨u, (World.cell?_of_block (hk b e2 hnb)).trans k1, ⟨A', c', g1, g2, g3, fun hl' => ?_⟩, k3⟩
  obtain ⟨b', off', f1, f2, f3⟩ := g4 hl'
  have hnb' : b' ≠ X := fun e => by
    subst e
    have := (f3 0 hl').1
    rw [hc] at this; cases this
  exact ⟨b', off', f1, Nat.lt_of_lt_of_le f2 hs, fun j hj => ⟨(World.cell?_of_block (hk b' f2 hnb')).trans (f3 j hj).1, (World.cell?_of_block (hk b' f2 hnb')).trans (f3 j hj).2⟩⟩
theorem KpX.trans {B X : Nat} {U V W : World} (h : KpX B X U V) (k : KpX B X V W) : KpX B X U W := fun j hj hne => (k j hj hne).trans (h j hj hne)
theorem kpX_below {B X : Nat} {V W : World} (h : Below V.heap.size V W) (hB : B ≤ V.heap.size) : KpX B X V W := fun j hj _ => h.block j (Nat.lt_of_lt_of_le hj hB)
theorem kpX_grown {B X : Nat} {V W : World} {row : Option Nat} (h : V.grownBy W row) (hB : B ≤ V.heap.size) (hr : ∀ j, row = some j → j = X ∨ B ≤ j) : KpX B X V W := fun j hj hne => h.block j (Nat.lt_of_lt_of_le hj hB) (fun e => by rcases hr j e.symm with h | h <;> omega)
/-- what the names are, so far -/
structure NamesI (w w1 : World) (bm : Nat) (v : Value) (ns : List ByteArray) (wr : World) : Prop where
  own : wr.ownsRow w1.heap.size 9 1 v ns.length (ns.map .string)
  set : SetM wr bm ns.length (fun s => decide (s ∈ ns))
  kp : KpX w1.heap.size bm w1 wr
  low : Below w.heap.size w wr
  size : w1.heap.size ≤ wr.heap.size
set_option maxRecDepth 20000 in
set_option maxHeartbeats 8000000 in
theorem pAll_any (w : World) (v : Value) (s : CntS) (hs : LsmN w v s) (ok : okS s) (hl : sizeS s ≤ 1000000) (hn : s.2.length ≤ 100) :
    Calls Try.prog 25 #[v] w fun e w' => ∃ v', e = .returned v' ∧ CntN w' v' (allL s) ∧ Below w.heap.size w w' := by
  obtain ⟨vm, vr, rfl, hm, hr⟩ := hs
  have HBD := Lib.hid (getL_bound ok hn)
  obtain ⟨m, rs⟩ := s
  dsimp only at hm hr hn HBD
  obtain ⟨wE, hwE⟩ : ∃ wE, wE = (w.alloc (.cells #[vm, vr] 25)).alloc (.map #[] 0) := ⟨_, rfl⟩
  have HWE := Lib.hid hwE.symm
  have HBE : Hid (Below w.heap.size w wE) := by rw [hwE]; exact ((Below.refl _ _).alloc (Nat.le_refl _) _).alloc (by simp) _
  have HSE : Hid (SetM wE (w.heap.size + 1) 0 (fun s => decide (s ∈ ([] : List ByteArray)))) := by
    unfold Hid
    rw [hwE]
    have := SetM.made (w.alloc (.cells #[vm, vr] 25))
    rw [World.size_alloc] at this
    exact this.congr (fun s => by simp)
  have q1 : wE.heap[w.heap.size]? = some (.cells #[vm, vr] 25) := by rw [hwE]; exact (Below.heap_alloc _ _ _ (by simp)).trans (World.alloc_heap_new w _)
  have hsz : wE.heap.size = w.heap.size + 2 := by rw [hwE]; simp
  have HSZ := Lib.hid hsz
  have HX : Hid (∀ w', KpX wE.heap.size (w.heap.size + 1) wE w' → w'.cell? ⟨w.heap.size, 0, none⟩ = some vm ∧ w'.cell? ⟨w.heap.size, 1, none⟩ = some vr) := fun w' hb => by
    have := (hb _ (by omega) (by omega)).trans q1
    exact ⟨by unfold World.cell?; rw [this]; rfl, by unfold World.cell?; rw [this]; rfl⟩
  have HG : Hid (∀ w', Below w.heap.size w w' → ∀ k, Calls Try.prog 22 #[LsmV vm vr, .string k] w' fun e w'' => e = .returned (.int .i64 (getL m rs k)) ∧ Below w'.heap.size w' w'') := fun w' hb k =>
    pGet_any w' vm vr m rs k (hm.below hb (Nat.le_refl _)) (hr.below hb (Nat.le_refl _)) (fun r hr => by rcases List.mem_cons.1 hr with rfl | hr; exact ok.1; exact (ok.2.1 r hr).2) hl (by omega)
  have HA := Lib.hid (rows_any wE vm vr m rs (hm.below HBE.out (Nat.le_refl _)) (hr.below HBE.out (Nat.le_refl _)) (by omega))
  have HTL : Hid (total (m :: rs) ≤ 1000000) := by unfold sizeS at hl; dsimp only at hl; unfold Hid total at *; simpa using hl
  have HQA : Hid ((m :: rs).flatMap keysC = allK m rs) := by unfold Hid allK; simp
  have HSS : Hid (∀ r ∈ m :: rs, ∀ x ∈ r, x.1.size ≤ 32) := fun r hr x hx => by
    have : okR r := by
      rcases List.mem_cons.1 hr with rfl | hr
      · exact ok.1
      · exact (ok.2.1 r hr).2
    exact Nat.le_of_eq (this.2 x hx).1
  obtain ⟨A0, c0, rfl, z0⟩ := hm.1.shape
  obtain ⟨A, c, rfl, z1, z2⟩ := hr.shape
  clear hwE q1 z0 hm hr z1 z2 ok hl
  have HE : Hid (allL (m, rs) = tabL (rOf (allK m rs)) (getL m rs)) := rfl
  unfold LsmV at HG HA
  unfold LsmV
  generalize hgg : getL m rs = g at *
  have x0 := (HX.out _ (kpX_refl _ _ _)).1
  have x1 := (HX.out _ (kpX_refl _ _ _)).2
  clear hgg
  generalize hq : m :: rs = q at *
  have hql : q.length ≤ 101 := by rw [← hq]; simp; omega
  clear hq
  have hmm := @run_makeMap Try.prog
  go_enter Try.func25, Try.ntmps25
  go_wp2_with fail
  rw [HWE.out]
  clear hmm
  go_wp2_with fail
  refine HA.out.mono ?_
  rintro e w1 ⟨v1, rfl, hR, b1⟩
  have HB1 : Hid (Below w.heap.size w w1) := HBE.out.trans (b1.mono HBE.out.size)
  have HK1 : Hid (KpX wE.heap.size (w.heap.size + 1) wE w1) := kpX_below b1 (Nat.le_refl _)
  have HS1 : Hid (SetM w1 (w.heap.size + 1) 0 (fun s => decide (s ∈ ([] : List ByteArray)))) := HSE.out.kept (row := none) ⟨b1.os, b1.tape, b1.output, b1.size, fun i hi _ => b1.block i hi⟩ (by simp)
  have hs1 : w.heap.size + 2 ≤ w1.heap.size := by rw [← hsz]; exact b1.size
  have HR1 := Lib.hid hR
  obtain ⟨⟨A1, c1, rfl, y2, y3, y4⟩, _⟩ := hR
  have HCC := Lib.hid y4
  have hc1 : c1 ≤ 9223372036854775807 := by unfold maxLen at y3; omega
  obtain ⟨nq, hnq⟩ : ∃ nq, nq = q.length := ⟨_, rfl⟩
  have HNQ := Lib.hid hnq
  rw [← hnq] at y2 hql HR1
  rw [← hnq]
  clear hnq b1 HA y3 x0 x1 y4
  have HN0 : Hid (NamesI w w1 (w.heap.size + 1) (.slice none 0 0) [] w1) := ⟨World.ownsRow_nil _ _ _ _, HS1.out, kpX_refl _ _ _, HB1.out, Nat.le_refl _⟩
  go_wp2_with fail
  go_loopw [17, 5] (fun a u wr => ∃ (p : Nat) (ns : List ByteArray), p ≤ nq ∧ a = .int .i64 p ∧ Hid (NamesI w w1 (w.heap.size + 1) u ns wr) ∧ Hid (∀ k, k ∈ ns ↔ k ∈ (q.take p).flatMap keysC) ∧ Hid (ns.length ≤ total (q.take p))) (fun a _ _ => nq - (intOf a).toNat)
  case atStart => exact ⟨0, [], Nat.zero_le _, rfl, HN0, by unfold Hid; simp, by unfold Hid; simp⟩
  case round =>
    obtain ⟨p, ns, hp, rfl, HI, HM, HL⟩ := hrel
    by_cases hlp : p < nq
    · have hlp' : (p : Int) < (nq : Int) := by omega
      have hpl : p < q.length := by rw [← HNQ.out]; exact hlp
      obtain ⟨b, off, rfl, hblt, hc⟩ := HCC.out (by omega)
      obtain ⟨uv, cu1, c2⟩ := hc p hpl
      have hnb : b ≠ w.heap.size + 1 := fun e => by rw [e, HS1.out.no_cell] at cu1; cases cu1
      have cu : wr.cell? ⟨b, off + p, none⟩ = some uv := (World.cell?_of_block (HI.out.kp b hblt hnb)).trans cu1
      have HCU := Lib.hid c2.1
      obtain ⟨Ar, cr, rfl, g2, g3, g4⟩ := c2.1
      have hcr : cr ≤ 9223372036854775807 := by unfold maxLen at g3; omega
      have HRL : Hid (q[p].length ≤ 1000000) := by have h1 := total_get q p hpl; have h2 := HTL.out; have h3 := total_take q p; unfold Hid; omega
      have HFT := Lib.hid (flat_take q p hpl)
      have HTG := Lib.hid (total_get q p hpl)
      have HT1 : Hid (total (q.take (p + 1)) = total (q.take p) + q[p].length) := by unfold Hid total; rw [List.take_succ_eq_append_getElem hpl, List.map_append, List.sum_append]; simp
      have HSP : Hid (∀ x ∈ q[p], x.1.size ≤ 32) := HSS.out q[p] (List.getElem_mem hpl)
      have HTQ : Hid (total (q.take p) + q[p].length ≤ 1000000) := by have h1 := total_get q p hpl; have h2 := HTL.out; unfold Hid; omega
      clear hc c2 g2 g3 cu1
      generalize q[p] = r at *
      obtain ⟨z, hz⟩ : ∃ z, z = r.length := ⟨_, rfl⟩
      have HZ := Lib.hid hz
      rw [← hz] at HRL HTG HT1 HTQ HCU
      rw [← hz] at cu
      clear hz g4
      go_wp2_with fail
      go_loopw [23, 5] (fun a u wr => ∃ (j : Nat) (ns : List ByteArray), j ≤ z ∧ a = .int .i64 j ∧ Hid (NamesI w w1 (w.heap.size + 1) u ns wr) ∧ Hid (∀ k, k ∈ ns ↔ k ∈ (q.take p).flatMap keysC ++ keysC (r.take j)) ∧ Hid (ns.length ≤ total (q.take p) + j)) (fun a _ _ => z - (intOf a).toNat)
      case atStart => exact ⟨0, ns, Nat.zero_le _, rfl, HI, by unfold Hid; simpa [keysC] using HM.out, by unfold Hid; exact HL.out⟩
      case round =>
        clear HI HM HL
        obtain ⟨j, ns, hj, rfl, HI, HM, HL⟩ := hrel
        by_cases hlt : j < z
        · have hlt' : (j : Int) < (z : Int) := by omega
          have hjl : j < r.length := by rw [← HZ.out]; exact hlt
          obtain ⟨A9, c9, hv9, _, _, hz9⟩ := HCU.out.kp HS1.out.no_cell HI.out.kp HI.out.size
          injection hv9 with hv9a hv9b hv9c
          subst hv9a hv9c
          obtain ⟨b2, off2, rfl, hb2, hc2⟩ := hz9 (by omega)
          obtain ⟨e1, e2⟩ := hc2 j hjl
          have hks := HSP.out r[j] (List.getElem_mem hjl)
          have HKT := Lib.hid (keysC_take r j hjl)
          have hnsl : ns.length ≤ 1000000 := by have := HL.out; have := HTQ.out; omega
          clear hc2 hz9 hv9b
          generalize r[j].1 = k at *
          generalize r[j].2 = y at *
          have HIe : Hid (NamesI w w1 (w.heap.size + 1) u5 ns (wr.alloc (.cells #[.string k, .int .i64 y] 51))) := by
            have h := HI.out
            exact ⟨h.own.alloc _, h.set.alloc _, h.kp.trans (kpX_grown (World.grownBy_alloc wr _ none) h.size (fun j e => by cases e)), h.low.alloc h.low.size _, by simp; have := h.size; omega⟩
          have n0 : (wr.alloc (.cells #[.string k, .int .i64 y] 51)).cell? ⟨wr.heap.size, 0, none⟩ = some (.string k) := by unfold World.cell?; rw [World.alloc_heap_new]; rfl
          have hwes : wr.heap.size < (wr.alloc (.cells #[.string k, .int .i64 y] 51)).heap.size := by simp
          have hkm : k.size ≤ maxLen := by unfold maxLen; omega
          have hlk := HIe.out.set.look k hkm
          have N0 := Lib.hid n0
          have HWS := Lib.hid hwes
          have HWR := Lib.hid HI.out.size
          clear HI n0 hwes
          by_cases hin : k ∈ ns
          · have hd : decide (k ∈ ns) = true := by simp [hin]
            rw [hd] at hlk
            have HM2 : Hid (∀ k', k' ∈ ns ↔ k' ∈ (q.take p).flatMap keysC ++ keysC (r.take (j + 1))) := fun k' => by
              rw [HKT.out, ← List.append_assoc, List.mem_append, ← HM.out k']
              constructor
              · exact fun h => .inl h
              · rintro (h | h)
                · exact h
                · rw [show k' = k by simpa using h]; exact hin
            clear hin hd HM
            go_wp2_with fail
            go_roundw
            case rel => exact ⟨j + 1, ns, by omega, by go_num, HIe, HM2, by have := HL.out; unfold Hid; omega⟩
            case measure => simp [intOf]; omega
          · have hd : decide (k ∈ ns) = false := by simp [hin]
            rw [hd] at hlk
            obtain ⟨w2, hup, hS2, hg2⟩ := HIe.out.set.put k hkm (by unfold maxLen; omega)
            have HS2 : Hid (SetM w2 (w.heap.size + 1) (ns ++ [k]).length (fun s => decide (s ∈ ns ++ [k]))) := by
              have := hS2.congr (T := fun s => decide (s ∈ ns ++ [k])) (fun s => by simp [or_comm])
              unfold Hid; simpa using this
            have HNI : Hid (some (w.heap.size + 1) ≠ u5.ownBlock) := by
              unfold Hid
              intro e
              have := (HIe.out.own.lt _ e.symm).1
              omega
            have HO2 : Hid (w2.ownsRow w1.heap.size 9 1 u5 ns.length (ns.map .string)) := HIe.out.own.kept hg2 (.inr HNI.out.symm)
            have n2 : w2.cell? ⟨wr.heap.size, 0, none⟩ = some (.string k) := (World.cell?_of_block (hg2.block _ HWS.out (by intro e; injection e with e; dsimp only at e; have := HWR.out; omega))).trans N0.out
            have hs2 : w1.heap.size ≤ w2.heap.size := Nat.le_trans HIe.out.size hg2.size
            have HK2 : Hid (KpX w1.heap.size (w.heap.size + 1) w1 w2) := HIe.out.kp.trans (kpX_grown hg2 HIe.out.size (fun j e => by cases e; exact .inl rfl))
            have HL2 : Hid (Below w.heap.size w w2) := HIe.out.low.grown hg2 HIe.out.low.size (fun j e => by cases e; omega)
            have HM2 : Hid (∀ k', k' ∈ ns ++ [k] ↔ k' ∈ (q.take p).flatMap keysC ++ keysC (r.take (j + 1))) := fun k' => by
              rw [HKT.out, ← List.append_assoc, List.mem_append, List.mem_append, ← HM.out k']
            clear hin hd HM hS2 hg2
            go_wp2_with (at_builtin; refine wpList_push_str rfl _ _ 54 rfl Try.underlying54 w1.heap.size _ ns rfl (HO2.out.alloc _) ⟨w2.heap.size, 0, none⟩ _ k rfl (by simp) (by omega) (by simp; omega) ?_)
            intro v3 w3 ho3 hg3
            have HI3 : Hid (NamesI w w1 (w.heap.size + 1) v3 (ns ++ [k]) w3) := by
              have hr3 : ∀ j, u5.ownBlock = some j → w1.heap.size ≤ j := fun j e => (HO2.out.lt j e).1
              refine ⟨by simpa using ho3, (HS2.out.alloc _).kept hg3 HNI.out, HK2.out.trans ((kpX_grown (World.grownBy_alloc w2 _ none) hs2 (fun j e => by cases e)).trans (kpX_grown hg3 (by simp; omega) (fun j e => .inr (hr3 j e)))), (HL2.out.alloc HL2.out.size _).grown hg3 (by simp; have := HL2.out.size; omega) (fun j e => Nat.le_trans HB1.out.size (hr3 j e)), Nat.le_trans hs2 (Nat.le_trans (by simp) hg3.size)⟩
            clear ho3 hg3 HS2 HO2 HK2 HL2 hup n2
            go_wp2
            go_roundw
            case rel => exact ⟨j + 1, ns ++ [k], by omega, by go_num, HI3, HM2, by have := HL.out; unfold Hid; simp; omega⟩
            case measure => simp [intOf]; omega
        · obtain rfl : j = z := by omega
          have HM2 : Hid (∀ k', k' ∈ ns ↔ k' ∈ (q.take (p + 1)).flatMap keysC) := fun k' => by
            rw [HFT.out, HM.out k', HZ.out, List.take_length]
          go_wp2_with fail
          go_roundw
          case rel => exact ⟨p + 1, ns, by omega, by go_num, HI, HM2, by have := HL.out; have := HT1.out; unfold Hid; omega⟩
          case measure => simp [intOf]; omega
    · obtain rfl : p = nq := by omega
      have HKE : Hid (kOf ns = rOf (allK m rs)) := by
        unfold Hid
        rw [rOf_eq]
        obtain ⟨h1, h2⟩ := kOf_spec ns
        obtain ⟨h3, h4⟩ := kOf_spec (allK m rs)
        refine ris_ext h1 h3 fun x => ?_
        rw [h2, h4, HM.out x, HNQ.out, List.take_length, HQA.out]
      have hnl : ns.length ≤ 1000000 := by
        have h1 := HL.out
        rw [HNQ.out, List.take_length] at h1
        exact Nat.le_trans h1 HTL.out
      have HKO := Lib.hid (kOf_any wr u5 ns (StrsB.of_owns HI.out.own) hnl)
      have HKL : Hid ((kOf ns).length ≤ 1000000) := by
        unfold Hid
        rw [HKE.out, rOf_eq]
        have h1 := rOf_len (allK m rs)
        rw [rOf_eq] at h1
        have h2 : (allK m rs).length ≤ 1000000 := by rw [← HQA.out, flat_len]; exact HTL.out
        omega
      have hk1r : KpX wE.heap.size (w.heap.size + 1) w1 wr := fun j hj hne => HI.out.kp j (by omega) hne
      have hkb : wE.heap.size ≤ wr.heap.size := by have := HI.out.size; omega
      have HXr : Hid (∀ w', Below wr.heap.size wr w' → w'.cell? ⟨w.heap.size, 0, none⟩ = some (.slice A0 m.length c0) ∧ w'.cell? ⟨w.heap.size, 1, none⟩ = some (.slice A rs.length c)) := fun w' hb =>
        HX.out w' (HK1.out.trans (hk1r.trans (kpX_below hb hkb)))
      have HLW := Lib.hid HI.out.low
      clear HI HM HL HX hk1r hkb
      go_wp2_with fail
      refine HKO.out.mono ?_
      rintro e w2 ⟨v2, rfl, hK, b2⟩
      have HB2 : Hid (Below w.heap.size w w2) := HLW.out.trans (b2.mono HLW.out.size)
      have HBr := Lib.hid b2
      have HKN := Lib.hid hK
      obtain ⟨Ak, ck, rfl, m1, m2⟩ := hK.len
      have HKC := Lib.hid hK.cells
      rw [HKE.out] at HKL HKC HKN m1
      rw [HKE.out]
      generalize rOf (allK m rs) = ks at *
      clear b2 hK HKO HKE
      obtain ⟨n, hn'⟩ : ∃ n, n = ks.length := ⟨_, rfl⟩
      have HN := Lib.hid hn'
      rw [← hn'] at m1 HKL HKN
      rw [← hn']
      have hn1 : n ≤ 1000000 := HKL.out
      clear hn' HKL
      go_wp2_with fail
      go_loopw [3, 45] (fun u a wr => ∃ j : Nat, j ≤ n ∧ a = .int .i64 j ∧ Hid (wr.ownsRow w2.heap.size 51 2 u (tabL (ks.take j) g).length (cnC (tabL (ks.take j) g))) ∧ Hid (Below w2.heap.size w2 wr)) (fun _ a _ => n - (intOf a).toNat)
      case atStart => exact ⟨0, Nat.zero_le _, rfl, World.ownsRow_nil _ _ _ _, Below.refl _ _⟩
      case round =>
        obtain ⟨j, hj, rfl, HO, HW⟩ := hrel
        have HBW : Hid (Below w.heap.size w wr) := HB2.out.trans (HW.out.mono HB2.out.size)
        have hbx := HBr.out.trans (HW.out.mono HBr.out.size)
        obtain ⟨x0, x1⟩ := HXr.out _ hbx
        clear hbx
        by_cases hlt : j < n
        · have hlt' : (j : Int) < (n : Int) := by omega
          have hjl : j < ks.length := by rw [← HN.out]; exact hlt
          obtain ⟨b0, off, rfl, hblt, hc⟩ := HKC.out (by omega)
          have e1 := (HW.out.cell (p := ⟨b0, off + j, none⟩) hblt).trans (hc j hjl)
          have HT := Lib.hid (tabL_take ks g j hjl)
          have hlen : (tabL (ks.take j) g).length ≤ 1000000 := Nat.le_trans (tabL_len _ _) (by rw [List.length_take]; omega)
          have HLEN := Lib.hid hlen
          clear hc hlen
          generalize ks[j] = k at *
          have hgk := HBD.out k
          have HGW := Lib.hid (HG.out wr HBW.out k)
          generalize g k = z at *
          have HWH := Lib.hid (fun w => whole_any z w hgk)
          go_wp2_with fail
          refine HGW.out.mono ?_
          rintro er w3 ⟨rfl, b3⟩
          have HO3 : Hid (w3.ownsRow w2.heap.size 51 2 u3 (tabL (ks.take j) g).length (cnC (tabL (ks.take j) g))) := owns_below HO.out b3
          have HW3 : Hid (Below w2.heap.size w2 w3) := HW.out.trans (b3.mono HW.out.size)
          clear HO HW HBW x0 x1 e1 b3 HGW
          go_wp2_with fail
          refine (HWH.out _).mono ?_
          rintro er w4 ⟨rfl, rfl⟩
          by_cases hz0 : z = 0
          · have hzt : (z != 0) = false := by simp [hz0]
            have HZ0 := Lib.hid hz0
            clear hz0
            go_wp2_with fail
            go_roundw
            case rel => exact ⟨j + 1, by omega, by go_num, by rw [HT.out, if_pos HZ0.out, List.append_nil]; exact HO3.out, HW3.out⟩
            case measure => simp [intOf]; omega
          · have hzt : (z != 0) = true := by simp [hz0]
            have HZ0 := Lib.hid hz0
            clear hz0
            have HT1 : Hid (tabL (ks.take (j + 1)) g = tabL (ks.take j) g ++ [(k, z)]) := by rw [HT.out, if_neg HZ0.out]; rfl
            have HUO : Hid (∀ k, u3.ownBlock = some k → w2.heap.size ≤ k) := fun k hk => (HO3.out.lt k hk).1
            generalize tabL (ks.take j) g = o at *
            go_wp2_with (at_builtin; refine wpList_append_cnts rfl _ _ _ rfl Try.underlying22 w2.heap.size u3 o rfl (World.ownsRow.alloc HO3.out _) _ [(k, z)] rfl (new_cntb _ (k, z) _ (by simp)) (by have := HLEN.out; simp; omega) (by have := HW3.out.size; simp; omega) ?_)
            intro u9 w9 ho9 hg9
            have HB9 : Hid (Below w2.heap.size w2 w9) := (HW3.out.alloc HW3.out.size _).grown hg9 (HW3.out.alloc HW3.out.size _).size HUO.out
            have HO9 : Hid (w9.ownsRow w2.heap.size 51 2 u9 (o ++ [(k, z)]).length (cnC (o ++ [(k, z)]))) := by unfold Hid; simpa [cnC] using ho9
            clear ho9 hg9
            go_wp2_with fail
            go_roundw
            case rel => exact ⟨j + 1, by omega, by go_num, by rw [HT1.out]; exact HO9.out, HB9.out⟩
            case measure => simp [intOf]; omega
        · obtain rfl : j = n := by omega
          have HE2 : Hid (tabL (ks.take j) g = allL (m, rs)) := by unfold Hid; rw [HN.out, List.take_length]; exact HE.out.symm
          go_wp2_with fail
          go_ret
          refine ⟨_, rfl, ?_, HBW.out⟩
          rw [← HE2.out]
          exact CntN.of_owns HO.out
end Go.Proofs.Yteidlngffikboaa
