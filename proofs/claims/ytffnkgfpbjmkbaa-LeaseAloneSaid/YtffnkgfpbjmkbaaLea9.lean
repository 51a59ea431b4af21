/- lease: Pass at one lock (written by gen-lea9.py). -/
import Derived.Test.YtffnkgfpbjmkbaaLea8
namespace Go.Proofs.Ytffnkgfpbjmkbaa
open Go.RowKit
set_option linter.unusedVariables false
set_option linter.unusedSimpArgs false
theorem u64Info : (Try.prog.info? 22).map (fun i => (i.zero, i.size, i.bytes)) = some (some (.int .u64 0), 1, 8) := by kernel_rfl
/-- one number -/
def Num1 (w : World) (v : Value) (o : UInt64) : Prop := ∃ g c, v = .slice (some ⟨g, 0, none⟩) 1 c ∧ 1 ≤ c ∧ c ≤ maxLen ∧ g < w.heap.size ∧ w.cell? ⟨g, 0, none⟩ = some (.int .u64 o.toNat)
theorem Num1.below {w w' : World} {v : Value} {o : UInt64} {B : Nat} (h : Num1 w v o) (b : Below B w w') (hB : w.heap.size ≤ B) : Num1 w' v o := by
  obtain ⟨g, c, h1, h2, h3, h4, h5⟩ := h
  exact ⟨g, c, h1, h2, h3, Nat.lt_of_lt_of_le h4 b.size, (b.cell (p := ⟨g, 0, none⟩) (Nat.lt_of_lt_of_le h4 hB)).trans h5⟩
theorem wpList_push_u64 {w : World} {ops : Array Oper} {rest : List Oper} {o : Oper} {a : Act} {Q : Exit → Act → World → Prop} (hgd : o.guard = none) (s x : Operand)
    (ho : o.op = .call { callee := .builtin .append, args := #[s, x], argTypes := #[31, 31] }) (hs : a.eval s = .slice none 0 0) (g c : Nat) (y : UInt64) (hx : a.eval x = .slice (some ⟨g, 0, none⟩) 1 c) (hc : w.cell? ⟨g, 0, none⟩ = some (.int .u64 y.toNat))
    (h : ∀ v' w', Num1 w' v' y → w.grownBy w' none → (∀ g c, v' = .slice (some ⟨g, 0, none⟩) 1 c → w.heap.size ≤ g) → wpList Try.prog ops Q rest (a.put o.dst v') w') : wpList Try.prog ops Q (o :: rest) a w := by
  obtain ⟨i0, hi, hz0, hz1, hz2⟩ := info_parts u64Info
  refine wpList_append_own_at w hgd s x 31 ho w.heap.size 22 i0 (.int .u64 0) 1 8 Try.underlying31 hi hz0 hz1 hz2 rfl (by decide) (.slice none 0 0) 0 [] hs (World.ownsRow_nil _ _ _ _) ⟨g, 0, none⟩ 1 c [.int .u64 y.toNat] hx rfl ?_ ?_ (by unfold maxLen; omega) (by omega) (Nat.le_refl _) ?_
  · intro j u' hj
    match j, hj with
    | 0, hj => simp at hj; subst hj; simpa [Addr.add] using hc
  · intro u' hu'
    simp at hu'; subst hu'; rfl
  · intro v' w' h1 h2 _ _
    rcases h1.2 with ⟨_, h3⟩ | ⟨g', cap, cur, hv, hb, hg, hn, hm, hcc, ht⟩
    · omega
    · subst hv
      have e0 := h1.cells (g := g') rfl 0 (.int .u64 y.toNat) rfl
      exact h _ w' ⟨g', cap, by simp, by simpa using hn, hm, (Array.getElem?_eq_some_iff.1 hg).1, by simpa [Addr.add] using e0⟩ h2 (fun g2 c2 e => by cases e; exact hb)
set_option maxRecDepth 20000 in
set_option maxHeartbeats 3000000 in
theorem pass_keep (now : Int) (v : Value) (x : Lk) (ticks : Int) (w : World) (h : One w v x) (h0 : 0 ≤ now) (h1 : now ≤ 1000000) (ht : 0 ≤ ticks ∧ ticks ≤ 1000000) (hq : ¬ x.u ≤ now + ticks) :
    Calls Try.prog 8 #[Lc now v, .int .i64 ticks] w fun e w' => ∃ v', e = .returned (.tuple #[Lc (now + ticks) v', .slice none 0 0]) ∧ One w' v' x ∧ Below w.heap.size w w' := by
  have HH := Lib.hid h
  obtain ⟨g, c, rfl, e1, e2, e3, e4, e5, e6⟩ := h
  have hc9 : c ≤ 9223372036854775807 := by unfold maxLen at e2; omega
  clear e1 e2
  unfold Lc
  have hm1 : (if 0 < ticks then ticks else 0) = ticks := by split <;> omega
  obtain ⟨wq, hwq⟩ : ∃ wq, wq = (((w.alloc (.cells #[.int .i64 now, .slice (some ⟨g, 0, none⟩) 1 c] 27)).alloc (.cells #[.int .i64 0, .slice none 0 0] 27)).alloc (.cells #[.int .i64 (now + ticks), .slice (some ⟨g, 0, none⟩) 1 c] 57)).alloc (.cells #[.pointer (some ⟨w.heap.size + 1 + 1, 0, none⟩)] 55) := ⟨_, rfl⟩
  obtain ⟨q1, q2, q3, q4⟩ := heap4 w (.cells #[.int .i64 now, .slice (some ⟨g, 0, none⟩) 1 c] 27) (.cells #[.int .i64 0, .slice none 0 0] 27) (.cells #[.int .i64 (now + ticks), .slice (some ⟨g, 0, none⟩) 1 c] 57) (.cells #[.pointer (some ⟨w.heap.size + 1 + 1, 0, none⟩)] 55)
  have HSX : Hid (wq.heap.size = w.heap.size + 4) := by unfold Hid; rw [hwq]; simp
  have HBx : Hid (Below w.heap.size w wq) := by unfold Hid; rw [hwq]; exact ((((Below.refl _ _).alloc (Nat.le_refl _) _).alloc (by simp) _).alloc (by simp; omega) _).alloc (by simp; omega) _
  rw [← hwq] at q1 q2 q3 q4
  have X1 := (cells2 q1).2.1
  have R0 := (cells2 q2).1
  have R1 := (cells2 q2).2.1
  have FR := (cells2 q2).2.2
  have K0 := (cells2 q3).1
  have K1 := (cells2 q3).2.1
  have FK := (cells2 q3).2.2
  have P0 := cells1 q4
  have f4 := (HBx.out.cell (p := ⟨g, 0, none⟩) e3).trans e4
  have f5 := (HBx.out.cell (p := ⟨g, 1, none⟩) e3).trans e5
  have f6 := (HBx.out.cell (p := ⟨g, 2, none⟩) e3).trans e6
  have HOq := Lib.hid (HH.out.below HBx.out (Nat.le_refl _))
  have HWQ := Lib.hid hwq
  clear q1 q2 q3 q4 hwq e4 e5 e6 HH
  go_enter Try.func8, Try.ntmps8
  go_wp2_with fail
  rw [← HWQ.out]
  clear HWQ hm1
  refine wp_loop_rounds 2 ?_
  rw [rounds_succ]
  go_wp2_with fail
  have hbx : Below wq.heap.size wq (wq.alloc (.cells #[.int .u64 x.o.toNat, .bool x.s, .int .i64 x.u] 62)) := (Below.refl _ _).alloc (Nat.le_refl _) _
  have HPS := Lib.hid (pass1_any x (w.heap.size + 1 + 1 + 1) (w.heap.size + 1 + 1) (now + ticks) (wq.alloc (.cells #[.int .u64 x.o.toNat, .bool x.s, .int .i64 x.u] 62)) ((hbx.cell (p := ⟨w.heap.size + 1 + 1 + 1, 0, none⟩) (by have := HSX.out; dsimp only; omega)).trans P0) ((hbx.cell (p := ⟨w.heap.size + 1 + 1, 0, none⟩) (by have := HSX.out; dsimp only; omega)).trans K0) (by have := HSX.out; simp; omega) (by have := HSX.out; simp; omega))
  rw [show decide (x.u ≤ now + ticks) = false by simpa using hq] at HPS
  unfold Lk.v at HPS
  obtain ⟨X, hX⟩ : ∃ X, X = wq.heap.size := ⟨_, rfl⟩
  have o0 : (wq.alloc (.cells #[.int .u64 x.o.toNat, .bool x.s, .int .i64 x.u] 62)).cell? ⟨X, 0, none⟩ = some (.int .u64 x.o.toNat) := by rw [hX]; simp
  refine HPS.out.mono ?_
  rintro e w1 ⟨rfl, b1⟩
  have HB1 : Hid (Below wq.heap.size wq w1) := hbx.trans (b1.mono (by simp))
  have o1 := (b1.cell (p := ⟨X, 0, none⟩) (by rw [hX]; simp)).trans o0
  have hXs : X < w1.heap.size := by have := b1.size; simp at this; omega
  clear hbx b1 HPS o0
  clear o1 hX hXs
  go_wp2_with fail
  rw [rounds_succ]
  go_wp2_with fail
  obtain ⟨wv, hwv⟩ : ∃ wv, wv = w1 := ⟨_, rfl⟩
  have HBv : Hid (Below wq.heap.size wq wv) := by rw [hwv]; exact HB1
  rw [← hwv]
  clear hwv HB1
  have X1' := (HBv.out.drew.cell (p := ⟨w.heap.size, 1, none⟩) (by have := HSX.out; dsimp only; omega)).trans X1
  have R0' := (HBv.out.drew.cell (p := ⟨w.heap.size + 1, 0, none⟩) (by have := HSX.out; dsimp only; omega)).trans R0
  have R1' := (HBv.out.drew.cell (p := ⟨w.heap.size + 1, 1, none⟩) (by have := HSX.out; dsimp only; omega)).trans R1
  have FR0' := (HBv.out.drew.frozen (p := ⟨w.heap.size + 1, 0, none⟩) (by have := HSX.out; dsimp only; omega)).trans (FR 0)
  have FR1' := (HBv.out.drew.frozen (p := ⟨w.heap.size + 1, 1, none⟩) (by have := HSX.out; dsimp only; omega)).trans (FR 1)
  have K0' := (HBv.out.drew.cell (p := ⟨w.heap.size + 1 + 1, 0, none⟩) (by have := HSX.out; dsimp only; omega)).trans K0
  have K1' := (HBv.out.drew.cell (p := ⟨w.heap.size + 1 + 1, 1, none⟩) (by have := HSX.out; dsimp only; omega)).trans K1
  have FK1' := (HBv.out.drew.frozen (p := ⟨w.heap.size + 1 + 1, 1, none⟩) (by have := HSX.out; dsimp only; omega)).trans (FK 1)
  have P0' := (HBv.out.drew.cell (p := ⟨w.heap.size + 1 + 1 + 1, 0, none⟩) (by have := HSX.out; dsimp only; omega)).trans P0
  have HOv := Lib.hid (HOq.out.below HBv.out.drew (Nat.le_refl _))
  have HBw : Hid (Below w.heap.size w wv.drew) := HBx.out.trans (HBv.out.drew.mono (by have := HSX.out; omega))
  have HSV : Hid (w.heap.size + 4 ≤ wv.drew.heap.size) := by have := HSX.out; have := HBv.out.drew.size; unfold Hid; omega
  clear X1 R0 R1 FR K0 K1 FK P0 f4 f5 f6 HOq HBv HBx HSX
  refine wp_region_noPanic ?_
  refine wp_region_held_drew (S := fun w' => w'.cell? ⟨w.heap.size, 1, none⟩ = some (.slice (some ⟨g, 0, none⟩) 1 c) ∧ w'.cell? ⟨w.heap.size + 1 + 1 + 1, 0, none⟩ = some (.pointer (some ⟨w.heap.size + 1 + 1, 0, none⟩))) (by kernel_rfl) ⟨X1', P0'⟩ (fun hHeld => ?_)
  obtain ⟨wx, hwx⟩ : ∃ wx, wx = wv.drew := ⟨_, rfl⟩
  rw [← hwx] at X1' R0' R1' FR0' FR1' K0' K1' FK1' P0' HOv HBw HSV hHeld ⊢
  clear hwx
  refine wpAnyH_take (i := 0) (v := .pointer (some ⟨w.heap.size + 1 + 1, 0, none⟩)) rfl (by kernel_rfl) (by kernel_rfl) (by kernel_rfl) (fun _ _ _ h => h) (Or.inl ⟨by kernel_rfl, ?_⟩) hHeld ?_
  · intro w hSw
    have hh := hSw.2
    go_simp
  try simp only [Act.put, List.setIfInBounds_toArray, List.set_cons_zero, List.set_cons_succ]
  refine' wpAnyH_take (i := 1) (v := ?v1) rfl (by kernel_rfl) (by kernel_rfl) (by kernel_rfl) (fun _ _ _ h => h) (Or.inl ⟨by kernel_rfl, ?hy1⟩) (by assumption) ?rest1
  case hy1 => (intro w hSw; (try dsimp only at hSw); go_simp; try with_reducible rfl)
  try simp only [Act.put, List.setIfInBounds_toArray, List.set_cons_zero, List.set_cons_succ]
  refine wpAnyH_take (i := 2) (v := .slice (some ⟨g, 0, none⟩) 1 c) rfl (by kernel_rfl) (by kernel_rfl) (by kernel_rfl) (fun _ _ _ h => h) (Or.inl ⟨by kernel_rfl, ?_⟩) hHeld ?_
  · intro w hSw
    have hh := hSw.1
    go_simp
  try simp only [Act.put, List.setIfInBounds_toArray, List.set_cons_zero, List.set_cons_succ]
  refine' wpAnyH_take (i := 4) (v := ?v2) rfl (by kernel_rfl) (by kernel_rfl) (by kernel_rfl) (fun _ _ _ h => h) (Or.inl ⟨by kernel_rfl, ?hy2⟩) (by assumption) ?rest2
  case hy2 => (intro w hSw; (try dsimp only at hSw); go_simp; try with_reducible rfl)
  try simp only [Act.put, List.setIfInBounds_toArray, List.set_cons_zero, List.set_cons_succ]
  refine wpAnyH_ready (rs := [3]) (by kernel_rfl) (by simp) ?_
  refine AllReadyH.cons rfl (fun K hK => ?_) AllReadyH.nil
  go_simp
  go_at_call 30
  refine (clone_one _ x _ HOv.out).mono ?_
  rintro er wa ⟨vc, rfl, hoc, ba⟩
  have ca : ∀ p : Addr, p.block < w.heap.size + 4 → wa.cell? p = wx.cell? p := fun p hp => ba.cell (p := p) (by have := HSV.out; omega)
  have fa : ∀ p : Addr, p.block < w.heap.size + 4 → wa.frozen? p = wx.frozen? p := fun p hp => ba.frozen (p := p) (by have := HSV.out; omega)
  have HOC := Lib.hid hoc
  have HBA : Hid (Below wx.heap.size wx wa) := ba
  obtain ⟨gc, cc, hvc, _, hcm, hgc, _, _, _⟩ := hoc.one
  subst hvc
  have HGC : Hid (wx.heap.size ≤ gc) := (OwnL.free hoc).1
  clear hoc ba
  go_wp2_with fail
  refine hK.out _ _ ⟨(ca ⟨w.heap.size, 1, none⟩ (by dsimp only; omega)).trans X1', (ca ⟨w.heap.size + 1 + 1 + 1, 0, none⟩ (by dsimp only; omega)).trans P0'⟩ (fun hHeld => ?_)
  clear hK K
  try simp only [Act.put, List.setIfInBounds_toArray, List.set_cons_zero, List.set_cons_succ]
  refine wpAnyH_ready (rs := [5]) (by kernel_rfl) (by simp) ?_
  refine AllReadyH.cons rfl (fun K hK => ?_) AllReadyH.nil
  go_simp
  go_at_call 32
  refine (del_keep _ x (w.heap.size + 1 + 1 + 1) (w.heap.size + 1 + 1) (now + ticks) wa HOC.out.one hHeld.2 ((ca ⟨w.heap.size + 1 + 1, 0, none⟩ (by dsimp only; omega)).trans K0') (by have := HSV.out; have := HBA.out.size; omega) (by have := HSV.out; have := HBA.out.size; omega) (by omega)).mono ?_
  rintro er wz ⟨rfl, bz⟩
  have HZ := Lib.hid (HOC.out.one.below bz (Nat.le_refl _))
  have hBz : Below wx.heap.size wa wz := bz.mono HBA.out.size
  have HBZ : Hid (Below wx.heap.size wx wz) := HBA.out.trans hBz
  have cz' : ∀ p : Addr, p.block < w.heap.size + 4 → wz.cell? p = wx.cell? p := fun p hp => HBZ.out.cell (p := p) (by have := HSV.out; omega)
  have fz' : ∀ p : Addr, p.block < w.heap.size + 4 → wz.frozen? p = wx.frozen? p := fun p hp => HBZ.out.frozen (p := p) (by have := HSV.out; omega)
  have y1 := (cz' ⟨w.heap.size, 1, none⟩ (by dsimp only; omega)).trans X1'
  have p1 := (cz' ⟨w.heap.size + 1 + 1 + 1, 0, none⟩ (by dsimp only; omega)).trans P0'
  have k0 := (cz' ⟨w.heap.size + 1 + 1, 0, none⟩ (by dsimp only; omega)).trans K0'
  have k1 := (cz' ⟨w.heap.size + 1 + 1, 1, none⟩ (by dsimp only; omega)).trans K1'
  have fk1 := (fz' ⟨w.heap.size + 1 + 1, 1, none⟩ (by dsimp only; omega)).trans FK1'
  have r0 := (cz' ⟨w.heap.size + 1, 0, none⟩ (by dsimp only; omega)).trans R0'
  have r1 := (cz' ⟨w.heap.size + 1, 1, none⟩ (by dsimp only; omega)).trans R1'
  have fr0 := (fz' ⟨w.heap.size + 1, 0, none⟩ (by dsimp only; omega)).trans FR0'
  have fr1 := (fz' ⟨w.heap.size + 1, 1, none⟩ (by dsimp only; omega)).trans FR1'
  have HBW : Hid (Below w.heap.size w wz) := HBw.out.trans (HBZ.out.mono (by have := HSV.out; omega))
  clear bz hBz ca fa cz' fz' X1' R0' R1' FR0' FR1' K0' K1' FK1' P0' HOv HBw HBA HOC HBZ
  go_wp2_with fail
  refine hK.out _ _ ⟨y1, p1⟩ (fun hHeld => ?_)
  clear hK K
  try simp only [Act.put, List.setIfInBounds_toArray, List.set_cons_zero, List.set_cons_succ]
  refine' wpAnyH_take (i := 6) (v := ?v3) rfl (by kernel_rfl) (by kernel_rfl) (by kernel_rfl) (fun _ _ _ h => h) (Or.inl ⟨by kernel_rfl, ?hy3⟩) (by assumption) ?rest3
  case hy3 => (intro w hSw; (try dsimp only at hSw); go_simp; try with_reducible rfl)
  try simp only [Act.put, List.setIfInBounds_toArray, List.set_cons_zero, List.set_cons_succ]
  refine' wpAnyH_take (i := 7) (v := ?v4) rfl (by kernel_rfl) (by kernel_rfl) (by kernel_rfl) (fun _ _ _ h => h) (Or.inl ⟨by kernel_rfl, ?hy4⟩) (by assumption) ?rest4
  case hy4 => (intro w hSw; (try dsimp only at hSw); go_simp; try with_reducible rfl)
  try simp only [Act.put, List.setIfInBounds_toArray, List.set_cons_zero, List.set_cons_succ]
  refine' wpAnyH_take (i := 8) (v := ?v5) rfl (by kernel_rfl) (by kernel_rfl) (by kernel_rfl) (fun _ _ _ h => h) (Or.inl ⟨by kernel_rfl, ?hy5⟩) (by assumption) ?rest5
  case hy5 => (intro w hSw; (try dsimp only at hSw); go_simp; try with_reducible rfl)
  try simp only [Act.put, List.setIfInBounds_toArray, List.set_cons_zero, List.set_cons_succ]
  refine wpAnyH_ready (rs := [9]) (by kernel_rfl) (by simp) ?_
  refine AllReadyH.cons rfl (fun K hK => ?_) AllReadyH.nil
  go_simp
  refine hK.out _ _ ⟨(World.cell?_setCell_other _ _ _ _ (by intro e; injection e with e _; omega)).trans y1, (World.cell?_setCell_other _ _ _ _ (by intro e; injection e with e _; omega)).trans p1⟩ (fun hHeld => ?_)
  clear hK K
  try simp only [Act.put, List.setIfInBounds_toArray, List.set_cons_zero, List.set_cons_succ]
  refine wpAnyH_done (by kernel_rfl) ?_ _
  refine NoPanic.normal ?_
  have p2 := hHeld.2
  go_wp2_with fail
  (try simp only [Exit.inBlock, Exit.then])
  refine bodyPost_cell (V := .agg #[.int .i64 (now + ticks), .slice (some ⟨gc, 0, none⟩) 1 cc]) rfl rfl ?_ rfl ?_
  · go_simp
  · refine ⟨_, rfl, ?_, ((HBW.out.setCell (p := ⟨w.heap.size + 1 + 1, 1, none⟩) (by dsimp only; omega) _).setCell (p := ⟨w.heap.size + 1, 0, none⟩) (by dsimp only; omega) _).setCell (p := ⟨w.heap.size + 1, 1, none⟩) (by dsimp only; omega) _⟩
    have h1 := HGC.out
    have h2 := HSV.out
    exact ((HZ.out.set_other _ _ (by omega)).set_other _ _ (by omega)).set_other _ _ (by omega)
set_option maxRecDepth 20000 in
set_option maxHeartbeats 3000000 in
theorem pass_drop (now : Int) (v : Value) (x : Lk) (ticks : Int) (w : World) (h : One w v x) (h0 : 0 ≤ now) (h1 : now ≤ 1000000) (ht : 0 ≤ ticks ∧ ticks ≤ 1000000) (hq : x.u ≤ now + ticks) :
    Calls Try.prog 8 #[Lc now v, .int .i64 ticks] w fun e w' => ∃ v' u, e = .returned (.tuple #[Lc (now + ticks) v', u]) ∧ Zero v' ∧ Num1 w' u x.o ∧ Below w.heap.size w w' := by
  have HH := Lib.hid h
  obtain ⟨g, c, rfl, e1, e2, e3, e4, e5, e6⟩ := h
  have hc9 : c ≤ 9223372036854775807 := by unfold maxLen at e2; omega
  clear e1 e2
  unfold Lc
  have hm1 : (if 0 < ticks then ticks else 0) = ticks := by split <;> omega
  obtain ⟨wq, hwq⟩ : ∃ wq, wq = (((w.alloc (.cells #[.int .i64 now, .slice (some ⟨g, 0, none⟩) 1 c] 27)).alloc (.cells #[.int .i64 0, .slice none 0 0] 27)).alloc (.cells #[.int .i64 (now + ticks), .slice (some ⟨g, 0, none⟩) 1 c] 57)).alloc (.cells #[.pointer (some ⟨w.heap.size + 1 + 1, 0, none⟩)] 55) := ⟨_, rfl⟩
  obtain ⟨q1, q2, q3, q4⟩ := heap4 w (.cells #[.int .i64 now, .slice (some ⟨g, 0, none⟩) 1 c] 27) (.cells #[.int .i64 0, .slice none 0 0] 27) (.cells #[.int .i64 (now + ticks), .slice (some ⟨g, 0, none⟩) 1 c] 57) (.cells #[.pointer (some ⟨w.heap.size + 1 + 1, 0, none⟩)] 55)
  have HSX : Hid (wq.heap.size = w.heap.size + 4) := by unfold Hid; rw [hwq]; simp
  have HBx : Hid (Below w.heap.size w wq) := by unfold Hid; rw [hwq]; exact ((((Below.refl _ _).alloc (Nat.le_refl _) _).alloc (by simp) _).alloc (by simp; omega) _).alloc (by simp; omega) _
  rw [← hwq] at q1 q2 q3 q4
  have X1 := (cells2 q1).2.1
  have R0 := (cells2 q2).1
  have R1 := (cells2 q2).2.1
  have FR := (cells2 q2).2.2
  have K0 := (cells2 q3).1
  have K1 := (cells2 q3).2.1
  have FK := (cells2 q3).2.2
  have P0 := cells1 q4
  have f4 := (HBx.out.cell (p := ⟨g, 0, none⟩) e3).trans e4
  have f5 := (HBx.out.cell (p := ⟨g, 1, none⟩) e3).trans e5
  have f6 := (HBx.out.cell (p := ⟨g, 2, none⟩) e3).trans e6
  have HOq := Lib.hid (HH.out.below HBx.out (Nat.le_refl _))
  have HWQ := Lib.hid hwq
  clear q1 q2 q3 q4 hwq e4 e5 e6 HH
  go_enter Try.func8, Try.ntmps8
  go_wp2_with fail
  rw [← HWQ.out]
  clear HWQ hm1
  refine wp_loop_rounds 2 ?_
  rw [rounds_succ]
  go_wp2_with fail
  have hbx : Below wq.heap.size wq (wq.alloc (.cells #[.int .u64 x.o.toNat, .bool x.s, .int .i64 x.u] 62)) := (Below.refl _ _).alloc (Nat.le_refl _) _
  have HPS := Lib.hid (pass1_any x (w.heap.size + 1 + 1 + 1) (w.heap.size + 1 + 1) (now + ticks) (wq.alloc (.cells #[.int .u64 x.o.toNat, .bool x.s, .int .i64 x.u] 62)) ((hbx.cell (p := ⟨w.heap.size + 1 + 1 + 1, 0, none⟩) (by have := HSX.out; dsimp only; omega)).trans P0) ((hbx.cell (p := ⟨w.heap.size + 1 + 1, 0, none⟩) (by have := HSX.out; dsimp only; omega)).trans K0) (by have := HSX.out; simp; omega) (by have := HSX.out; simp; omega))
  rw [show decide (x.u ≤ now + ticks) = true by simpa using hq] at HPS
  unfold Lk.v at HPS
  obtain ⟨X, hX⟩ : ∃ X, X = wq.heap.size := ⟨_, rfl⟩
  have o0 : (wq.alloc (.cells #[.int .u64 x.o.toNat, .bool x.s, .int .i64 x.u] 62)).cell? ⟨X, 0, none⟩ = some (.int .u64 x.o.toNat) := by rw [hX]; simp
  refine HPS.out.mono ?_
  rintro e w1 ⟨rfl, b1⟩
  have HB1 : Hid (Below wq.heap.size wq w1) := hbx.trans (b1.mono (by simp))
  have o1 := (b1.cell (p := ⟨X, 0, none⟩) (by rw [hX]; simp)).trans o0
  have hXs : X < w1.heap.size := by have := b1.size; simp at this; omega
  clear hbx b1 HPS o0
  have HXX := Lib.hid hX
  rw [← hX]
  clear hX
  go_wp2_with (at_builtin; refine wpList_push_u64 rfl _ _ rfl rfl w1.heap.size 1 x.o rfl (by simp) ?_)
  intro u wv hu hgu hub
  have HBv : Hid (Below wq.heap.size wq wv) := (HB1.out.alloc HB1.out.size _).grown hgu (by have := HB1.out.size; simp; omega) (fun k hk => by cases hk)
  have HU := Lib.hid hu
  obtain ⟨gu, cu, hue, _, _, _, _⟩ := hu
  subst hue
  have HUB : Hid (w1.heap.size ≤ gu) := by unfold Hid; have := hub _ _ rfl; (try simp at this); omega
  have HS1 := Lib.hid HB1.out.size
  clear hgu hub o1 hXs HB1 HXX
  go_wp2_with fail
  rw [rounds_succ]
  go_wp2_with fail
  have X1' := (HBv.out.drew.cell (p := ⟨w.heap.size, 1, none⟩) (by have := HSX.out; dsimp only; omega)).trans X1
  have R0' := (HBv.out.drew.cell (p := ⟨w.heap.size + 1, 0, none⟩) (by have := HSX.out; dsimp only; omega)).trans R0
  have R1' := (HBv.out.drew.cell (p := ⟨w.heap.size + 1, 1, none⟩) (by have := HSX.out; dsimp only; omega)).trans R1
  have FR0' := (HBv.out.drew.frozen (p := ⟨w.heap.size + 1, 0, none⟩) (by have := HSX.out; dsimp only; omega)).trans (FR 0)
  have FR1' := (HBv.out.drew.frozen (p := ⟨w.heap.size + 1, 1, none⟩) (by have := HSX.out; dsimp only; omega)).trans (FR 1)
  have K0' := (HBv.out.drew.cell (p := ⟨w.heap.size + 1 + 1, 0, none⟩) (by have := HSX.out; dsimp only; omega)).trans K0
  have K1' := (HBv.out.drew.cell (p := ⟨w.heap.size + 1 + 1, 1, none⟩) (by have := HSX.out; dsimp only; omega)).trans K1
  have FK1' := (HBv.out.drew.frozen (p := ⟨w.heap.size + 1 + 1, 1, none⟩) (by have := HSX.out; dsimp only; omega)).trans (FK 1)
  have P0' := (HBv.out.drew.cell (p := ⟨w.heap.size + 1 + 1 + 1, 0, none⟩) (by have := HSX.out; dsimp only; omega)).trans P0
  have HOv := Lib.hid (HOq.out.below HBv.out.drew (Nat.le_refl _))
  have HBw : Hid (Below w.heap.size w wv.drew) := HBx.out.trans (HBv.out.drew.mono (by have := HSX.out; omega))
  have HSV : Hid (w.heap.size + 4 ≤ wv.drew.heap.size) := by have := HSX.out; have := HBv.out.drew.size; unfold Hid; omega
  have HUd : Hid (Num1 wv.drew (.slice (some ⟨gu, 0, none⟩) 1 cu) x.o) := HU.out
  have HGU : Hid (w.heap.size + 4 ≤ gu) := by unfold Hid; have := HUB.out; have := HSX.out; have := HS1.out; omega
  clear HU HUB HS1
  clear X1 R0 R1 FR K0 K1 FK P0 f4 f5 f6 HOq HBv HBx HSX
  refine wp_region_noPanic ?_
  refine wp_region_held_drew (S := fun w' => w'.cell? ⟨w.heap.size, 1, none⟩ = some (.slice (some ⟨g, 0, none⟩) 1 c) ∧ w'.cell? ⟨w.heap.size + 1 + 1 + 1, 0, none⟩ = some (.pointer (some ⟨w.heap.size + 1 + 1, 0, none⟩))) (by kernel_rfl) ⟨X1', P0'⟩ (fun hHeld => ?_)
  obtain ⟨wx, hwx⟩ : ∃ wx, wx = wv.drew := ⟨_, rfl⟩
  rw [← hwx] at X1' R0' R1' FR0' FR1' K0' K1' FK1' P0' HOv HBw HSV hHeld ⊢
  rw [← hwx] at HUd
  clear hwx
  refine wpAnyH_take (i := 0) (v := .pointer (some ⟨w.heap.size + 1 + 1, 0, none⟩)) rfl (by kernel_rfl) (by kernel_rfl) (by kernel_rfl) (fun _ _ _ h => h) (Or.inl ⟨by kernel_rfl, ?_⟩) hHeld ?_
  · intro w hSw
    have hh := hSw.2
    go_simp
  try simp only [Act.put, List.setIfInBounds_toArray, List.set_cons_zero, List.set_cons_succ]
  refine' wpAnyH_take (i := 1) (v := ?v6) rfl (by kernel_rfl) (by kernel_rfl) (by kernel_rfl) (fun _ _ _ h => h) (Or.inl ⟨by kernel_rfl, ?hy6⟩) (by assumption) ?rest6
  case hy6 => (intro w hSw; (try dsimp only at hSw); go_simp; try with_reducible rfl)
  try simp only [Act.put, List.setIfInBounds_toArray, List.set_cons_zero, List.set_cons_succ]
  refine wpAnyH_take (i := 2) (v := .slice (some ⟨g, 0, none⟩) 1 c) rfl (by kernel_rfl) (by kernel_rfl) (by kernel_rfl) (fun _ _ _ h => h) (Or.inl ⟨by kernel_rfl, ?_⟩) hHeld ?_
  · intro w hSw
    have hh := hSw.1
    go_simp
  try simp only [Act.put, List.setIfInBounds_toArray, List.set_cons_zero, List.set_cons_succ]
  refine' wpAnyH_take (i := 4) (v := ?v7) rfl (by kernel_rfl) (by kernel_rfl) (by kernel_rfl) (fun _ _ _ h => h) (Or.inl ⟨by kernel_rfl, ?hy7⟩) (by assumption) ?rest7
  case hy7 => (intro w hSw; (try dsimp only at hSw); go_simp; try with_reducible rfl)
  try simp only [Act.put, List.setIfInBounds_toArray, List.set_cons_zero, List.set_cons_succ]
  refine wpAnyH_ready (rs := [3]) (by kernel_rfl) (by simp) ?_
  refine AllReadyH.cons rfl (fun K hK => ?_) AllReadyH.nil
  go_simp
  go_at_call 30
  refine (clone_one _ x _ HOv.out).mono ?_
  rintro er wa ⟨vc, rfl, hoc, ba⟩
  have ca : ∀ p : Addr, p.block < w.heap.size + 4 → wa.cell? p = wx.cell? p := fun p hp => ba.cell (p := p) (by have := HSV.out; omega)
  have fa : ∀ p : Addr, p.block < w.heap.size + 4 → wa.frozen? p = wx.frozen? p := fun p hp => ba.frozen (p := p) (by have := HSV.out; omega)
  have HOC := Lib.hid hoc
  have HBA : Hid (Below wx.heap.size wx wa) := ba
  obtain ⟨gc, cc, hvc, _, hcm, hgc, _, _, _⟩ := hoc.one
  subst hvc
  have HGC : Hid (wx.heap.size ≤ gc) := (OwnL.free hoc).1
  clear hoc ba
  go_wp2_with fail
  refine hK.out _ _ ⟨(ca ⟨w.heap.size, 1, none⟩ (by dsimp only; omega)).trans X1', (ca ⟨w.heap.size + 1 + 1 + 1, 0, none⟩ (by dsimp only; omega)).trans P0'⟩ (fun hHeld => ?_)
  clear hK K
  try simp only [Act.put, List.setIfInBounds_toArray, List.set_cons_zero, List.set_cons_succ]
  refine wpAnyH_ready (rs := [5]) (by kernel_rfl) (by simp) ?_
  refine AllReadyH.cons rfl (fun K hK => ?_) AllReadyH.nil
  go_simp
  go_at_call 32
  refine (del_drop wx.heap.size _ x (w.heap.size + 1 + 1 + 1) (w.heap.size + 1 + 1) (now + ticks) wa HOC.out hHeld.2 ((ca ⟨w.heap.size + 1 + 1, 0, none⟩ (by dsimp only; omega)).trans K0') (by have := HSV.out; have := HBA.out.size; omega) (by have := HSV.out; have := HBA.out.size; omega) HBA.out.size (by omega)).mono ?_
  rintro er wz ⟨vz, rfl, hZ, bz⟩
  have HZ := Lib.hid hZ
  obtain ⟨Az, cz, hvz, _, _⟩ := hZ
  subst hvz
  have hBz : Below wx.heap.size wa wz := bz
  have HBZ : Hid (Below wx.heap.size wx wz) := HBA.out.trans hBz
  have cz' : ∀ p : Addr, p.block < w.heap.size + 4 → wz.cell? p = wx.cell? p := fun p hp => HBZ.out.cell (p := p) (by have := HSV.out; omega)
  have fz' : ∀ p : Addr, p.block < w.heap.size + 4 → wz.frozen? p = wx.frozen? p := fun p hp => HBZ.out.frozen (p := p) (by have := HSV.out; omega)
  have y1 := (cz' ⟨w.heap.size, 1, none⟩ (by dsimp only; omega)).trans X1'
  have p1 := (cz' ⟨w.heap.size + 1 + 1 + 1, 0, none⟩ (by dsimp only; omega)).trans P0'
  have k0 := (cz' ⟨w.heap.size + 1 + 1, 0, none⟩ (by dsimp only; omega)).trans K0'
  have k1 := (cz' ⟨w.heap.size + 1 + 1, 1, none⟩ (by dsimp only; omega)).trans K1'
  have fk1 := (fz' ⟨w.heap.size + 1 + 1, 1, none⟩ (by dsimp only; omega)).trans FK1'
  have r0 := (cz' ⟨w.heap.size + 1, 0, none⟩ (by dsimp only; omega)).trans R0'
  have r1 := (cz' ⟨w.heap.size + 1, 1, none⟩ (by dsimp only; omega)).trans R1'
  have fr0 := (fz' ⟨w.heap.size + 1, 0, none⟩ (by dsimp only; omega)).trans FR0'
  have fr1 := (fz' ⟨w.heap.size + 1, 1, none⟩ (by dsimp only; omega)).trans FR1'
  have HBW : Hid (Below w.heap.size w wz) := HBw.out.trans (HBZ.out.mono (by have := HSV.out; omega))
  have HUz := Lib.hid (HUd.out.below HBZ.out (Nat.le_refl _))
  clear bz hBz ca fa cz' fz' X1' R0' R1' FR0' FR1' K0' K1' FK1' P0' HOv HBw HBA HOC HBZ
  go_wp2_with fail
  refine hK.out _ _ ⟨y1, p1⟩ (fun hHeld => ?_)
  clear hK K
  try simp only [Act.put, List.setIfInBounds_toArray, List.set_cons_zero, List.set_cons_succ]
  refine' wpAnyH_take (i := 6) (v := ?v8) rfl (by kernel_rfl) (by kernel_rfl) (by kernel_rfl) (fun _ _ _ h => h) (Or.inl ⟨by kernel_rfl, ?hy8⟩) (by assumption) ?rest8
  case hy8 => (intro w hSw; (try dsimp only at hSw); go_simp; try with_reducible rfl)
  try simp only [Act.put, List.setIfInBounds_toArray, List.set_cons_zero, List.set_cons_succ]
  refine' wpAnyH_take (i := 7) (v := ?v9) rfl (by kernel_rfl) (by kernel_rfl) (by kernel_rfl) (fun _ _ _ h => h) (Or.inl ⟨by kernel_rfl, ?hy9⟩) (by assumption) ?rest9
  case hy9 => (intro w hSw; (try dsimp only at hSw); go_simp; try with_reducible rfl)
  try simp only [Act.put, List.setIfInBounds_toArray, List.set_cons_zero, List.set_cons_succ]
  refine' wpAnyH_take (i := 8) (v := ?v10) rfl (by kernel_rfl) (by kernel_rfl) (by kernel_rfl) (fun _ _ _ h => h) (Or.inl ⟨by kernel_rfl, ?hy10⟩) (by assumption) ?rest10
  case hy10 => (intro w hSw; (try dsimp only at hSw); go_simp; try with_reducible rfl)
  try simp only [Act.put, List.setIfInBounds_toArray, List.set_cons_zero, List.set_cons_succ]
  refine wpAnyH_ready (rs := [9]) (by kernel_rfl) (by simp) ?_
  refine AllReadyH.cons rfl (fun K hK => ?_) AllReadyH.nil
  go_simp
  refine hK.out _ _ ⟨(World.cell?_setCell_other _ _ _ _ (by intro e; injection e with e _; omega)).trans y1, (World.cell?_setCell_other _ _ _ _ (by intro e; injection e with e _; omega)).trans p1⟩ (fun hHeld => ?_)
  clear hK K
  try simp only [Act.put, List.setIfInBounds_toArray, List.set_cons_zero, List.set_cons_succ]
  refine wpAnyH_done (by kernel_rfl) ?_ _
  refine NoPanic.normal ?_
  have p2 := hHeld.2
  go_wp2_with fail
  (try simp only [Exit.inBlock, Exit.then])
  refine bodyPost_cell (V := .agg #[.int .i64 (now + ticks), .slice Az 0 cz]) rfl rfl ?_ rfl ?_
  · go_simp
  · refine ⟨_, _, rfl, HZ.out, ?_, ((HBW.out.setCell (p := ⟨w.heap.size + 1 + 1, 1, none⟩) (by dsimp only; omega) _).setCell (p := ⟨w.heap.size + 1, 0, none⟩) (by dsimp only; omega) _).setCell (p := ⟨w.heap.size + 1, 1, none⟩) (by dsimp only; omega) _⟩
    have h1 := HGU.out
    obtain ⟨g3, c3, h3, h4, h5, h6, h7⟩ := HUz.out
    cases h3
    refine ⟨gu, cu, rfl, h4, h5, by rw [World.size_setCell, World.size_setCell, World.size_setCell]; exact h6, ?_⟩
    exact ((World.cell?_setCell_other _ _ _ _ (by intro e; injection e with e _; omega)).trans (World.cell?_setCell_other _ _ _ _ (by intro e; injection e with e _; omega))).trans ((World.cell?_setCell_other _ _ _ _ (by intro e; injection e with e _; omega)).trans h7)
end Go.Proofs.Ytffnkgfpbjmkbaa
