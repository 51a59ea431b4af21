/- lease: Ask at an empty list; at a list with one lock. -/
import Derived.Test.YtffnkgfpbjmkbaaLea3
import Derived.Deep.RegionHeld3
namespace Go.Proofs.Ytffnkgfpbjmkbaa
open Go.RowKit
set_option linter.unusedVariables false
set_option linter.unusedSimpArgs false
def Lc (now : Int) (v : Value) : Value := .agg #[.int .i64 now, v]
theorem One.new (w : World) (x : Lk) : One (w.alloc (.cells #[.int .u64 x.o.toNat, .bool x.s, .int .i64 x.u] 62)) (.slice (some ⟨w.heap.size, 0, none⟩) 1 1) x :=
  ⟨w.heap.size, 1, rfl, Nat.le_refl _, by unfold maxLen; omega, by simp, by simp, by simp, by simp⟩
theorem OwnL.mono {w : World} {B B' n : Nat} {v : Value} {l : List Value} (h : OwnL w B v n l) (hB : B' ≤ B) : OwnL w B' v n l := by
  refine ⟨h.1, ?_⟩
  rcases h.2 with h | ⟨g, cap, cur, hv, hb, hr⟩
  · exact .inl h
  · exact .inr ⟨g, cap, cur, hv, Nat.le_trans hB hb, hr⟩
theorem bodyPost_cell {P : Program} {fn : Func} {R : Ending → World → Prop} {a : Act} {w : World} {V : Value} {a1 u : Tmp} {t1 : TypeId} {ad : Addr} (h : fn.results = #[.cell a1 t1, .tmp u]) (hp : a.tmps.getD a1 undef = .pointer (some ad)) (hl : (loadVar t1 ad).run P w = .ok V w) (hd : a.defers = [])
    (hR : R (.returned (.tuple #[V, a.tmps.getD u undef])) w) : bodyPost P fn R .ret a w :=
  ⟨hd, _, by simp only [results, h, List.mapM_toArray, List.mapM_cons, List.mapM_nil, hp, asAddr]; simp [hl], hR⟩
theorem One.set_other {w : World} {g c n : Nat} {x : Lk} {g2 : Nat} (h : One w (.slice (some ⟨g, 0, none⟩) n c) x) (j : Nat) (u : Value) (hne : g2 ≠ g) : One (w.setCell ⟨g2, j, none⟩ u) (.slice (some ⟨g, 0, none⟩) n c) x := by
  obtain ⟨g', c', e, h2, h3, h4, h5, h6, h7⟩ := h
  cases e
  refine ⟨g, c, rfl, h2, h3, by rw [World.size_setCell]; exact h4, ?_, ?_, ?_⟩
  · exact (World.cell?_setCell_other _ _ _ _ (by intro e; injection e with e _; exact hne e)).trans h5
  · exact (World.cell?_setCell_other _ _ _ _ (by intro e; injection e with e _; exact hne e)).trans h6
  · exact (World.cell?_setCell_other _ _ _ _ (by intro e; injection e with e _; exact hne e)).trans h7
/-- three blocks of two cells, one behind the other -/
theorem two3 (w : World) (a b : Value) (t : TypeId) (c d : Value) (t2 : TypeId) (e f : Value) (t3 : TypeId) :
    (((w.alloc (.cells #[a, b] t)).alloc (.cells #[c, d] t2)).alloc (.cells #[e, f] t3)).cell? ⟨w.heap.size, 0, none⟩ = some a ∧
    (((w.alloc (.cells #[a, b] t)).alloc (.cells #[c, d] t2)).alloc (.cells #[e, f] t3)).cell? ⟨w.heap.size, 1, none⟩ = some b ∧
    (((w.alloc (.cells #[a, b] t)).alloc (.cells #[c, d] t2)).alloc (.cells #[e, f] t3)).cell? ⟨w.heap.size + 1, 0, none⟩ = some c ∧
    (((w.alloc (.cells #[a, b] t)).alloc (.cells #[c, d] t2)).alloc (.cells #[e, f] t3)).cell? ⟨w.heap.size + 1, 1, none⟩ = some d ∧
    (((w.alloc (.cells #[a, b] t)).alloc (.cells #[c, d] t2)).alloc (.cells #[e, f] t3)).cell? ⟨w.heap.size + 1 + 1, 1, none⟩ = some f ∧
    (((w.alloc (.cells #[a, b] t)).alloc (.cells #[c, d] t2)).alloc (.cells #[e, f] t3)).cell? ⟨w.heap.size + 1 + 1, 0, none⟩ = some e ∧
    (∀ j, (((w.alloc (.cells #[a, b] t)).alloc (.cells #[c, d] t2)).alloc (.cells #[e, f] t3)).frozen? ⟨w.heap.size + 1, j, none⟩ = false) ∧
    (∀ j, (((w.alloc (.cells #[a, b] t)).alloc (.cells #[c, d] t2)).alloc (.cells #[e, f] t3)).frozen? ⟨w.heap.size + 1 + 1, j, none⟩ = false) := by
  have h3 : (((w.alloc (.cells #[a, b] t)).alloc (.cells #[c, d] t2)).alloc (.cells #[e, f] t3)).heap[w.heap.size + 1 + 1]? = some (.cells #[e, f] t3) := by
    have := heap_alloc_new ((w.alloc (.cells #[a, b] t)).alloc (.cells #[c, d] t2)) (.cells #[e, f] t3)
    simpa using this
  have h2 : (((w.alloc (.cells #[a, b] t)).alloc (.cells #[c, d] t2)).alloc (.cells #[e, f] t3)).heap[w.heap.size + 1]? = some (.cells #[c, d] t2) := by
    rw [heap_alloc_old _ _ (by simp)]
    have := heap_alloc_new (w.alloc (.cells #[a, b] t)) (.cells #[c, d] t2)
    simpa using this
  have h1 : (((w.alloc (.cells #[a, b] t)).alloc (.cells #[c, d] t2)).alloc (.cells #[e, f] t3)).heap[w.heap.size]? = some (.cells #[a, b] t) := by
    rw [heap_alloc_old _ _ (by simp; omega), heap_alloc_old _ _ (by simp)]
    exact heap_alloc_new _ _
  generalize ((w.alloc (.cells #[a, b] t)).alloc (.cells #[c, d] t2)).alloc (.cells #[e, f] t3) = W at *
  refine ⟨?_, ?_, ?_, ?_, ?_, ?_, fun j => frozen_of_row W _ j _ _ h2, fun j => frozen_of_row W _ j _ _ h3⟩
  · unfold World.cell?; simp [h1]
  · unfold World.cell?; simp [h1]
  · unfold World.cell?; simp [h2]
  · unfold World.cell?; simp [h2]
  · unfold World.cell?; simp [h3]
  · unfold World.cell?; simp [h3]
set_option maxRecDepth 20000 in
set_option maxHeartbeats 4000000 in
theorem ask_zero (now : Int) (v : Value) (owner : UInt64) (shared : Bool) (ticks : Int) (w : World) (h : Zero v) (h0 : 0 ≤ now) (h1 : now ≤ 1000000000000) (ht : 0 < ticks ∧ ticks ≤ 1000) :
    Calls Try.prog 7 #[Lc now v, .int .u64 owner.toNat, .bool shared, .int .i64 ticks] w fun e w' => ∃ v', e = .returned (.tuple #[Lc now v', .int .i64 0]) ∧ One w' v' ⟨owner, shared, now + ticks⟩ ∧ Below w.heap.size w w' := by
  have HT := Lib.hid (tick_any ticks)
  rw [show tickB ticks = true by unfold tickB; simp; omega] at HT
  have HCn := Lib.hid (con_zero v (.func (.func 27) #[] #[]) · h)
  have HCl := Lib.hid (clone_zero v · h)
  have HAT := Lib.hid (fun p w => at_zero p undef v owner w h)
  obtain ⟨A, c, rfl, h2, h3⟩ := h
  have hc9 : c ≤ 9223372036854775807 := by unfold maxLen at h2; omega
  clear h2 h3
  unfold Lc
  cases shared with
  | true =>
    go_enter Try.func7, Try.ntmps7
    go_wp2_with fail
    refine Calls.mono (HAT.out _ _ (two3 w _ _ _ _ _ _ _ _ _).2.2.2.2.1) ?_
    rintro e w' ⟨rfl, rfl⟩
    go_wp2_with fail
    refine (HCn.out _).mono ?_
    rintro e w' ⟨rfl, rfl⟩
    go_wp2_with fail
    refine (HT.out _).mono ?_
    rintro e w' ⟨rfl, rfl⟩
    go_wp2_with fail
    clear HT HCn HAT
    refine wp_region_noPanic ?_
    refine wp_region_held_drew (S := fun w' => w'.cell? ⟨w.heap.size, 0, none⟩ = some (.int .i64 now) ∧ w'.cell? ⟨w.heap.size, 1, none⟩ = some (.slice A 0 c)) (by kernel_rfl) ⟨(two3 w _ _ _ _ _ _ _ _ _).1, (two3 w _ _ _ _ _ _ _ _ _).2.1⟩ (fun hHeld => ?_)
    obtain ⟨wx, hwx⟩ : ∃ wx, wx = (((w.alloc (.cells #[.int .i64 now, .slice A 0 c] 27)).alloc (.cells #[.int .i64 0, .slice none 0 0] 27)).alloc (.cells #[.int .i64 now, .slice A 0 c] 57)).drew := ⟨_, rfl⟩
    have HSX : Hid (wx.heap.size = w.heap.size + 3) := by unfold Hid; rw [hwx]; simp
    have H3 := two3 w (.int .i64 now) (.slice A 0 c) 27 (.int .i64 0) (.slice none 0 0) 27 (.int .i64 now) (.slice A 0 c) 57
    have X0 : wx.cell? ⟨w.heap.size, 0, none⟩ = some (.int .i64 now) := by rw [hwx]; exact H3.1
    have X1 : wx.cell? ⟨w.heap.size, 1, none⟩ = some (.slice A 0 c) := by rw [hwx]; exact H3.2.1
    have R0 : wx.cell? ⟨w.heap.size + 1, 0, none⟩ = some (.int .i64 0) := by rw [hwx]; exact H3.2.2.1
    have R1 : wx.cell? ⟨w.heap.size + 1, 1, none⟩ = some (.slice none 0 0) := by rw [hwx]; exact H3.2.2.2.1
    have K0 : wx.cell? ⟨w.heap.size + 1 + 1, 0, none⟩ = some (.int .i64 now) := by rw [hwx]; exact H3.2.2.2.2.2.1
    have K1 : wx.cell? ⟨w.heap.size + 1 + 1, 1, none⟩ = some (.slice A 0 c) := by rw [hwx]; exact H3.2.2.2.2.1
    have FK : wx.frozen? ⟨w.heap.size + 1 + 1, 1, none⟩ = false := by rw [hwx]; exact H3.2.2.2.2.2.2.2 1
    have FR0 : wx.frozen? ⟨w.heap.size + 1, 0, none⟩ = false := by rw [hwx]; exact H3.2.2.2.2.2.2.1 0
    have FR1 : wx.frozen? ⟨w.heap.size + 1, 1, none⟩ = false := by rw [hwx]; exact H3.2.2.2.2.2.2.1 1
    clear H3
    have HBx : Hid (Below w.heap.size w wx) := by unfold Hid; rw [hwx]; exact ((((Below.refl _ _).alloc (Nat.le_refl _) _).alloc (by simp) _).alloc (by simp; omega) _).drew
    rw [← hwx] at hHeld ⊢
    clear hwx
    refine' wpAnyH_take (i := 0) (v := ?v1) rfl (by kernel_rfl) (by kernel_rfl) (by kernel_rfl) (fun _ _ _ h => h) (Or.inl ⟨by kernel_rfl, ?hy1⟩) (by assumption) ?rest1
    case hy1 => (intro w hSw; (try dsimp only at hSw); go_simp; try with_reducible rfl)
    try simp only [Act.put, List.setIfInBounds_toArray, List.set_cons_zero, List.set_cons_succ]
    refine' wpAnyH_take (i := 1) (v := ?v2) rfl (by kernel_rfl) (by kernel_rfl) (by kernel_rfl) (fun _ _ _ h => h) (Or.inl ⟨by kernel_rfl, ?hy2⟩) (by assumption) ?rest2
    case hy2 => (intro w hSw; (try dsimp only at hSw); go_simp; try with_reducible rfl)
    try simp only [Act.put, List.setIfInBounds_toArray, List.set_cons_zero, List.set_cons_succ]
    refine wpAnyH_take (i := 2) (v := .slice A 0 c) rfl (by kernel_rfl) (by kernel_rfl) (by kernel_rfl) (fun _ _ _ h => h) (Or.inl ⟨by kernel_rfl, ?_⟩) hHeld ?_
    · intro w hSw
      have hh := hSw.2
      go_simp
    try simp only [Act.put, List.setIfInBounds_toArray, List.set_cons_zero, List.set_cons_succ]
    refine' wpAnyH_take (i := 4) (v := ?v3) rfl (by kernel_rfl) (by kernel_rfl) (by kernel_rfl) (fun _ _ _ h => h) (Or.inl ⟨by kernel_rfl, ?hy3⟩) (by assumption) ?rest3
    case hy3 => (intro w hSw; (try dsimp only at hSw); go_simp; try with_reducible rfl)
    try simp only [Act.put, List.setIfInBounds_toArray, List.set_cons_zero, List.set_cons_succ]
    refine' wpAnyH_take (i := 5) (v := ?v4) rfl (by kernel_rfl) (by kernel_rfl) (by kernel_rfl) (fun _ _ _ h => h) (Or.inl ⟨by kernel_rfl, ?hy4⟩) (by assumption) ?rest4
    case hy4 => (intro w hSw; (try dsimp only at hSw); go_simp; try with_reducible rfl)
    try simp only [Act.put, List.setIfInBounds_toArray, List.set_cons_zero, List.set_cons_succ]
    refine' wpAnyH_take (i := 6) (v := ?v5) rfl (by kernel_rfl) (by kernel_rfl) (by kernel_rfl) (fun _ _ _ h => h) (Or.inl ⟨by kernel_rfl, ?hy5⟩) (by assumption) ?rest5
    case hy5 => (intro w hSw; (try dsimp only at hSw); go_simp; try with_reducible rfl)
    try simp only [Act.put, List.setIfInBounds_toArray, List.set_cons_zero, List.set_cons_succ]
    refine' wpAnyH_take (i := 7) (v := ?v6) rfl (by kernel_rfl) (by kernel_rfl) (by kernel_rfl) (fun _ _ _ h => h) (Or.inl ⟨by kernel_rfl, ?hy6⟩) (by assumption) ?rest6
    case hy6 => (intro w hSw; (try dsimp only at hSw); go_simp; try with_reducible rfl)
    try simp only [Act.put, List.setIfInBounds_toArray, List.set_cons_zero, List.set_cons_succ]
    refine wpAnyH_take (i := 8) (v := .int .i64 now) rfl (by kernel_rfl) (by kernel_rfl) (by kernel_rfl) (fun _ _ _ h => h) (Or.inl ⟨by kernel_rfl, ?_⟩) hHeld ?_
    · intro w hSw
      have hh := hSw.1
      go_simp
    try simp only [Act.put, List.setIfInBounds_toArray, List.set_cons_zero, List.set_cons_succ]
    refine' wpAnyH_take (i := 9) (v := ?v7) rfl (by kernel_rfl) (by kernel_rfl) (by kernel_rfl) (fun _ _ _ h => h) (Or.inl ⟨by kernel_rfl, ?hy7⟩) (by assumption) ?rest7
    case hy7 => (intro w hSw; (try dsimp only at hSw); go_simp; try with_reducible rfl)
    try simp only [Act.put, List.setIfInBounds_toArray, List.set_cons_zero, List.set_cons_succ]
    refine wpAnyH_take (i := 10) (v := .int .i64 (now + ticks)) rfl (by kernel_rfl) (by kernel_rfl) (by kernel_rfl) (fun _ _ _ h => h) (Or.inl ⟨by kernel_rfl, ?_⟩) hHeld ?_
    · intro w hSw
      go_simp
      first | done | ((try rw [Int.tdiv_eq_ediv_of_nonneg (by omega)]); (try rw [Int.tmod_eq_emod_of_nonneg (by omega)]); (try rw [IntKind.wrap_i64]); (try omega))
    try simp only [Act.put, List.setIfInBounds_toArray, List.set_cons_zero, List.set_cons_succ]
    refine' wpAnyH_take (i := 11) (v := ?v8) rfl (by kernel_rfl) (by kernel_rfl) (by kernel_rfl) (fun _ _ _ h => h) (Or.inl ⟨by kernel_rfl, ?hy8⟩) (by assumption) ?rest8
    case hy8 => (intro w hSw; (try dsimp only at hSw); go_simp; try with_reducible rfl)
    try simp only [Act.put, List.setIfInBounds_toArray, List.set_cons_zero, List.set_cons_succ]
    refine wpAnyH_ready (rs := [3, 12]) (by kernel_rfl) (by simp) (AllReadyH.cons rfl (fun K hK => ?_) (AllReadyH.cons rfl (fun K hK => ?_) AllReadyH.nil))
    · go_simp
      go_at_call 30
      refine (HCl.out _).mono ?_
      rintro er wa ⟨vc, rfl, hoc, ba⟩
      go_wp2_with fail
      refine hK.out _ _ ⟨(ba.cell (p := ⟨w.heap.size, 0, none⟩) (by have := HSX.out; dsimp only; omega)).trans X0, (ba.cell (p := ⟨w.heap.size, 1, none⟩) (by have := HSX.out; dsimp only; omega)).trans X1⟩ (fun hHeld => ?_)
      clear hK K
      try simp only [Act.put, List.setIfInBounds_toArray, List.set_cons_zero, List.set_cons_succ]
      refine wpAnyH_ready (rs := [12]) (by kernel_rfl) (by simp) ?_
      refine AllReadyH.cons rfl (fun K hK => ?_) AllReadyH.nil
      go_simp
      have HOn := Lib.hid (One.new wa ⟨owner, true, now + ticks⟩)
      have HOv : Hid (OwnL (wa.alloc (.cells #[.int .u64 owner.toNat, .bool true, .int .i64 (now + ticks)] 62)) wx.heap.size vc 0 []) := World.ownsRow.alloc hoc _
      have HBy : Hid (Below wx.heap.size wx (wa.alloc (.cells #[.int .u64 owner.toNat, .bool true, .int .i64 (now + ticks)] 62))) := ba.alloc ba.size _
      obtain ⟨gx, hgx⟩ : ∃ gx, gx = wa.heap.size := ⟨_, rfl⟩
      obtain ⟨wy, hwy⟩ : ∃ wy, wy = wa.alloc (.cells #[.int .u64 owner.toNat, .bool true, .int .i64 (now + ticks)] 62) := ⟨_, rfl⟩
      dsimp only at HOn
      rw [← hgx, ← hwy] at HOn
      rw [← hwy] at HOv HBy
      rw [← hgx, ← hwy]
      clear hgx hwy ba hoc
      refine hK.out _ _ ⟨(HBy.out.cell (p := ⟨w.heap.size, 0, none⟩) (by have := HSX.out; dsimp only; omega)).trans X0, (HBy.out.cell (p := ⟨w.heap.size, 1, none⟩) (by have := HSX.out; dsimp only; omega)).trans X1⟩ (fun hHeld => ?_)
      clear hK K
      try simp only [Act.put, List.setIfInBounds_toArray, List.set_cons_zero, List.set_cons_succ]
      have HOW := Lib.hid (insert_first wx.heap.size vc (.slice (some ⟨gx, 0, none⟩) 1 1) ⟨owner, true, now + ticks⟩ wy HOv.out HOn.out HBy.out.size)
      clear HOv HOn
      refine wpAnyH_ready (rs := [13]) (by kernel_rfl) (by simp) ?_
      refine AllReadyH.cons rfl (fun K hK => ?_) AllReadyH.nil
      go_simp
      go_at_call 29
      refine HOW.out.mono ?_
      rintro er wz ⟨vz, rfl, hoz, bz⟩
      have HZ := Lib.hid hoz.one
      obtain ⟨gz, cz, hvz, _, _⟩ := hoz.one
      subst hvz
      have HGZ : Hid (wx.heap.size ≤ gz) := (OwnL.free hoz).1
      have HBz : Hid (Below wx.heap.size wx wz) := HBy.out.trans bz
      have ez0 := (HBz.out.cell (p := ⟨w.heap.size, 0, none⟩) (by have := HSX.out; dsimp only; omega)).trans X0
      have ez1 := (HBz.out.cell (p := ⟨w.heap.size, 1, none⟩) (by have := HSX.out; dsimp only; omega)).trans X1
      have ek0 := (HBz.out.cell (p := ⟨w.heap.size + 1 + 1, 0, none⟩) (by have := HSX.out; dsimp only; omega)).trans K0
      have ek1 := (HBz.out.cell (p := ⟨w.heap.size + 1 + 1, 1, none⟩) (by have := HSX.out; dsimp only; omega)).trans K1
      have fk1 := (HBz.out.frozen (p := ⟨w.heap.size + 1 + 1, 1, none⟩) (by have := HSX.out; dsimp only; omega)).trans FK
      have er0 := (HBz.out.cell (p := ⟨w.heap.size + 1, 0, none⟩) (by have := HSX.out; dsimp only; omega)).trans R0
      have er1 := (HBz.out.cell (p := ⟨w.heap.size + 1, 1, none⟩) (by have := HSX.out; dsimp only; omega)).trans R1
      have fr0 := (HBz.out.frozen (p := ⟨w.heap.size + 1, 0, none⟩) (by have := HSX.out; dsimp only; omega)).trans FR0
      have fr1 := (HBz.out.frozen (p := ⟨w.heap.size + 1, 1, none⟩) (by have := HSX.out; dsimp only; omega)).trans FR1
      have HBw : Hid (Below w.heap.size w wz) := HBx.out.trans (HBz.out.mono (by have := HSX.out; omega))
      clear hoz bz HBz HBy X0 X1 K0 K1 FK R0 R1 FR0 FR1 HOW
      go_wp2_with fail
      refine hK.out _ _ ⟨ez0, ez1⟩ (fun hHeld => ?_)
      clear hK K
      try simp only [Act.put, List.setIfInBounds_toArray, List.set_cons_zero, List.set_cons_succ]
      refine' wpAnyH_take (i := 14) (v := ?v9) rfl (by kernel_rfl) (by kernel_rfl) (by kernel_rfl) (fun _ _ _ h => h) (Or.inl ⟨by kernel_rfl, ?hy9⟩) (by assumption) ?rest9
      case hy9 => (intro w hSw; (try dsimp only at hSw); go_simp; try with_reducible rfl)
      try simp only [Act.put, List.setIfInBounds_toArray, List.set_cons_zero, List.set_cons_succ]
      refine' wpAnyH_take (i := 15) (v := ?v10) rfl (by kernel_rfl) (by kernel_rfl) (by kernel_rfl) (fun _ _ _ h => h) (Or.inl ⟨by kernel_rfl, ?hy10⟩) (by assumption) ?rest10
      case hy10 => (intro w hSw; (try dsimp only at hSw); go_simp; try with_reducible rfl)
      try simp only [Act.put, List.setIfInBounds_toArray, List.set_cons_zero, List.set_cons_succ]
      refine' wpAnyH_take (i := 16) (v := ?v11) rfl (by kernel_rfl) (by kernel_rfl) (by kernel_rfl) (fun _ _ _ h => h) (Or.inl ⟨by kernel_rfl, ?hy11⟩) (by assumption) ?rest11
      case hy11 => (intro w hSw; (try dsimp only at hSw); go_simp; try with_reducible rfl)
      try simp only [Act.put, List.setIfInBounds_toArray, List.set_cons_zero, List.set_cons_succ]
      refine wpAnyH_ready (rs := [17]) (by kernel_rfl) (by simp) ?_
      refine AllReadyH.cons rfl (fun K hK => ?_) AllReadyH.nil
      go_simp
      refine hK.out _ _ ⟨(World.cell?_setCell_other _ _ _ _ (by intro e; injection e with e _; omega)).trans ez0, (World.cell?_setCell_other _ _ _ _ (by intro e; injection e with e _; omega)).trans ez1⟩ (fun hHeld => ?_)
      clear hK K
      try simp only [Act.put, List.setIfInBounds_toArray, List.set_cons_zero, List.set_cons_succ]
      refine wpAnyH_done (by kernel_rfl) ?_ _
      refine NoPanic.normal ?_
      go_wp2_with fail
      (try simp only [Exit.inBlock, Exit.then])
      refine bodyPost_cell (V := .agg #[.int .i64 now, .slice (some ⟨gz, 0, none⟩) 1 cz]) rfl rfl ?_ rfl ?_
      · go_simp
      · refine ⟨_, rfl, ?_, ?_⟩
        · have h1 := HSX.out
          have h2 := HGZ.out
          exact ((HZ.out.set_other _ _ (by omega)).set_other _ _ (by omega)).set_other _ _ (by omega)
        · exact ((HBw.out.setCell (p := ⟨w.heap.size + 1 + 1, 1, none⟩) (by dsimp only; omega) _).setCell (p := ⟨w.heap.size + 1, 0, none⟩) (by dsimp only; omega) _).setCell (p := ⟨w.heap.size + 1, 1, none⟩) (by dsimp only; omega) _
    · go_simp
      have HOn0 := Lib.hid (One.new wx ⟨owner, true, now + ticks⟩)
      have HBa : Hid (Below wx.heap.size wx (wx.alloc (.cells #[.int .u64 owner.toNat, .bool true, .int .i64 (now + ticks)] 62))) := (Below.refl _ _).alloc (Nat.le_refl _) _
      obtain ⟨gx, hgx⟩ : ∃ gx, gx = wx.heap.size := ⟨_, rfl⟩
      obtain ⟨wa, hwa⟩ : ∃ wa, wa = wx.alloc (.cells #[.int .u64 owner.toNat, .bool true, .int .i64 (now + ticks)] 62) := ⟨_, rfl⟩
      dsimp only at HOn0
      rw [← hgx, ← hwa] at HOn0
      rw [← hwa] at HBa
      rw [← hgx, ← hwa]
      clear hgx hwa
      refine hK.out _ _ ⟨(HBa.out.cell (p := ⟨w.heap.size, 0, none⟩) (by have := HSX.out; dsimp only; omega)).trans X0, (HBa.out.cell (p := ⟨w.heap.size, 1, none⟩) (by have := HSX.out; dsimp only; omega)).trans X1⟩ (fun hHeld => ?_)
      clear hK K
      try simp only [Act.put, List.setIfInBounds_toArray, List.set_cons_zero, List.set_cons_succ]
      refine wpAnyH_ready (rs := [3]) (by kernel_rfl) (by simp) ?_
      refine AllReadyH.cons rfl (fun K hK => ?_) AllReadyH.nil
      go_simp
      go_at_call 30
      refine (HCl.out _).mono ?_
      rintro er wy ⟨vc, rfl, hoc, ba⟩
      have HOv : Hid (OwnL wy wx.heap.size vc 0 []) := hoc.mono HBa.out.size
      have HOn : Hid (One wy (.slice (some ⟨gx, 0, none⟩) 1 1) ⟨owner, true, now + ticks⟩) := HOn0.out.below ba (Nat.le_refl _)
      have HBy : Hid (Below wx.heap.size wx wy) := HBa.out.trans (ba.mono HBa.out.size)
      clear ba hoc HOn0 HBa
      go_wp2_with fail
      refine hK.out _ _ ⟨(HBy.out.cell (p := ⟨w.heap.size, 0, none⟩) (by have := HSX.out; dsimp only; omega)).trans X0, (HBy.out.cell (p := ⟨w.heap.size, 1, none⟩) (by have := HSX.out; dsimp only; omega)).trans X1⟩ (fun hHeld => ?_)
      clear hK K
      try simp only [Act.put, List.setIfInBounds_toArray, List.set_cons_zero, List.set_cons_succ]
      have HOW := Lib.hid (insert_first wx.heap.size vc (.slice (some ⟨gx, 0, none⟩) 1 1) ⟨owner, true, now + ticks⟩ wy HOv.out HOn.out HBy.out.size)
      clear HOv HOn
      refine wpAnyH_ready (rs := [13]) (by kernel_rfl) (by simp) ?_
      refine AllReadyH.cons rfl (fun K hK => ?_) AllReadyH.nil
      go_simp
      go_at_call 29
      refine HOW.out.mono ?_
      rintro er wz ⟨vz, rfl, hoz, bz⟩
      have HZ := Lib.hid hoz.one
      obtain ⟨gz, cz, hvz, _, _⟩ := hoz.one
      subst hvz
      have HGZ : Hid (wx.heap.size ≤ gz) := (OwnL.free hoz).1
      have HBz : Hid (Below wx.heap.size wx wz) := HBy.out.trans bz
      have ez0 := (HBz.out.cell (p := ⟨w.heap.size, 0, none⟩) (by have := HSX.out; dsimp only; omega)).trans X0
      have ez1 := (HBz.out.cell (p := ⟨w.heap.size, 1, none⟩) (by have := HSX.out; dsimp only; omega)).trans X1
      have ek0 := (HBz.out.cell (p := ⟨w.heap.size + 1 + 1, 0, none⟩) (by have := HSX.out; dsimp only; omega)).trans K0
      have ek1 := (HBz.out.cell (p := ⟨w.heap.size + 1 + 1, 1, none⟩) (by have := HSX.out; dsimp only; omega)).trans K1
      have fk1 := (HBz.out.frozen (p := ⟨w.heap.size + 1 + 1, 1, none⟩) (by have := HSX.out; dsimp only; omega)).trans FK
      have er0 := (HBz.out.cell (p := ⟨w.heap.size + 1, 0, none⟩) (by have := HSX.out; dsimp only; omega)).trans R0
      have er1 := (HBz.out.cell (p := ⟨w.heap.size + 1, 1, none⟩) (by have := HSX.out; dsimp only; omega)).trans R1
      have fr0 := (HBz.out.frozen (p := ⟨w.heap.size + 1, 0, none⟩) (by have := HSX.out; dsimp only; omega)).trans FR0
      have fr1 := (HBz.out.frozen (p := ⟨w.heap.size + 1, 1, none⟩) (by have := HSX.out; dsimp only; omega)).trans FR1
      have HBw : Hid (Below w.heap.size w wz) := HBx.out.trans (HBz.out.mono (by have := HSX.out; omega))
      clear hoz bz HBz HBy X0 X1 K0 K1 FK R0 R1 FR0 FR1 HOW
      go_wp2_with fail
      refine hK.out _ _ ⟨ez0, ez1⟩ (fun hHeld => ?_)
      clear hK K
      try simp only [Act.put, List.setIfInBounds_toArray, List.set_cons_zero, List.set_cons_succ]
      refine' wpAnyH_take (i := 14) (v := ?v12) rfl (by kernel_rfl) (by kernel_rfl) (by kernel_rfl) (fun _ _ _ h => h) (Or.inl ⟨by kernel_rfl, ?hy12⟩) (by assumption) ?rest12
      case hy12 => (intro w hSw; (try dsimp only at hSw); go_simp; try with_reducible rfl)
      try simp only [Act.put, List.setIfInBounds_toArray, List.set_cons_zero, List.set_cons_succ]
      refine' wpAnyH_take (i := 15) (v := ?v13) rfl (by kernel_rfl) (by kernel_rfl) (by kernel_rfl) (fun _ _ _ h => h) (Or.inl ⟨by kernel_rfl, ?hy13⟩) (by assumption) ?rest13
      case hy13 => (intro w hSw; (try dsimp only at hSw); go_simp; try with_reducible rfl)
      try simp only [Act.put, List.setIfInBounds_toArray, List.set_cons_zero, List.set_cons_succ]
      refine' wpAnyH_take (i := 16) (v := ?v14) rfl (by kernel_rfl) (by kernel_rfl) (by kernel_rfl) (fun _ _ _ h => h) (Or.inl ⟨by kernel_rfl, ?hy14⟩) (by assumption) ?rest14
      case hy14 => (intro w hSw; (try dsimp only at hSw); go_simp; try with_reducible rfl)
      try simp only [Act.put, List.setIfInBounds_toArray, List.set_cons_zero, List.set_cons_succ]
      refine wpAnyH_ready (rs := [17]) (by kernel_rfl) (by simp) ?_
      refine AllReadyH.cons rfl (fun K hK => ?_) AllReadyH.nil
      go_simp
      refine hK.out _ _ ⟨(World.cell?_setCell_other _ _ _ _ (by intro e; injection e with e _; omega)).trans ez0, (World.cell?_setCell_other _ _ _ _ (by intro e; injection e with e _; omega)).trans ez1⟩ (fun hHeld => ?_)
      clear hK K
      try simp only [Act.put, List.setIfInBounds_toArray, List.set_cons_zero, List.set_cons_succ]
      refine wpAnyH_done (by kernel_rfl) ?_ _
      refine NoPanic.normal ?_
      go_wp2_with fail
      (try simp only [Exit.inBlock, Exit.then])
      refine bodyPost_cell (V := .agg #[.int .i64 now, .slice (some ⟨gz, 0, none⟩) 1 cz]) rfl rfl ?_ rfl ?_
      · go_simp
      · refine ⟨_, rfl, ?_, ?_⟩
        · have h1 := HSX.out
          have h2 := HGZ.out
          exact ((HZ.out.set_other _ _ (by omega)).set_other _ _ (by omega)).set_other _ _ (by omega)
        · exact ((HBw.out.setCell (p := ⟨w.heap.size + 1 + 1, 1, none⟩) (by dsimp only; omega) _).setCell (p := ⟨w.heap.size + 1, 0, none⟩) (by dsimp only; omega) _).setCell (p := ⟨w.heap.size + 1, 1, none⟩) (by dsimp only; omega) _
  | false =>
    go_enter Try.func7, Try.ntmps7
    go_wp2_with fail
    refine Calls.mono (HAT.out _ _ (two3 w _ _ _ _ _ _ _ _ _).2.2.2.2.1) ?_
    rintro e w' ⟨rfl, rfl⟩
    go_wp2_with fail
    refine (HCn.out _).mono ?_
    rintro e w' ⟨rfl, rfl⟩
    go_wp2_with fail
    refine (HT.out _).mono ?_
    rintro e w' ⟨rfl, rfl⟩
    go_wp2_with fail
    clear HT HCn HAT
    refine wp_region_noPanic ?_
    refine wp_region_held_drew (S := fun w' => w'.cell? ⟨w.heap.size, 0, none⟩ = some (.int .i64 now) ∧ w'.cell? ⟨w.heap.size, 1, none⟩ = some (.slice A 0 c)) (by kernel_rfl) ⟨(two3 w _ _ _ _ _ _ _ _ _).1, (two3 w _ _ _ _ _ _ _ _ _).2.1⟩ (fun hHeld => ?_)
    obtain ⟨wx, hwx⟩ : ∃ wx, wx = (((w.alloc (.cells #[.int .i64 now, .slice A 0 c] 27)).alloc (.cells #[.int .i64 0, .slice none 0 0] 27)).alloc (.cells #[.int .i64 now, .slice A 0 c] 57)).drew := ⟨_, rfl⟩
    have HSX : Hid (wx.heap.size = w.heap.size + 3) := by unfold Hid; rw [hwx]; simp
    have H3 := two3 w (.int .i64 now) (.slice A 0 c) 27 (.int .i64 0) (.slice none 0 0) 27 (.int .i64 now) (.slice A 0 c) 57
    have X0 : wx.cell? ⟨w.heap.size, 0, none⟩ = some (.int .i64 now) := by rw [hwx]; exact H3.1
    have X1 : wx.cell? ⟨w.heap.size, 1, none⟩ = some (.slice A 0 c) := by rw [hwx]; exact H3.2.1
    have R0 : wx.cell? ⟨w.heap.size + 1, 0, none⟩ = some (.int .i64 0) := by rw [hwx]; exact H3.2.2.1
    have R1 : wx.cell? ⟨w.heap.size + 1, 1, none⟩ = some (.slice none 0 0) := by rw [hwx]; exact H3.2.2.2.1
    have K0 : wx.cell? ⟨w.heap.size + 1 + 1, 0, none⟩ = some (.int .i64 now) := by rw [hwx]; exact H3.2.2.2.2.2.1
    have K1 : wx.cell? ⟨w.heap.size + 1 + 1, 1, none⟩ = some (.slice A 0 c) := by rw [hwx]; exact H3.2.2.2.2.1
    have FK : wx.frozen? ⟨w.heap.size + 1 + 1, 1, none⟩ = false := by rw [hwx]; exact H3.2.2.2.2.2.2.2 1
    have FR0 : wx.frozen? ⟨w.heap.size + 1, 0, none⟩ = false := by rw [hwx]; exact H3.2.2.2.2.2.2.1 0
    have FR1 : wx.frozen? ⟨w.heap.size + 1, 1, none⟩ = false := by rw [hwx]; exact H3.2.2.2.2.2.2.1 1
    clear H3
    have HBx : Hid (Below w.heap.size w wx) := by unfold Hid; rw [hwx]; exact ((((Below.refl _ _).alloc (Nat.le_refl _) _).alloc (by simp) _).alloc (by simp; omega) _).drew
    rw [← hwx] at hHeld ⊢
    clear hwx
    refine' wpAnyH_take (i := 0) (v := ?v15) rfl (by kernel_rfl) (by kernel_rfl) (by kernel_rfl) (fun _ _ _ h => h) (Or.inl ⟨by kernel_rfl, ?hy15⟩) (by assumption) ?rest15
    case hy15 => (intro w hSw; (try dsimp only at hSw); go_simp; try with_reducible rfl)
    try simp only [Act.put, List.setIfInBounds_toArray, List.set_cons_zero, List.set_cons_succ]
    refine' wpAnyH_take (i := 1) (v := ?v16) rfl (by kernel_rfl) (by kernel_rfl) (by kernel_rfl) (fun _ _ _ h => h) (Or.inl ⟨by kernel_rfl, ?hy16⟩) (by assumption) ?rest16
    case hy16 => (intro w hSw; (try dsimp only at hSw); go_simp; try with_reducible rfl)
    try simp only [Act.put, List.setIfInBounds_toArray, List.set_cons_zero, List.set_cons_succ]
    refine wpAnyH_take (i := 2) (v := .slice A 0 c) rfl (by kernel_rfl) (by kernel_rfl) (by kernel_rfl) (fun _ _ _ h => h) (Or.inl ⟨by kernel_rfl, ?_⟩) hHeld ?_
    · intro w hSw
      have hh := hSw.2
      go_simp
    try simp only [Act.put, List.setIfInBounds_toArray, List.set_cons_zero, List.set_cons_succ]
    refine' wpAnyH_take (i := 4) (v := ?v17) rfl (by kernel_rfl) (by kernel_rfl) (by kernel_rfl) (fun _ _ _ h => h) (Or.inl ⟨by kernel_rfl, ?hy17⟩) (by assumption) ?rest17
    case hy17 => (intro w hSw; (try dsimp only at hSw); go_simp; try with_reducible rfl)
    try simp only [Act.put, List.setIfInBounds_toArray, List.set_cons_zero, List.set_cons_succ]
    refine' wpAnyH_take (i := 5) (v := ?v18) rfl (by kernel_rfl) (by kernel_rfl) (by kernel_rfl) (fun _ _ _ h => h) (Or.inl ⟨by kernel_rfl, ?hy18⟩) (by assumption) ?rest18
    case hy18 => (intro w hSw; (try dsimp only at hSw); go_simp; try with_reducible rfl)
    try simp only [Act.put, List.setIfInBounds_toArray, List.set_cons_zero, List.set_cons_succ]
    refine' wpAnyH_take (i := 6) (v := ?v19) rfl (by kernel_rfl) (by kernel_rfl) (by kernel_rfl) (fun _ _ _ h => h) (Or.inl ⟨by kernel_rfl, ?hy19⟩) (by assumption) ?rest19
    case hy19 => (intro w hSw; (try dsimp only at hSw); go_simp; try with_reducible rfl)
    try simp only [Act.put, List.setIfInBounds_toArray, List.set_cons_zero, List.set_cons_succ]
    refine' wpAnyH_take (i := 7) (v := ?v20) rfl (by kernel_rfl) (by kernel_rfl) (by kernel_rfl) (fun _ _ _ h => h) (Or.inl ⟨by kernel_rfl, ?hy20⟩) (by assumption) ?rest20
    case hy20 => (intro w hSw; (try dsimp only at hSw); go_simp; try with_reducible rfl)
    try simp only [Act.put, List.setIfInBounds_toArray, List.set_cons_zero, List.set_cons_succ]
    refine wpAnyH_take (i := 8) (v := .int .i64 now) rfl (by kernel_rfl) (by kernel_rfl) (by kernel_rfl) (fun _ _ _ h => h) (Or.inl ⟨by kernel_rfl, ?_⟩) hHeld ?_
    · intro w hSw
      have hh := hSw.1
      go_simp
    try simp only [Act.put, List.setIfInBounds_toArray, List.set_cons_zero, List.set_cons_succ]
    refine' wpAnyH_take (i := 9) (v := ?v21) rfl (by kernel_rfl) (by kernel_rfl) (by kernel_rfl) (fun _ _ _ h => h) (Or.inl ⟨by kernel_rfl, ?hy21⟩) (by assumption) ?rest21
    case hy21 => (intro w hSw; (try dsimp only at hSw); go_simp; try with_reducible rfl)
    try simp only [Act.put, List.setIfInBounds_toArray, List.set_cons_zero, List.set_cons_succ]
    refine wpAnyH_take (i := 10) (v := .int .i64 (now + ticks)) rfl (by kernel_rfl) (by kernel_rfl) (by kernel_rfl) (fun _ _ _ h => h) (Or.inl ⟨by kernel_rfl, ?_⟩) hHeld ?_
    · intro w hSw
      go_simp
      first | done | ((try rw [Int.tdiv_eq_ediv_of_nonneg (by omega)]); (try rw [Int.tmod_eq_emod_of_nonneg (by omega)]); (try rw [IntKind.wrap_i64]); (try omega))
    try simp only [Act.put, List.setIfInBounds_toArray, List.set_cons_zero, List.set_cons_succ]
    refine' wpAnyH_take (i := 11) (v := ?v22) rfl (by kernel_rfl) (by kernel_rfl) (by kernel_rfl) (fun _ _ _ h => h) (Or.inl ⟨by kernel_rfl, ?hy22⟩) (by assumption) ?rest22
    case hy22 => (intro w hSw; (try dsimp only at hSw); go_simp; try with_reducible rfl)
    try simp only [Act.put, List.setIfInBounds_toArray, List.set_cons_zero, List.set_cons_succ]
    refine wpAnyH_ready (rs := [3, 12]) (by kernel_rfl) (by simp) (AllReadyH.cons rfl (fun K hK => ?_) (AllReadyH.cons rfl (fun K hK => ?_) AllReadyH.nil))
    · go_simp
      go_at_call 30
      refine (HCl.out _).mono ?_
      rintro er wa ⟨vc, rfl, hoc, ba⟩
      go_wp2_with fail
      refine hK.out _ _ ⟨(ba.cell (p := ⟨w.heap.size, 0, none⟩) (by have := HSX.out; dsimp only; omega)).trans X0, (ba.cell (p := ⟨w.heap.size, 1, none⟩) (by have := HSX.out; dsimp only; omega)).trans X1⟩ (fun hHeld => ?_)
      clear hK K
      try simp only [Act.put, List.setIfInBounds_toArray, List.set_cons_zero, List.set_cons_succ]
      refine wpAnyH_ready (rs := [12]) (by kernel_rfl) (by simp) ?_
      refine AllReadyH.cons rfl (fun K hK => ?_) AllReadyH.nil
      go_simp
      have HOn := Lib.hid (One.new wa ⟨owner, false, now + ticks⟩)
      have HOv : Hid (OwnL (wa.alloc (.cells #[.int .u64 owner.toNat, .bool false, .int .i64 (now + ticks)] 62)) wx.heap.size vc 0 []) := World.ownsRow.alloc hoc _
      have HBy : Hid (Below wx.heap.size wx (wa.alloc (.cells #[.int .u64 owner.toNat, .bool false, .int .i64 (now + ticks)] 62))) := ba.alloc ba.size _
      obtain ⟨gx, hgx⟩ : ∃ gx, gx = wa.heap.size := ⟨_, rfl⟩
      obtain ⟨wy, hwy⟩ : ∃ wy, wy = wa.alloc (.cells #[.int .u64 owner.toNat, .bool false, .int .i64 (now + ticks)] 62) := ⟨_, rfl⟩
      dsimp only at HOn
      rw [← hgx, ← hwy] at HOn
      rw [← hwy] at HOv HBy
      rw [← hgx, ← hwy]
      clear hgx hwy ba hoc
      refine hK.out _ _ ⟨(HBy.out.cell (p := ⟨w.heap.size, 0, none⟩) (by have := HSX.out; dsimp only; omega)).trans X0, (HBy.out.cell (p := ⟨w.heap.size, 1, none⟩) (by have := HSX.out; dsimp only; omega)).trans X1⟩ (fun hHeld => ?_)
      clear hK K
      try simp only [Act.put, List.setIfInBounds_toArray, List.set_cons_zero, List.set_cons_succ]
      have HOW := Lib.hid (insert_first wx.heap.size vc (.slice (some ⟨gx, 0, none⟩) 1 1) ⟨owner, false, now + ticks⟩ wy HOv.out HOn.out HBy.out.size)
      clear HOv HOn
      refine wpAnyH_ready (rs := [13]) (by kernel_rfl) (by simp) ?_
      refine AllReadyH.cons rfl (fun K hK => ?_) AllReadyH.nil
      go_simp
      go_at_call 29
      refine HOW.out.mono ?_
      rintro er wz ⟨vz, rfl, hoz, bz⟩
      have HZ := Lib.hid hoz.one
      obtain ⟨gz, cz, hvz, _, _⟩ := hoz.one
      subst hvz
      have HGZ : Hid (wx.heap.size ≤ gz) := (OwnL.free hoz).1
      have HBz : Hid (Below wx.heap.size wx wz) := HBy.out.trans bz
      have ez0 := (HBz.out.cell (p := ⟨w.heap.size, 0, none⟩) (by have := HSX.out; dsimp only; omega)).trans X0
      have ez1 := (HBz.out.cell (p := ⟨w.heap.size, 1, none⟩) (by have := HSX.out; dsimp only; omega)).trans X1
      have ek0 := (HBz.out.cell (p := ⟨w.heap.size + 1 + 1, 0, none⟩) (by have := HSX.out; dsimp only; omega)).trans K0
      have ek1 := (HBz.out.cell (p := ⟨w.heap.size + 1 + 1, 1, none⟩) (by have := HSX.out; dsimp only; omega)).trans K1
      have fk1 := (HBz.out.frozen (p := ⟨w.heap.size + 1 + 1, 1, none⟩) (by have := HSX.out; dsimp only; omega)).trans FK
      have er0 := (HBz.out.cell (p := ⟨w.heap.size + 1, 0, none⟩) (by have := HSX.out; dsimp only; omega)).trans R0
      have er1 := (HBz.out.cell (p := ⟨w.heap.size + 1, 1, none⟩) (by have := HSX.out; dsimp only; omega)).trans R1
      have fr0 := (HBz.out.frozen (p := ⟨w.heap.size + 1, 0, none⟩) (by have := HSX.out; dsimp only; omega)).trans FR0
      have fr1 := (HBz.out.frozen (p := ⟨w.heap.size + 1, 1, none⟩) (by have := HSX.out; dsimp only; omega)).trans FR1
      have HBw : Hid (Below w.heap.size w wz) := HBx.out.trans (HBz.out.mono (by have := HSX.out; omega))
      clear hoz bz HBz HBy X0 X1 K0 K1 FK R0 R1 FR0 FR1 HOW
      go_wp2_with fail
      refine hK.out _ _ ⟨ez0, ez1⟩ (fun hHeld => ?_)
      clear hK K
      try simp only [Act.put, List.setIfInBounds_toArray, List.set_cons_zero, List.set_cons_succ]
      refine' wpAnyH_take (i := 14) (v := ?v23) rfl (by kernel_rfl) (by kernel_rfl) (by kernel_rfl) (fun _ _ _ h => h) (Or.inl ⟨by kernel_rfl, ?hy23⟩) (by assumption) ?rest23
      case hy23 => (intro w hSw; (try dsimp only at hSw); go_simp; try with_reducible rfl)
      try simp only [Act.put, List.setIfInBounds_toArray, List.set_cons_zero, List.set_cons_succ]
      refine' wpAnyH_take (i := 15) (v := ?v24) rfl (by kernel_rfl) (by kernel_rfl) (by kernel_rfl) (fun _ _ _ h => h) (Or.inl ⟨by kernel_rfl, ?hy24⟩) (by assumption) ?rest24
      case hy24 => (intro w hSw; (try dsimp only at hSw); go_simp; try with_reducible rfl)
      try simp only [Act.put, List.setIfInBounds_toArray, List.set_cons_zero, List.set_cons_succ]
      refine' wpAnyH_take (i := 16) (v := ?v25) rfl (by kernel_rfl) (by kernel_rfl) (by kernel_rfl) (fun _ _ _ h => h) (Or.inl ⟨by kernel_rfl, ?hy25⟩) (by assumption) ?rest25
      case hy25 => (intro w hSw; (try dsimp only at hSw); go_simp; try with_reducible rfl)
      try simp only [Act.put, List.setIfInBounds_toArray, List.set_cons_zero, List.set_cons_succ]
      refine wpAnyH_ready (rs := [17]) (by kernel_rfl) (by simp) ?_
      refine AllReadyH.cons rfl (fun K hK => ?_) AllReadyH.nil
      go_simp
      refine hK.out _ _ ⟨(World.cell?_setCell_other _ _ _ _ (by intro e; injection e with e _; omega)).trans ez0, (World.cell?_setCell_other _ _ _ _ (by intro e; injection e with e _; omega)).trans ez1⟩ (fun hHeld => ?_)
      clear hK K
      try simp only [Act.put, List.setIfInBounds_toArray, List.set_cons_zero, List.set_cons_succ]
      refine wpAnyH_done (by kernel_rfl) ?_ _
      refine NoPanic.normal ?_
      go_wp2_with fail
      (try simp only [Exit.inBlock, Exit.then])
      refine bodyPost_cell (V := .agg #[.int .i64 now, .slice (some ⟨gz, 0, none⟩) 1 cz]) rfl rfl ?_ rfl ?_
      · go_simp
      · refine ⟨_, rfl, ?_, ?_⟩
        · have h1 := HSX.out
          have h2 := HGZ.out
          exact ((HZ.out.set_other _ _ (by omega)).set_other _ _ (by omega)).set_other _ _ (by omega)
        · exact ((HBw.out.setCell (p := ⟨w.heap.size + 1 + 1, 1, none⟩) (by dsimp only; omega) _).setCell (p := ⟨w.heap.size + 1, 0, none⟩) (by dsimp only; omega) _).setCell (p := ⟨w.heap.size + 1, 1, none⟩) (by dsimp only; omega) _
    · go_simp
      have HOn0 := Lib.hid (One.new wx ⟨owner, false, now + ticks⟩)
      have HBa : Hid (Below wx.heap.size wx (wx.alloc (.cells #[.int .u64 owner.toNat, .bool false, .int .i64 (now + ticks)] 62))) := (Below.refl _ _).alloc (Nat.le_refl _) _
      obtain ⟨gx, hgx⟩ : ∃ gx, gx = wx.heap.size := ⟨_, rfl⟩
      obtain ⟨wa, hwa⟩ : ∃ wa, wa = wx.alloc (.cells #[.int .u64 owner.toNat, .bool false, .int .i64 (now + ticks)] 62) := ⟨_, rfl⟩
      dsimp only at HOn0
      rw [← hgx, ← hwa] at HOn0
      rw [← hwa] at HBa
      rw [← hgx, ← hwa]
      clear hgx hwa
      refine hK.out _ _ ⟨(HBa.out.cell (p := ⟨w.heap.size, 0, none⟩) (by have := HSX.out; dsimp only; omega)).trans X0, (HBa.out.cell (p := ⟨w.heap.size, 1, none⟩) (by have := HSX.out; dsimp only; omega)).trans X1⟩ (fun hHeld => ?_)
      clear hK K
      try simp only [Act.put, List.setIfInBounds_toArray, List.set_cons_zero, List.set_cons_succ]
      refine wpAnyH_ready (rs := [3]) (by kernel_rfl) (by simp) ?_
      refine AllReadyH.cons rfl (fun K hK => ?_) AllReadyH.nil
      go_simp
      go_at_call 30
      refine (HCl.out _).mono ?_
      rintro er wy ⟨vc, rfl, hoc, ba⟩
      have HOv : Hid (OwnL wy wx.heap.size vc 0 []) := hoc.mono HBa.out.size
      have HOn : Hid (One wy (.slice (some ⟨gx, 0, none⟩) 1 1) ⟨owner, false, now + ticks⟩) := HOn0.out.below ba (Nat.le_refl _)
      have HBy : Hid (Below wx.heap.size wx wy) := HBa.out.trans (ba.mono HBa.out.size)
      clear ba hoc HOn0 HBa
      go_wp2_with fail
      refine hK.out _ _ ⟨(HBy.out.cell (p := ⟨w.heap.size, 0, none⟩) (by have := HSX.out; dsimp only; omega)).trans X0, (HBy.out.cell (p := ⟨w.heap.size, 1, none⟩) (by have := HSX.out; dsimp only; omega)).trans X1⟩ (fun hHeld => ?_)
      clear hK K
      try simp only [Act.put, List.setIfInBounds_toArray, List.set_cons_zero, List.set_cons_succ]
      have HOW := Lib.hid (insert_first wx.heap.size vc (.slice (some ⟨gx, 0, none⟩) 1 1) ⟨owner, false, now + ticks⟩ wy HOv.out HOn.out HBy.out.size)
      clear HOv HOn
      refine wpAnyH_ready (rs := [13]) (by kernel_rfl) (by simp) ?_
      refine AllReadyH.cons rfl (fun K hK => ?_) AllReadyH.nil
      go_simp
      go_at_call 29
      refine HOW.out.mono ?_
      rintro er wz ⟨vz, rfl, hoz, bz⟩
      have HZ := Lib.hid hoz.one
      obtain ⟨gz, cz, hvz, _, _⟩ := hoz.one
      subst hvz
      have HGZ : Hid (wx.heap.size ≤ gz) := (OwnL.free hoz).1
      have HBz : Hid (Below wx.heap.size wx wz) := HBy.out.trans bz
      have ez0 := (HBz.out.cell (p := ⟨w.heap.size, 0, none⟩) (by have := HSX.out; dsimp only; omega)).trans X0
      have ez1 := (HBz.out.cell (p := ⟨w.heap.size, 1, none⟩) (by have := HSX.out; dsimp only; omega)).trans X1
      have ek0 := (HBz.out.cell (p := ⟨w.heap.size + 1 + 1, 0, none⟩) (by have := HSX.out; dsimp only; omega)).trans K0
      have ek1 := (HBz.out.cell (p := ⟨w.heap.size + 1 + 1, 1, none⟩) (by have := HSX.out; dsimp only; omega)).trans K1
      have fk1 := (HBz.out.frozen (p := ⟨w.heap.size + 1 + 1, 1, none⟩) (by have := HSX.out; dsimp only; omega)).trans FK
      have er0 := (HBz.out.cell (p := ⟨w.heap.size + 1, 0, none⟩) (by have := HSX.out; dsimp only; omega)).trans R0
      have er1 := (HBz.out.cell (p := ⟨w.heap.size + 1, 1, none⟩) (by have := HSX.out; dsimp only; omega)).trans R1
      have fr0 := (HBz.out.frozen (p := ⟨w.heap.size + 1, 0, none⟩) (by have := HSX.out; dsimp only; omega)).trans FR0
      have fr1 := (HBz.out.frozen (p := ⟨w.heap.size + 1, 1, none⟩) (by have := HSX.out; dsimp only; omega)).trans FR1
      have HBw : Hid (Below w.heap.size w wz) := HBx.out.trans (HBz.out.mono (by have := HSX.out; omega))
      clear hoz bz HBz HBy X0 X1 K0 K1 FK R0 R1 FR0 FR1 HOW
      go_wp2_with fail
      refine hK.out _ _ ⟨ez0, ez1⟩ (fun hHeld => ?_)
      clear hK K
      try simp only [Act.put, List.setIfInBounds_toArray, List.set_cons_zero, List.set_cons_succ]
      refine' wpAnyH_take (i := 14) (v := ?v26) rfl (by kernel_rfl) (by kernel_rfl) (by kernel_rfl) (fun _ _ _ h => h) (Or.inl ⟨by kernel_rfl, ?hy26⟩) (by assumption) ?rest26
      case hy26 => (intro w hSw; (try dsimp only at hSw); go_simp; try with_reducible rfl)
      try simp only [Act.put, List.setIfInBounds_toArray, List.set_cons_zero, List.set_cons_succ]
      refine' wpAnyH_take (i := 15) (v := ?v27) rfl (by kernel_rfl) (by kernel_rfl) (by kernel_rfl) (fun _ _ _ h => h) (Or.inl ⟨by kernel_rfl, ?hy27⟩) (by assumption) ?rest27
      case hy27 => (intro w hSw; (try dsimp only at hSw); go_simp; try with_reducible rfl)
      try simp only [Act.put, List.setIfInBounds_toArray, List.set_cons_zero, List.set_cons_succ]
      refine' wpAnyH_take (i := 16) (v := ?v28) rfl (by kernel_rfl) (by kernel_rfl) (by kernel_rfl) (fun _ _ _ h => h) (Or.inl ⟨by kernel_rfl, ?hy28⟩) (by assumption) ?rest28
      case hy28 => (intro w hSw; (try dsimp only at hSw); go_simp; try with_reducible rfl)
      try simp only [Act.put, List.setIfInBounds_toArray, List.set_cons_zero, List.set_cons_succ]
      refine wpAnyH_ready (rs := [17]) (by kernel_rfl) (by simp) ?_
      refine AllReadyH.cons rfl (fun K hK => ?_) AllReadyH.nil
      go_simp
      refine hK.out _ _ ⟨(World.cell?_setCell_other _ _ _ _ (by intro e; injection e with e _; omega)).trans ez0, (World.cell?_setCell_other _ _ _ _ (by intro e; injection e with e _; omega)).trans ez1⟩ (fun hHeld => ?_)
      clear hK K
      try simp only [Act.put, List.setIfInBounds_toArray, List.set_cons_zero, List.set_cons_succ]
      refine wpAnyH_done (by kernel_rfl) ?_ _
      refine NoPanic.normal ?_
      go_wp2_with fail
      (try simp only [Exit.inBlock, Exit.then])
      refine bodyPost_cell (V := .agg #[.int .i64 now, .slice (some ⟨gz, 0, none⟩) 1 cz]) rfl rfl ?_ rfl ?_
      · go_simp
      · refine ⟨_, rfl, ?_, ?_⟩
        · have h1 := HSX.out
          have h2 := HGZ.out
          exact ((HZ.out.set_other _ _ (by omega)).set_other _ _ (by omega)).set_other _ _ (by omega)
        · exact ((HBw.out.setCell (p := ⟨w.heap.size + 1 + 1, 1, none⟩) (by dsimp only; omega) _).setCell (p := ⟨w.heap.size + 1, 0, none⟩) (by dsimp only; omega) _).setCell (p := ⟨w.heap.size + 1, 1, none⟩) (by dsimp only; omega) _
end Go.Proofs.Ytffnkgfpbjmkbaa
