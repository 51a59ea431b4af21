/- fill: as much under way as may be. -/
import Derived.Test.YtjgjhjecgdndjaaLinkSend
import Derived.Test.YtjgjhjecgdndjaaConcat
namespace Go.Proofs.Ytjgjhjecgdndjaa
open Go.RowKit
set_option linter.unusedVariables false
set_option linter.unusedSimpArgs false
theorem ownsRow_le' {w : World} {base base' size n : Nat} {e : TypeId} {v : Value} {xs : List Value} (h : w.ownsRow base e size v n xs) (hb : base' ≤ base) : w.ownsRow base' e size v n xs := by
  refine ⟨h.1, ?_⟩
  rcases h.2 with hn | ⟨g, cap, cur, hv, hbg, rest⟩
  · exact .inl hn
  · exact .inr ⟨g, cap, cur, hv, Nat.le_trans hb hbg, rest⟩
theorem cells2' {w : World} {b : Nat} {x y : Value} {t : TypeId} (h : w.heap[b]? = some (.cells #[x, y] t)) : w.cell? ⟨b, 0, none⟩ = some x ∧ w.cell? ⟨b, 1, none⟩ = some y := by
  constructor <;> (unfold World.cell?; simp [h])
theorem sliced0 (A : Option Addr) (k c : Nat) : sliced A 0 k c 1 = .slice A k c := by
  unfold sliced
  cases A with
  | none => simp
  | some a => simp [Addr.add]
theorem StrsN.take {w : World} {A : Option Addr} {n c : Nat} {l : List ByteArray} (h : StrsN w (.slice A n c) l) (k : Nat) (hk : k ≤ l.length) : StrsN w (sliced A 0 k c 1) (l.take k) := by
  obtain ⟨⟨A', c', e, h2, h3, h4⟩, h5⟩ := h
  cases e
  have e1 := sliced0 A k c
  have hl : (l.take k).length = k := by simp; omega
  rw [e1]
  refine ⟨⟨A, c, by rw [hl], by omega, h3, fun hp => ?_⟩, fun n c e => by cases e; exact h5 _ _ rfl⟩
  obtain ⟨b, off, e1, e2, e3⟩ := h4 (by omega)
  refine ⟨b, off, e1, e2, fun j hj => ?_⟩
  rw [hl] at hj
  rw [e3 j (by omega), List.getElem?_take, if_pos hj]
theorem StrsN.drop {w : World} {A : Option Addr} {n c : Nat} {l : List ByteArray} (h : StrsN w (.slice A n c) l) (k : Nat) (hk : k ≤ l.length) : StrsN w (sliced A k n c 1) (l.drop k) := by
  obtain ⟨⟨A', c', e, h2, h3, h4⟩, h5⟩ := h
  cases e
  have hl : (l.drop k).length = l.length - k := by simp
  unfold sliced
  by_cases hc : c = k
  · rw [if_pos hc]
    refine ⟨⟨A, c - k, by rw [hl], by omega, by omega, fun hp => by omega⟩, fun n' c' e => by cases e; omega⟩
  · rw [if_neg hc]
    refine ⟨⟨_, c - k, by rw [hl], by omega, by omega, fun hp => ?_⟩, fun n' c' e => ?_⟩
    · obtain ⟨b, off, e1, e2, e3⟩ := h4 (by omega)
      subst e1
      refine ⟨b, off + k, by simp [Addr.add], e2, fun j hj => ?_⟩
      rw [Nat.add_assoc, e3 (k + j) (by omega), List.getElem?_drop]
    · cases A with
      | none => have := h5 _ _ rfl; simp at e; omega
      | some a => simp at e
/-- a value's block is an older one's -/
def SrcO (old new : Value) : Prop := ∀ b, new.ownBlock = some b → old.ownBlock = some b
/-- .. or new -/
def SrcV (w w' : World) (old new : Value) : Prop := ∀ b, new.ownBlock = some b → old.ownBlock = some b ∨ (w.heap.size ≤ b ∧ b < w'.heap.size)
theorem SrcO.v {old new : Value} (h : SrcO old new) (w w' : World) : SrcV w w' old new := fun b hb => .inl (h b hb)
theorem SrcO.sliced (A : Option Addr) (k n c e m d : Nat) : SrcO (.slice A m d) (sliced A k n c e) := fun b h => by
  unfold Go.sliced at h
  split at h
  · cases A with
    | none => simp [Value.ownBlock] at h
    | some a => simpa [Value.ownBlock] using h
  · cases A with
    | none => simp [Value.ownBlock] at h
    | some a =>
      simp only [Option.map_some, Value.ownBlock, Option.some.injEq] at h ⊢
      rw [← h]
      unfold Addr.add
      split <;> rfl
theorem SrcV.refl (w w' : World) (v : Value) : SrcV w w' v v := fun b h => .inl h
theorem SrcV.owns {w w' : World} {B size n : Nat} {e : TypeId} {v : Value} {xs : List Value} (h : w'.ownsRow B e size v n xs) (hB : w.heap.size ≤ B) (old : Value) {w'' : World} (hw : w'.heap.size ≤ w''.heap.size) : SrcV w w'' old v := fun b hb => .inr ⟨Nat.le_trans hB (h.lt b hb).1, Nat.lt_of_lt_of_le (h.lt b hb).2 hw⟩
theorem SrcV.nil (w w' : World) (v : Value) : SrcV w w' v (.slice none 0 0) := fun b h => by cases h
theorem SrcV.mono {w w' w'' : World} {a b : Value} (h : SrcV w w' a b) (hw : w'.heap.size ≤ w''.heap.size) : SrcV w w'' a b := fun x hx => by
  rcases h x hx with hx | ⟨h1, h2⟩
  · exact .inl hx
  · exact .inr ⟨h1, Nat.lt_of_lt_of_le h2 hw⟩
theorem SrcV.from {w0 w w' : World} {a b : Value} (h : SrcV w w' a b) (hw : w0.heap.size ≤ w.heap.size) : SrcV w0 w' a b := fun x hx => by
  rcases h x hx with hx | ⟨h1, h2⟩
  · exact .inl hx
  · exact .inr ⟨Nat.le_trans hw h1, h2⟩
def FillPost (vw : Value) (bk : Nat) (ses base next idle : Int) (early : Value) (dead : Bool) (L R : List ByteArray) (w0 w w' : World) : Prop := ∃ v' vw', w'.ownsRow w.heap.size 9 1 v' L.length (L.map .string) ∧ (StrsN w0 vw' R ∧ SrcO vw vw') ∧ Box8 bk (.int .u64 ses) (.int .i64 base) v' vw' (.int .i64 next) early (.int .i64 idle) (.bool dead) w' ∧ Below w0.heap.size w0 w' ∧ ∀ b, b < w.heap.size → b ≠ bk → w'.heap[b]? = w.heap[b]?
theorem Box8.set0 {b : Nat} {x0 x1 x2 x3 x4 x5 x6 x7 : Value} {w : World} (h : Box8 b x0 x1 x2 x3 x4 x5 x6 x7 w) (v : Value) : Box8 b v x1 x2 x3 x4 x5 x6 x7 (w.setCell ⟨b, 0, none⟩ v) :=
  ⟨(World.cell?_setCell_same _ _ _ h.c0), ((World.cell?_setCell_other _ _ _ _ (by intro e; cases e)).trans h.c1), ((World.cell?_setCell_other _ _ _ _ (by intro e; cases e)).trans h.c2), ((World.cell?_setCell_other _ _ _ _ (by intro e; cases e)).trans h.c3), ((World.cell?_setCell_other _ _ _ _ (by intro e; cases e)).trans h.c4), ((World.cell?_setCell_other _ _ _ _ (by intro e; cases e)).trans h.c5), ((World.cell?_setCell_other _ _ _ _ (by intro e; cases e)).trans h.c6), ((World.cell?_setCell_other _ _ _ _ (by intro e; cases e)).trans h.c7), fun j => (World.frozen?_setCell _ _ _ _).trans (h.f j), by rw [World.size_setCell]; exact h.lt⟩
theorem Box8.set1 {b : Nat} {x0 x1 x2 x3 x4 x5 x6 x7 : Value} {w : World} (h : Box8 b x0 x1 x2 x3 x4 x5 x6 x7 w) (v : Value) : Box8 b x0 v x2 x3 x4 x5 x6 x7 (w.setCell ⟨b, 1, none⟩ v) :=
  ⟨((World.cell?_setCell_other _ _ _ _ (by intro e; cases e)).trans h.c0), (World.cell?_setCell_same _ _ _ h.c1), ((World.cell?_setCell_other _ _ _ _ (by intro e; cases e)).trans h.c2), ((World.cell?_setCell_other _ _ _ _ (by intro e; cases e)).trans h.c3), ((World.cell?_setCell_other _ _ _ _ (by intro e; cases e)).trans h.c4), ((World.cell?_setCell_other _ _ _ _ (by intro e; cases e)).trans h.c5), ((World.cell?_setCell_other _ _ _ _ (by intro e; cases e)).trans h.c6), ((World.cell?_setCell_other _ _ _ _ (by intro e; cases e)).trans h.c7), fun j => (World.frozen?_setCell _ _ _ _).trans (h.f j), by rw [World.size_setCell]; exact h.lt⟩
theorem Box8.set2 {b : Nat} {x0 x1 x2 x3 x4 x5 x6 x7 : Value} {w : World} (h : Box8 b x0 x1 x2 x3 x4 x5 x6 x7 w) (v : Value) : Box8 b x0 x1 v x3 x4 x5 x6 x7 (w.setCell ⟨b, 2, none⟩ v) :=
  ⟨((World.cell?_setCell_other _ _ _ _ (by intro e; cases e)).trans h.c0), ((World.cell?_setCell_other _ _ _ _ (by intro e; cases e)).trans h.c1), (World.cell?_setCell_same _ _ _ h.c2), ((World.cell?_setCell_other _ _ _ _ (by intro e; cases e)).trans h.c3), ((World.cell?_setCell_other _ _ _ _ (by intro e; cases e)).trans h.c4), ((World.cell?_setCell_other _ _ _ _ (by intro e; cases e)).trans h.c5), ((World.cell?_setCell_other _ _ _ _ (by intro e; cases e)).trans h.c6), ((World.cell?_setCell_other _ _ _ _ (by intro e; cases e)).trans h.c7), fun j => (World.frozen?_setCell _ _ _ _).trans (h.f j), by rw [World.size_setCell]; exact h.lt⟩
theorem Box8.set3 {b : Nat} {x0 x1 x2 x3 x4 x5 x6 x7 : Value} {w : World} (h : Box8 b x0 x1 x2 x3 x4 x5 x6 x7 w) (v : Value) : Box8 b x0 x1 x2 v x4 x5 x6 x7 (w.setCell ⟨b, 3, none⟩ v) :=
  ⟨((World.cell?_setCell_other _ _ _ _ (by intro e; cases e)).trans h.c0), ((World.cell?_setCell_other _ _ _ _ (by intro e; cases e)).trans h.c1), ((World.cell?_setCell_other _ _ _ _ (by intro e; cases e)).trans h.c2), (World.cell?_setCell_same _ _ _ h.c3), ((World.cell?_setCell_other _ _ _ _ (by intro e; cases e)).trans h.c4), ((World.cell?_setCell_other _ _ _ _ (by intro e; cases e)).trans h.c5), ((World.cell?_setCell_other _ _ _ _ (by intro e; cases e)).trans h.c6), ((World.cell?_setCell_other _ _ _ _ (by intro e; cases e)).trans h.c7), fun j => (World.frozen?_setCell _ _ _ _).trans (h.f j), by rw [World.size_setCell]; exact h.lt⟩
theorem Box8.set4 {b : Nat} {x0 x1 x2 x3 x4 x5 x6 x7 : Value} {w : World} (h : Box8 b x0 x1 x2 x3 x4 x5 x6 x7 w) (v : Value) : Box8 b x0 x1 x2 x3 v x5 x6 x7 (w.setCell ⟨b, 4, none⟩ v) :=
  ⟨((World.cell?_setCell_other _ _ _ _ (by intro e; cases e)).trans h.c0), ((World.cell?_setCell_other _ _ _ _ (by intro e; cases e)).trans h.c1), ((World.cell?_setCell_other _ _ _ _ (by intro e; cases e)).trans h.c2), ((World.cell?_setCell_other _ _ _ _ (by intro e; cases e)).trans h.c3), (World.cell?_setCell_same _ _ _ h.c4), ((World.cell?_setCell_other _ _ _ _ (by intro e; cases e)).trans h.c5), ((World.cell?_setCell_other _ _ _ _ (by intro e; cases e)).trans h.c6), ((World.cell?_setCell_other _ _ _ _ (by intro e; cases e)).trans h.c7), fun j => (World.frozen?_setCell _ _ _ _).trans (h.f j), by rw [World.size_setCell]; exact h.lt⟩
theorem Box8.set5 {b : Nat} {x0 x1 x2 x3 x4 x5 x6 x7 : Value} {w : World} (h : Box8 b x0 x1 x2 x3 x4 x5 x6 x7 w) (v : Value) : Box8 b x0 x1 x2 x3 x4 v x6 x7 (w.setCell ⟨b, 5, none⟩ v) :=
  ⟨((World.cell?_setCell_other _ _ _ _ (by intro e; cases e)).trans h.c0), ((World.cell?_setCell_other _ _ _ _ (by intro e; cases e)).trans h.c1), ((World.cell?_setCell_other _ _ _ _ (by intro e; cases e)).trans h.c2), ((World.cell?_setCell_other _ _ _ _ (by intro e; cases e)).trans h.c3), ((World.cell?_setCell_other _ _ _ _ (by intro e; cases e)).trans h.c4), (World.cell?_setCell_same _ _ _ h.c5), ((World.cell?_setCell_other _ _ _ _ (by intro e; cases e)).trans h.c6), ((World.cell?_setCell_other _ _ _ _ (by intro e; cases e)).trans h.c7), fun j => (World.frozen?_setCell _ _ _ _).trans (h.f j), by rw [World.size_setCell]; exact h.lt⟩
theorem Box8.set6 {b : Nat} {x0 x1 x2 x3 x4 x5 x6 x7 : Value} {w : World} (h : Box8 b x0 x1 x2 x3 x4 x5 x6 x7 w) (v : Value) : Box8 b x0 x1 x2 x3 x4 x5 v x7 (w.setCell ⟨b, 6, none⟩ v) :=
  ⟨((World.cell?_setCell_other _ _ _ _ (by intro e; cases e)).trans h.c0), ((World.cell?_setCell_other _ _ _ _ (by intro e; cases e)).trans h.c1), ((World.cell?_setCell_other _ _ _ _ (by intro e; cases e)).trans h.c2), ((World.cell?_setCell_other _ _ _ _ (by intro e; cases e)).trans h.c3), ((World.cell?_setCell_other _ _ _ _ (by intro e; cases e)).trans h.c4), ((World.cell?_setCell_other _ _ _ _ (by intro e; cases e)).trans h.c5), (World.cell?_setCell_same _ _ _ h.c6), ((World.cell?_setCell_other _ _ _ _ (by intro e; cases e)).trans h.c7), fun j => (World.frozen?_setCell _ _ _ _).trans (h.f j), by rw [World.size_setCell]; exact h.lt⟩
theorem Box8.set7 {b : Nat} {x0 x1 x2 x3 x4 x5 x6 x7 : Value} {w : World} (h : Box8 b x0 x1 x2 x3 x4 x5 x6 x7 w) (v : Value) : Box8 b x0 x1 x2 x3 x4 x5 x6 v (w.setCell ⟨b, 7, none⟩ v) :=
  ⟨((World.cell?_setCell_other _ _ _ _ (by intro e; cases e)).trans h.c0), ((World.cell?_setCell_other _ _ _ _ (by intro e; cases e)).trans h.c1), ((World.cell?_setCell_other _ _ _ _ (by intro e; cases e)).trans h.c2), ((World.cell?_setCell_other _ _ _ _ (by intro e; cases e)).trans h.c3), ((World.cell?_setCell_other _ _ _ _ (by intro e; cases e)).trans h.c4), ((World.cell?_setCell_other _ _ _ _ (by intro e; cases e)).trans h.c5), ((World.cell?_setCell_other _ _ _ _ (by intro e; cases e)).trans h.c6), (World.cell?_setCell_same _ _ _ h.c7), fun j => (World.frozen?_setCell _ _ _ _).trans (h.f j), by rw [World.size_setCell]; exact h.lt⟩
theorem fill_done (vw : Value) (bk B : Nat) (ses base next idle : Int) (early : Value) (dead : Bool) (L R : List ByteArray) (w0 w wc : World) (v3 v13 o2 o3 : Value) (ho : wc.ownsRow B 9 1 v3 L.length (L.map .string)) (h1 : bk < B) (h2 : w.heap.size ≤ B) (h3 : w0.heap.size ≤ bk)
    (hx : Box8 bk (.int .u64 ses) (.int .i64 base) o2 o3 (.int .i64 next) early (.int .i64 idle) (.bool dead) wc) (hb : Below w0.heap.size w0 wc) (hw : Below w.heap.size w wc) (hT : StrsN w0 v13 R ∧ SrcO vw v13) : FillPost vw bk ses base next idle early dead L R w0 w ((wc.setCell ⟨bk, 2, none⟩ v3).setCell ⟨bk, 3, none⟩ v13) :=
  ⟨v3, v13, ownsRow_le' (ownsRow_setCell_below (ownsRow_setCell_below ho (a := ⟨bk, 2, none⟩) h1 _) (a := ⟨bk, 3, none⟩) h1 _) h2, hT, (hx.set2 v3).set3 v13, (hb.setCell (p := ⟨bk, 2, none⟩) h3 _).setCell (p := ⟨bk, 3, none⟩) h3 _, fun b hb hne => by
    rw [Below.heap_setCell _ _ _ _ (by dsimp only; exact hne), Below.heap_setCell _ _ _ _ (by dsimp only; exact hne)]
    exact hw.block b hb⟩
set_option maxRecDepth 20000 in
set_option maxHeartbeats 2000000 in
theorem fill_any (bk : Nat) (ses base next idle : Int) (vo vw early : Value) (dead : Bool) (lo lw L : List ByteArray) (k : Nat) (w0 w : World) (hx : Box8 bk (.int .u64 ses) (.int .i64 base) vo vw (.int .i64 next) early (.int .i64 idle) (.bool dead) w) (hb : Below w0.heap.size w0 w) (hbk : w0.heap.size ≤ bk) (ho : StrsN w0 vo lo) (hw : StrsN w0 vw lw) (h4 : lo.length ≤ 4) (hlw : lw.length ≤ 100000) (hk : k = min (4 - lo.length) lw.length) (hL : L = lo ++ lw.take k) :
    Calls Try.prog 31 #[.pointer (some ⟨bk, 0, none⟩)] w fun e w' => e = .returned (.tuple #[]) ∧ FillPost vw bk ses base next idle early dead L (lw.drop k) w0 w w' := by
  have HL := Lib.hid hL
  have HX := Lib.hid hx
  have HO := Lib.hid ho
  have HWT := Lib.hid hw
  have HB := Lib.hid hb
  obtain ⟨A, ca, rfl, _, hca⟩ := ho.1.len
  obtain ⟨A2, cb, rfl, hcb, hcb2⟩ := hw.1.len
  have hkl : k ≤ lw.length := by omega
  have hkc : (k : Int) ≤ (cb : Int) := by omega
  have hkl' : (k : Int) ≤ (lw.length : Int) := by omega
  have hcb9 : cb ≤ 9223372036854775807 := by unfold maxLen at hcb2; omega
  have hsub : IntKind.i64.wrap (4 - (lo.length : Int)) = 4 - (lo.length : Int) := by rw [IntKind.wrap_i64]; omega
  have hmin : min (4 - (lo.length : Int)) (lw.length : Int) = (k : Int) := by omega
  have HT12 : Hid (StrsN w0 (.slice A2 k cb) (lw.take k)) := by unfold Hid; rw [← sliced0]; exact hw.take k hkl
  have HT13 : Hid (StrsN w0 (sliced A2 k lw.length cb 1) (lw.drop k)) := hw.drop k hkl
  have HS13 : Hid (SrcO (.slice A2 lw.length cb) (sliced A2 k lw.length cb 1)) := SrcO.sliced _ _ _ _ _ _ _
  have x2 := HX.out.c2
  have x3 := HX.out.c3
  clear hL hx ho hw hb hcb hcb2 hca hk hkl
  go_enter Try.func31, Try.ntmps31
  go_wp2_with fail
  go_quiet (fail)
  go_wp2_with fail
  clear hsub hmin
  refine wp_region_noPanic ?_
  refine wp_region_held_drew (S := fun w' => w'.cell? ⟨bk, 3, none⟩ = some (.slice A2 lw.length cb)) (by kernel_rfl) x3 (fun hHeld => ?_)
  have HB1 : Hid (Below w.heap.size w (w.drewN nq).drew) := (Below.drewN (Below.refl _ _) nq).drew
  obtain ⟨wa, hwa⟩ : ∃ wa, wa = (w.drewN nq).drew := ⟨_, rfl⟩
  rw [← hwa] at HB1 hHeld ⊢
  clear hwa nq
  have y2 := (HB1.out.cell (p := ⟨bk, 2, none⟩) HX.out.lt).trans x2
  refine' wpAnyH_take (i := 0) (v := ?v1) rfl (by kernel_rfl) (by kernel_rfl) (by kernel_rfl) (fun _ _ _ h => h) (Or.inl ⟨by kernel_rfl, ?hy1⟩) (by assumption) ?rest1
  case hy1 => (intro w hSw; (try dsimp only at hSw); go_simp; try with_reducible rfl)
  try simp only [Act.put, List.setIfInBounds_toArray, List.set_cons_zero, List.set_cons_succ]
  refine' wpAnyH_take (i := 1) (v := ?v2) rfl (by kernel_rfl) (by kernel_rfl) (by kernel_rfl) (fun _ _ _ h => h) (Or.inl ⟨by kernel_rfl, ?hy2⟩) (by assumption) ?rest2
  case hy2 => (intro w hSw; (try dsimp only at hSw); go_simp; try with_reducible rfl)
  try simp only [Act.put, List.setIfInBounds_toArray, List.set_cons_zero, List.set_cons_succ]
  refine' wpAnyH_take (i := 2) (v := ?v3) rfl (by kernel_rfl) (by kernel_rfl) (by kernel_rfl) (fun _ _ _ h => h) (Or.inl ⟨by kernel_rfl, ?hy3⟩) (by assumption) ?rest3
  case hy3 => (intro w hSw; (try dsimp only at hSw); go_simp; try with_reducible rfl)
  try simp only [Act.put, List.setIfInBounds_toArray, List.set_cons_zero, List.set_cons_succ]
  refine' wpAnyH_take (i := 3) (v := ?v4) rfl (by kernel_rfl) (by kernel_rfl) (by kernel_rfl) (fun _ _ _ h => h) (Or.inl ⟨by kernel_rfl, ?hy4⟩) (by assumption) ?rest4
  case hy4 => (intro w hSw; (try dsimp only at hSw); go_simp; try with_reducible rfl)
  try simp only [Act.put, List.setIfInBounds_toArray, List.set_cons_zero, List.set_cons_succ]
  refine' wpAnyH_take (i := 4) (v := ?v5) rfl (by kernel_rfl) (by kernel_rfl) (by kernel_rfl) (fun _ _ _ h => h) (Or.inl ⟨by kernel_rfl, ?hy5⟩) (by assumption) ?rest5
  case hy5 => (intro w hSw; (try dsimp only at hSw); go_simp; try with_reducible rfl)
  try simp only [Act.put, List.setIfInBounds_toArray, List.set_cons_zero, List.set_cons_succ]
  refine' wpAnyH_take (i := 6) (v := ?v6) rfl (by kernel_rfl) (by kernel_rfl) (by kernel_rfl) (fun _ _ _ h => h) (Or.inl ⟨by kernel_rfl, ?hy6⟩) (by assumption) ?rest6
  case hy6 => (intro w hSw; (try dsimp only at hSw); go_simp; try with_reducible rfl)
  try simp only [Act.put, List.setIfInBounds_toArray, List.set_cons_zero, List.set_cons_succ]
  refine' wpAnyH_take (i := 7) (v := ?v7) rfl (by kernel_rfl) (by kernel_rfl) (by kernel_rfl) (fun _ _ _ h => h) (Or.inl ⟨by kernel_rfl, ?hy7⟩) (by assumption) ?rest7
  case hy7 => (intro w hSw; (try dsimp only at hSw); go_simp; try with_reducible rfl)
  try simp only [Act.put, List.setIfInBounds_toArray, List.set_cons_zero, List.set_cons_succ]
  refine' wpAnyH_take (i := 8) (v := ?v8) rfl (by kernel_rfl) (by kernel_rfl) (by kernel_rfl) (fun _ _ _ h => h) (Or.inl ⟨by kernel_rfl, ?hy8⟩) (by assumption) ?rest8
  case hy8 => (intro w hSw; (try dsimp only at hSw); go_simp; try with_reducible rfl)
  try simp only [Act.put, List.setIfInBounds_toArray, List.set_cons_zero, List.set_cons_succ]
  refine' wpAnyH_take (i := 9) (v := ?v9) rfl (by kernel_rfl) (by kernel_rfl) (by kernel_rfl) (fun _ _ _ h => h) (Or.inl ⟨by kernel_rfl, ?hy9⟩) (by assumption) ?rest9
  case hy9 => (intro w hSw; (try dsimp only at hSw); go_simp; try with_reducible rfl)
  try simp only [Act.put, List.setIfInBounds_toArray, List.set_cons_zero, List.set_cons_succ]
  refine wpAnyH_take (i := 10) (v := .slice A2 lw.length cb) rfl (by kernel_rfl) (by kernel_rfl) (by kernel_rfl) (fun _ _ _ h => h) (Or.inl ⟨by kernel_rfl, ?_⟩) hHeld ?_
  · intro w hSw
    have hh := hSw
    go_simp
  try simp only [Act.put, List.setIfInBounds_toArray, List.set_cons_zero, List.set_cons_succ]
  refine' wpAnyH_take (i := 11) (v := ?v10) rfl (by kernel_rfl) (by kernel_rfl) (by kernel_rfl) (fun _ _ _ h => h) (Or.inl ⟨by kernel_rfl, ?hy10⟩) (by assumption) ?rest10
  case hy10 => (intro w hSw; (try dsimp only at hSw); go_simp; try with_reducible rfl)
  try simp only [Act.put, List.setIfInBounds_toArray, List.set_cons_zero, List.set_cons_succ]
  refine wpAnyH_take (i := 12) (v := .slice A2 k cb) rfl (by kernel_rfl) (by kernel_rfl) (by kernel_rfl) (fun _ _ _ h => h) (Or.inl ⟨by kernel_rfl, ?_⟩) hHeld ?_
  · intro w hSw
    go_simp
  try simp only [Act.put, List.setIfInBounds_toArray, List.set_cons_zero, List.set_cons_succ]
  refine wpAnyH_ready (rs := [5]) (by kernel_rfl) (by simp) ?_
  refine AllReadyH.cons rfl (fun K hK => ?_) AllReadyH.nil
  go_simp
  refine hK.out _ _ hHeld (fun hHeld => ?_)
  clear hK K
  try simp only [Act.put, List.setIfInBounds_toArray, List.set_cons_zero, List.set_cons_succ]
  refine wpAnyH_ready (rs := [13]) (by kernel_rfl) (by simp) ?_
  refine AllReadyH.cons rfl (fun K hK => ?_) AllReadyH.nil
  go_simp
  have HB2 : Hid (Below w.heap.size w (wa.alloc (.cells #[.slice A lo.length ca, .slice A2 k cb] 33))) := HB1.out.alloc HB1.out.size _
  have hnew := cells2' (heap_alloc_new wa (.cells #[.slice A lo.length ca, .slice A2 k cb] 33))
  have hsz : wa.heap.size < (wa.alloc (.cells #[.slice A lo.length ca, .slice A2 k cb] 33)).heap.size := by simp
  have hwlt := HB1.out.size
  obtain ⟨wb, hwb⟩ : ∃ wb, wb = wa.alloc (.cells #[.slice A lo.length ca, .slice A2 k cb] 33) := ⟨_, rfl⟩
  rw [← hwb] at HB2 hnew hsz ⊢
  obtain ⟨n0, n1⟩ := hnew
  clear hwb
  refine hK.out _ _ ((HB2.out.cell (p := ⟨bk, 3, none⟩) HX.out.lt).trans x3) (fun hHeld => ?_)
  clear hK K y2
  try simp only [Act.put, List.setIfInBounds_toArray, List.set_cons_zero, List.set_cons_succ]
  refine wpAnyH_ready (rs := [14]) (by kernel_rfl) (by simp) ?_
  refine AllReadyH.cons rfl (fun K hK => ?_) AllReadyH.nil
  go_simp
  go_at_call 50
  have HC := concat2 wb wa.heap.size _ _ lo (lw.take k) n0 n1 ((HO.out.below HB.out (Nat.le_refl _)).below HB2.out (Nat.le_refl _)) ((HT12.out.below HB.out (Nat.le_refl _)).below HB2.out (Nat.le_refl _)) (by omega) (by simp; omega) hsz
  rw [← HL.out] at HC
  refine HC.mono ?_
  rintro er wc ⟨v3, rfl, ow, bw⟩
  have HOW := Lib.hid ow
  obtain ⟨A3, c3, hv3, _, _⟩ := (StrsN.of_owns ow).1.len
  subst hv3
  have HB3 : Hid (Below w.heap.size w wc) := HB2.out.trans (bw.mono HB2.out.size)
  have hsw := HB2.out.size
  clear HC ow bw hHeld n0 n1
  have z2 := (HB3.out.cell (p := ⟨bk, 2, none⟩) HX.out.lt).trans x2
  have z3 := (HB3.out.cell (p := ⟨bk, 3, none⟩) HX.out.lt).trans x3
  have f2 := (HB3.out.frozen (p := ⟨bk, 2, none⟩) HX.out.lt).trans (HX.out.f 2)
  have f3 := (HB3.out.frozen (p := ⟨bk, 3, none⟩) HX.out.lt).trans (HX.out.f 3)
  clear x2 x3
  go_wp2_with fail
  refine hK.out _ _ z3 (fun hHeld => ?_)
  clear hK K
  try simp only [Act.put, List.setIfInBounds_toArray, List.set_cons_zero, List.set_cons_succ]
  refine' wpAnyH_take (i := 15) (v := ?v11) rfl (by kernel_rfl) (by kernel_rfl) (by kernel_rfl) (fun _ _ _ h => h) (Or.inl ⟨by kernel_rfl, ?hy11⟩) (by assumption) ?rest11
  case hy11 => (intro w hSw; (try dsimp only at hSw); go_simp; try with_reducible rfl)
  try simp only [Act.put, List.setIfInBounds_toArray, List.set_cons_zero, List.set_cons_succ]
  refine' wpAnyH_take (i := 16) (v := ?v12) rfl (by kernel_rfl) (by kernel_rfl) (by kernel_rfl) (fun _ _ _ h => h) (Or.inl ⟨by kernel_rfl, ?hy12⟩) (by assumption) ?rest12
  case hy12 => (intro w hSw; (try dsimp only at hSw); go_simp; try with_reducible rfl)
  try simp only [Act.put, List.setIfInBounds_toArray, List.set_cons_zero, List.set_cons_succ]
  refine' wpAnyH_take (i := 17) (v := ?v13) rfl (by kernel_rfl) (by kernel_rfl) (by kernel_rfl) (fun _ _ _ h => h) (Or.inl ⟨by kernel_rfl, ?hy13⟩) (by assumption) ?rest13
  case hy13 => (intro w hSw; (try dsimp only at hSw); go_simp; try with_reducible rfl)
  try simp only [Act.put, List.setIfInBounds_toArray, List.set_cons_zero, List.set_cons_succ]
  refine wpAnyH_ready (rs := [18]) (by kernel_rfl) (by simp) ?_
  refine AllReadyH.cons rfl (fun K hK => ?_) AllReadyH.nil
  go_simp
  refine hK.out _ _ (by refine (World.cell?_setCell_other _ _ _ _ ?_).trans z3; intro e; cases e) (fun hHeld => ?_)
  clear hK K
  refine wpAnyH_done (by kernel_rfl) ?_ _
  refine NoPanic.normal ?_
  go_wp2_with fail
  all_goals
    go_end0
    exact ⟨rfl, fill_done _ bk wb.heap.size ses base next idle early dead L (lw.drop k) w0 w wc _ _ _ _ HOW.out (Nat.lt_of_lt_of_le HX.out.lt hsw) hsw hbk (HX.out.below HB3.out HX.out.lt) (HB.out.trans (HB3.out.mono HB.out.size)) HB3.out ⟨(by simpa [sliced, *] using HT13.out), (by first | simpa [sliced, *] using HS13.out | exact HS13.out)⟩⟩
end Go.Proofs.Ytjgjhjecgdndjaa
