/- varint.Take: its walk. -/
import Derived.RangeFuncFrom
import Derived.RangeFuncNested
import Derived.RangeFuncBound
import Derived.RangeFuncCalls
import Derived.RangeFuncLeaves
import Derived.Shelf.Abstract
import Derived.Shelf.RegionOpen
import Derived.WalkKit
import Derived.OwnWalkIn
import Derived.TacticsInMore
import Derived.LoopNIn
import Derived.LoopIn
import Derived.Lib.Hide
import Derived.IntWalk
import Derived.Test.YtjgjhjecgdndjaaWords
import Derived.Test.YtjgjhjecgdndjaaVarintSpec
import Derived.RangeFuncBox
import Derived.Test.YtjgjhjecgdndjaaProg
import Derived.Test.YtjgjhjecgdndjaaVarintIter
namespace Go.Proofs.Ytjgjhjecgdndjaa
open Go.RowKit Go.Shelf
attribute [local go_sem] Oper.semAt_some
theorem boxed_keep {W W' : World} {B : Nat} {t : TypeId} {v : Value} {row : Option Nat} (h : Boxed W B t v) (hg : W.grownBy W' row) (hr : ∀ r, row = some r → ∃ o : Obj, W.heap[r]? = some o ∧ o.isCells = false) : Boxed W' B t v :=
  boxed_own B t (fun _ : Unit => v) () W W' row h hg hr
structure TakeC (B : Nat) (r0 r1 r2 n i : Int) (W : World) : Prop where
  c0 : Boxed W B 22 (.int .u64 r0)
  c1 : Boxed W (B + 1) 3 (.int .i64 r1)
  c2 : Boxed W (B + 1 + 1) 26 (.int .i64 r2)
  c3 : Boxed W (B + 1 + 1 + 1) 22 (.int .u64 n)
  c4 : Boxed W (B + 1 + 1 + 1 + 1) 3 (.int .i64 i)
theorem TakeC.own {B : Nat} {r0 r1 r2 n i : Int} {W W' : World} {row : Option Nat} (h : TakeC B r0 r1 r2 n i W) (hg : W.grownBy W' row) (hr : ∀ r, row = some r → ∃ o : Obj, W.heap[r]? = some o ∧ o.isCells = false) : TakeC B r0 r1 r2 n i W' :=
  ⟨boxed_keep h.c0 hg hr, boxed_keep h.c1 hg hr, boxed_keep h.c2 hg hr, boxed_keep h.c3 hg hr, boxed_keep h.c4 hg hr⟩
theorem boxed_drew {W : World} {B : Nat} {t : TypeId} {v : Value} (h : Boxed W B t v) : Boxed W.drew B t v := h
theorem TakeC.setN {B : Nat} {r0 r1 r2 n i : Int} {W : World} (h : TakeC B r0 r1 r2 n i W) (n' : Int) : TakeC B r0 r1 r2 n' i (W.setCell ⟨B + 1 + 1 + 1, 0, none⟩ (.int .u64 n')) :=
  ⟨h.c0.other (by omega) _, h.c1.other (by omega) _, h.c2.other (by omega) _, h.c3.set _, h.c4.other (by omega) _⟩
theorem TakeC.setI {B : Nat} {r0 r1 r2 n i : Int} {W : World} (h : TakeC B r0 r1 r2 n i W) (i' : Int) : TakeC B r0 r1 r2 n i' (W.setCell ⟨B + 1 + 1 + 1 + 1, 0, none⟩ (.int .i64 i')) :=
  ⟨h.c0.other (by omega) _, h.c1.other (by omega) _, h.c2.other (by omega) _, h.c3.other (by omega) _, h.c4.set _⟩
theorem TakeC.set0 {B : Nat} {r0 r1 r2 n i : Int} {W : World} (h : TakeC B r0 r1 r2 n i W) (v : Int) : TakeC B v r1 r2 n i (W.setCell ⟨B, 0, none⟩ (.int .u64 v)) :=
  ⟨h.c0.set _, h.c1.other (by omega) _, h.c2.other (by omega) _, h.c3.other (by omega) _, h.c4.other (by omega) _⟩
theorem TakeC.set1 {B : Nat} {r0 r1 r2 n i : Int} {W : World} (h : TakeC B r0 r1 r2 n i W) (v : Int) : TakeC B r0 v r2 n i (W.setCell ⟨B + 1, 0, none⟩ (.int .i64 v)) :=
  ⟨h.c0.other (by omega) _, h.c1.set _, h.c2.other (by omega) _, h.c3.other (by omega) _, h.c4.other (by omega) _⟩
theorem TakeC.set2 {B : Nat} {r0 r1 r2 n i : Int} {W : World} (h : TakeC B r0 r1 r2 n i W) (v : Int) : TakeC B r0 r1 v n i (W.setCell ⟨B + 1 + 1, 0, none⟩ (.int .i64 v)) :=
  ⟨h.c0.other (by omega) _, h.c1.other (by omega) _, h.c2.set _, h.c3.other (by omega) _, h.c4.other (by omega) _⟩
theorem TakeC.drew {B : Nat} {r0 r1 r2 n i : Int} {W : World} (h : TakeC B r0 r1 r2 n i W) : TakeC B r0 r1 r2 n i W.drew := ⟨h.c0, h.c1, h.c2, h.c3, h.c4⟩
def TakeQ (pre : List UInt8) : Prop := vHigh pre ∧ pre.length ≤ 9
def TakeX (c : Code) (pre : List UInt8) (r : Nat × Nat × Nat) : Prop := c = .ret ∧ ∃ q x, pre = q ++ [x] ∧ vHigh q ∧ q.length ≤ 9 ∧ vEnds q x ∧ r = vOut q x
theorem boxed_new (W : World) (t : TypeId) (v : Value) {B : Nat} (h : W.heap.size = B) : Boxed (W.alloc (.cells #[v] t)) B t v := by subst h; exact Boxed.new W t v
theorem six_boxes (w : World) (s : ByteArray) : TakeC w.heap.size 0 0 0 0 0 ((((((w.alloc (Obj.cells #[Value.int IntKind.u64 0] 22)).alloc (Obj.cells #[Value.int IntKind.i64 0] 3)).alloc (Obj.cells #[Value.int IntKind.i64 0] 26)).alloc (Obj.cells #[Value.int IntKind.u64 0] 22)).alloc (Obj.cells #[Value.int IntKind.i64 0] 3)).alloc (Obj.cells #[Value.string s] 9)) :=
  ⟨(((((boxed_new _ _ _ (by simp)).alloc _).alloc _).alloc _).alloc _).alloc _, ((((boxed_new _ _ _ (by simp)).alloc _).alloc _).alloc _).alloc _, (((boxed_new _ _ _ (by simp)).alloc _).alloc _).alloc _, ((boxed_new _ _ _ (by simp)).alloc _).alloc _, (boxed_new _ _ _ (by simp)).alloc _⟩
theorem six_cell (w : World) (s : ByteArray) : ((((((w.alloc (Obj.cells #[Value.int IntKind.u64 0] 22)).alloc (Obj.cells #[Value.int IntKind.i64 0] 3)).alloc (Obj.cells #[Value.int IntKind.i64 0] 26)).alloc (Obj.cells #[Value.int IntKind.u64 0] 22)).alloc (Obj.cells #[Value.int IntKind.i64 0] 3)).alloc (Obj.cells #[Value.string s] 9)).cell? ⟨w.heap.size + 1 + 1 + 1 + 1 + 1, 0, none⟩ = some (.string s) :=
  (boxed_new _ _ _ (by simp)).cell
theorem vShl {P : Program} (m l : Nat) (hl : l ≤ 9) (hm : m < 128) (h9 : l = 9 → m ≤ 1) (W : World) : (Op.shift .shl .u64 (m : Int) .i64 (7 * (l : Int))).run P W = .ok (.int .u64 ((m * 2 ^ (7 * l) : Nat) : Int)) W := by
  have hlt : m * 2 ^ (7 * l) < 18446744073709551616 := by
    rcases Nat.lt_or_ge l 9 with h | h
    · have h2 : 2 ^ (7 * l) ≤ 2 ^ 56 := Nat.pow_le_pow_right (by decide) (by omega)
      calc m * 2 ^ (7 * l) ≤ 127 * 2 ^ 56 := Nat.mul_le_mul (by omega) h2
        _ < 18446744073709551616 := by decide
    · obtain rfl : l = 9 := by omega
      have := h9 rfl
      calc m * 2 ^ (7 * 9) ≤ 1 * 2 ^ 63 := Nat.mul_le_mul this (Nat.le_refl _)
        _ < 18446744073709551616 := by decide
  have e1 : ¬ (7 * (l : Int)) < 0 := by omega
  have e2 : (7 * (l : Int)).toNat = 7 * l := by omega
  unfold Op.shift
  rw [if_neg e1, e2]
  have e3 : min (7 * l) IntKind.u64.bits = 7 * l := by rw [show IntKind.u64.bits = 64 from rfl]; omega
  simp only [e3, Sem.run_pure]
  have e4 : (m : Int) * 2 ^ (7 * l) = ((m * 2 ^ (7 * l) : Nat) : Int) := by simp
  rw [e4]
  generalize m * 2 ^ (7 * l) = q at *
  congr 2
  rw [IntKind.wrap_u64]
  omega
theorem vOr (n m l : Nat) (hn : n < 2 ^ (7 * l)) (hl : l ≤ 9) (hs : m * 2 ^ (7 * l) < 18446744073709551616) : bits .or .u64 (n : Int) ((m * 2 ^ (7 * l) : Nat) : Int) = ((n + m * 2 ^ (7 * l) : Nat) : Int) := by
  have h2 : 2 ^ (7 * l) ≤ 2 ^ 63 := Nat.pow_le_pow_right (by decide) (by omega)
  rw [u64_or_nat _ _ (by omega) hs, Nat.or_comm, nat_join (7 * l) _ _ (by simp) hn, Nat.add_comm]
theorem vOrShl (pre : List UInt8) (x : UInt8) (hl : pre.length ≤ 9) (h : pre.length = 9 → x.toNat % 128 ≤ 1) :
    bits .or .u64 (vNum pre : Int) (IntKind.u64.wrap ((x.toNat : Int) % 128 * 2 ^ (7 * pre.length))) = (vNum (pre ++ [x]) : Int) := by
  have hm : x.toNat % 128 < 128 := Nat.mod_lt _ (by decide)
  have hlt : x.toNat % 128 * 2 ^ (7 * pre.length) < 18446744073709551616 := by
    rcases Nat.lt_or_ge pre.length 9 with hh9 | hh9
    · have h2 : 2 ^ (7 * pre.length) ≤ 2 ^ 56 := Nat.pow_le_pow_right (by decide) (by omega)
      calc x.toNat % 128 * 2 ^ (7 * pre.length) ≤ 127 * 2 ^ 56 := Nat.mul_le_mul (by omega) h2
        _ < 18446744073709551616 := by decide
    · have e : pre.length = 9 := by omega
      have := h e
      rw [e]
      calc x.toNat % 128 * 2 ^ (7 * 9) ≤ 1 * 2 ^ 63 := Nat.mul_le_mul this (Nat.le_refl _)
        _ < 18446744073709551616 := by decide
  have e1 : (x.toNat : Int) % 128 * 2 ^ (7 * pre.length) = ((x.toNat % 128 * 2 ^ (7 * pre.length) : Nat) : Int) := by simp
  have e2 : IntKind.u64.wrap ((x.toNat % 128 * 2 ^ (7 * pre.length) : Nat) : Int) = ((x.toNat % 128 * 2 ^ (7 * pre.length) : Nat) : Int) := by
    generalize x.toNat % 128 * 2 ^ (7 * pre.length) = q at *
    rw [IntKind.wrap_u64]; omega
  rw [e1, e2, vOr _ _ _ (vNum_lt _) hl hlt, vNum_snoc]
def TakeI (B : Nat) (pre : List UInt8) (W : World) : Prop := TakeQ pre ∧ TakeC B 0 0 0 (vNum pre) pre.length W
def TakeIx (B : Nat) (c : Code) (pre : List UInt8) (W : World) : Prop := ∃ (r : Nat × Nat × Nat) (n i : Int), TakeX c pre r ∧ TakeC B (r.1 : Nat) (r.2.1 : Nat) (r.2.2 : Nat) n i W
set_option maxRecDepth 100000 in
set_option maxHeartbeats 16000000 in
theorem take_in (s : ByteArray) (hs : s.size ≤ maxLen) (w : World) :
    CallsIn Fence.wide 10 Try.prog 20 #[.string s] w fun e W' => e = .returned (.tuple #[.int .u64 ((vTake s.data.toList).1 : Nat), .int .i64 ((vTake s.data.toList).2.1 : Nat), .int .i64 ((vTake s.data.toList).2.2 : Nat)]) ∧ Below w.heap.size w W' := by
  have hro : Fence.wide.round = none := rfl
  have h25 : Fence.wide.fn 20 := trivial
  have h51 : Fence.wide.fn 41 := trivial
  have h54 : Fence.wide.fn 59 := trivial
  refine callsIn_of_wp_marks Try.func20 rfl h25 ?_ hro
  simp only [Try.ntmps20, List.size_toArray, List.length_cons, List.length_nil, Nat.reduceAdd, Nat.reduceSub, Array.replicate_succ, Array.replicate_zero, List.push_toArray, List.append_toArray, List.nil_append, List.cons_append]
  gi_wp2_with (gi_at_call 41; refine (groups_in Fence.wide (10 - 1) h51 hro _ _).mono ?_; rintro e w' ⟨rfl, rfl⟩)
  obtain ⟨W0, hW0⟩ : ∃ W0, ((((((w.alloc (Obj.cells #[Value.int IntKind.u64 0] 22)).alloc (Obj.cells #[Value.int IntKind.i64 0] 3)).alloc (Obj.cells #[Value.int IntKind.i64 0] 26)).alloc (Obj.cells #[Value.int IntKind.u64 0] 22)).alloc (Obj.cells #[Value.int IntKind.i64 0] 3)).alloc (Obj.cells #[Value.string s] 9)) = W0 := ⟨_, rfl⟩
  have hC : TakeC w.heap.size 0 0 0 0 0 W0 := by
    rw [← hW0]
    exact six_boxes w s
  have hB0 : Below w.heap.size w W0 := by
    rw [← hW0]
    exact ((((((Below.refl _ w).alloc (Nat.le_refl _) _).alloc (by simp) _).alloc (by simp; omega) _).alloc (by simp; omega) _).alloc (by simp; omega) _).alloc (by simp; omega) _
  have hs0 : W0.cell? ⟨w.heap.size + 1 + 1 + 1 + 1 + 1, 0, none⟩ = some (.string s) := by rw [← hW0]; exact six_cell w s
  have hsz : w.heap.size + 6 ≤ W0.heap.size := by rw [← hW0]; simp
  rw [hW0]
  clear hW0
  refine wpIn_rangeFunc_ownF hro (by decide) (gf := 59) (lb := #[.pointer (some ⟨w.heap.size + 1 + 1 + 1 + 1 + 1, 0, none⟩)]) rfl h54 (enters_of Try.func59 (by kernel_rfl) rfl)
    (groups1_stops Fence.wide (10 - 1) h54 hro (by decide) (w.heap.size + 1 + 1 + 1 + 1 + 1) s hs W0 hs0 (by omega)) kpCell_t (fun W l o o' _ h hc _ => kpCell_b W l o o' h hc) (Below.refl _ _) (fun _ => rfl)
    (fun pre W => TakeI w.heap.size pre W ∧ Below w.heap.size w W)
    (fun c pre W => TakeIx w.heap.size c pre W ∧ Below w.heap.size w W)
    (OwnFrom.and (Own.from (fun s A B row hs hg hr => ⟨hs.1, hs.2.own hg hr⟩) _) (ownFrom_below (Nat.le_refl _) (by omega)))
    (fun c => OwnFrom.and (Own.from (fun s A B row hs hg hr => by obtain ⟨r, n, i, h1, h2⟩ := hs; exact ⟨r, n, i, h1, h2.own hg hr⟩) _) (ownFrom_below (Nat.le_refl _) (by omega)))
    ⟨⟨⟨by intro x hx; simp at hx, by simp⟩, hC⟩, hB0⟩
    (fun c => { tmps := #[.string s, undef, .pointer (some ⟨w.heap.size, 0, none⟩), .pointer (some ⟨w.heap.size + 1, 0, none⟩), .pointer (some ⟨w.heap.size + 1 + 1, 0, none⟩), .pointer (some ⟨w.heap.size + 1 + 1 + 1, 0, none⟩), .pointer (some ⟨w.heap.size + 1 + 1 + 1 + 1, 0, none⟩), .int .u64 ((c.toNat : Int) % 128), .bool (decide ((c.toNat : Int) < 128)), .string s, .func (.func 59) #[] #[.pointer (some ⟨w.heap.size + 1 + 1 + 1 + 1 + 1, 0, none⟩)], .int .u64 ((c.toNat : Int) % 128), .bool (decide ((c.toNat : Int) < 128)), undef, undef, undef, undef, undef, undef, undef, undef, undef, undef, undef, undef, undef, undef, undef, undef, undef, undef, undef, undef, undef, undef, undef, undef, undef, undef, undef, undef], defers := [] }) ?assign ?body ?done ?stop
  case assign =>
    intro l x W K hK
    dsimp only [gEnc]
    gi_wp2
    exact hK
  case body =>
    rintro l pre x W ⟨⟨⟨hh, hl⟩, ⟨b0, b1, b2, b3, b4⟩⟩, hB⟩ _
    have d0 := b0.cell; have d1 := b1.cell; have d2 := b2.cell; have d3 := b3.cell; have d4 := b4.cell
    have f0 := b0.frozen; have f1 := b1.frozen; have f2 := b2.frozen; have f3 := b3.frozen; have f4 := b4.frozen
    have hx := x.toNat_lt
    have hn : vNum pre < 2 ^ 63 := by
      have := vNum_lt pre
      have h2 : 2 ^ (7 * pre.length) ≤ 2 ^ 63 := Nat.pow_le_pow_right (by decide) (by omega)
      omega
    have hmix : Try.prog.follows Departure.mixedOrders = true := by kernel_rfl
    have HN : Hid ((pre.length = 9 → x.toNat % 128 ≤ 1) → bits .or .u64 (vNum pre : Int) (IntKind.u64.wrap ((x.toNat : Int) % 128 * 2 ^ (7 * pre.length))) = (vNum (pre ++ [x]) : Int)) := vOrShl pre x hl
    have hmix : Try.prog.follows Departure.mixedOrders = true := by kernel_rfl
    have e7 : IntKind.i64.wrap (7 * (pre.length : Int)) = 7 * (pre.length : Int) := IntWalk.i64_in _ (by omega)
    by_cases h9 : pre.length = 9
    · have e9 : ((pre.length : Int) == 9) = true := by rw [h9]; rfl
      have hp9 : (0 : Int) < (pre.length : Int) := by omega
      have hp8 : (1 : Int) < (pre.length : Int) + 1 := by omega
      have H9 := Lib.hid h9; clear h9
      by_cases h1 : 1 < x.toNat
      · have ho : vOut pre x = (0, 0, 4) := if_pos ⟨H9.out, h1⟩
        have he : vEnds pre x := .inl ⟨H9.out, h1⟩
        by_cases h128 : x.toNat < 128
        · have hm : (1 : Int) < (x.toNat : Int) % 128 := by omega
          gi_wp2
          refine ⟨((KeepsOthers.setCell _ _ _).trans (KeepsOthers.setCell _ _ _)).trans (KeepsOthers.setCell _ _ _), ⟨(0, 0, 4), _, _, ⟨rfl, pre, x, rfl, hh, hl, he, ho.symm⟩, ((TakeC.set0 ⟨b0, b1, b2, b3, b4⟩ _).set1 _).set2 _⟩, ?_⟩
          exact ((hB.setCell (p := ⟨w.heap.size, 0, none⟩) (by simp) _).setCell (p := ⟨w.heap.size + 1, 0, none⟩) (by simp) _).setCell (p := ⟨w.heap.size + 1 + 1, 0, none⟩) (by simp; omega) _
        · have hd : decide ((x.toNat : Int) < 128) = false := by simp; omega
          by_cases hm : (1 : Int) < (x.toNat : Int) % 128
          all_goals
            gi_wp2
            refine ⟨((KeepsOthers.setCell _ _ _).trans (KeepsOthers.setCell _ _ _)).trans (KeepsOthers.setCell _ _ _), ⟨(0, 0, 4), _, _, ⟨rfl, pre, x, rfl, hh, hl, he, ho.symm⟩, ((TakeC.set0 ⟨b0, b1, b2, b3, b4⟩ _).set1 _).set2 _⟩, ?_⟩
            exact ((hB.setCell (p := ⟨w.heap.size, 0, none⟩) (by simp) _).setCell (p := ⟨w.heap.size + 1, 0, none⟩) (by simp) _).setCell (p := ⟨w.heap.size + 1 + 1, 0, none⟩) (by simp; omega) _
      · have hd : decide ((x.toNat : Int) < 128) = true := by simp; omega
        have hm : ¬ (1 : Int) < (x.toNat : Int) % 128 := by omega
        have HN' := Lib.hid (HN.out (fun _ => by omega))
        have he : vEnds pre x := .inr (by omega)
        gi_wp2
        gi_region_with_o (fail)
        all_goals
          by_cases h0 : x.toNat = 0
          · have hz : ((x.toNat : Int) % 128 == 0) = true := by rw [h0]; rfl
            have ho : vOut pre x = (0, 0, 2) := by unfold vOut; rw [if_neg (by omega), if_pos ⟨h0, by omega⟩]
            have H0 := Lib.hid h0; clear h0
            gi_wp2
            all_goals
              refine ⟨(((((KeepsOthers.setCell _ _ _).trans (KeepsOthers.setCell _ _ _)).trans (KeepsOthers.setCell _ _ _)).trans (KeepsOthers.setCell _ _ _)).trans (KeepsOthers.setCell _ _ _)).trans (KeepsOthers.drew _), ⟨(0, 0, 2), _, _, ⟨rfl, pre, x, rfl, hh, hl, he, ho.symm⟩, (((((TakeC.setN ⟨b0, b1, b2, b3, b4⟩ _).setI _).set0 _).set1 _).set2 _).drew⟩, ?_⟩
              exact (((((hB.setCell (p := ⟨w.heap.size + 1 + 1 + 1, 0, none⟩) (by simp; omega) _).setCell (p := ⟨w.heap.size + 1 + 1 + 1 + 1, 0, none⟩) (by simp; omega) _).setCell (p := ⟨w.heap.size, 0, none⟩) (by simp) _).setCell (p := ⟨w.heap.size + 1, 0, none⟩) (by simp) _).setCell (p := ⟨w.heap.size + 1 + 1, 0, none⟩) (by simp; omega) _).drew
          · have hz : ((x.toNat : Int) % 128 == 0) = false := by simp; omega
            have ho : vOut pre x = (vNum (pre ++ [x]), pre.length + 1, 0) := by unfold vOut; rw [if_neg (by omega), if_neg (by omega)]
            gi_wp2
            gi_region_with_o (fail)
            all_goals gi_wp2
            all_goals
              refine ⟨(((((KeepsOthers.setCell _ _ _).trans (KeepsOthers.setCell _ _ _)).trans (KeepsOthers.setCell _ _ _)).trans (KeepsOthers.setCell _ _ _)).trans (KeepsOthers.setCell _ _ _)).trans ((KeepsOthers.drew _).trans (KeepsOthers.drew _)), ⟨(vNum (pre ++ [x]), pre.length + 1, 0), vNum (pre ++ [x]), pre.length + 1, ⟨rfl, pre, x, rfl, hh, hl, he, ho.symm⟩, ?_⟩, ?_⟩
              · rw [HN'.out]
                exact (((((TakeC.setN ⟨b0, b1, b2, b3, b4⟩ _).setI _).set0 _).set1 _).set2 _).drew.drew
              · exact (((((hB.setCell (p := ⟨w.heap.size + 1 + 1 + 1, 0, none⟩) (by simp; omega) _).setCell (p := ⟨w.heap.size + 1 + 1 + 1 + 1, 0, none⟩) (by simp; omega) _).setCell (p := ⟨w.heap.size, 0, none⟩) (by simp) _).setCell (p := ⟨w.heap.size + 1, 0, none⟩) (by simp) _).setCell (p := ⟨w.heap.size + 1 + 1, 0, none⟩) (by simp; omega) _).drew.drew
    · have e9 : ((pre.length : Int) == 9) = false := by simp; omega
      have HN' := Lib.hid (HN.out (fun h => absurd h h9))
      gi_wp2
      gi_region_with_o (fail)
      all_goals
        by_cases h128 : x.toNat < 128
        · have hd : decide ((x.toNat : Int) < 128) = true := by simp; omega
          have he : vEnds pre x := .inr h128
          by_cases h0 : x.toNat = 0
          · by_cases hp : pre.length = 0
            · have hp1 : ¬ (1 : Int) < (pre.length : Int) + 1 := by omega
              have hz : ((x.toNat : Int) % 128 == 0) = true := by rw [h0]; rfl
              have ho : vOut pre x = (vNum (pre ++ [x]), pre.length + 1, 0) := by unfold vOut; rw [if_neg (by omega), if_neg (by omega)]
              have H0 := Lib.hid h0; clear h0
              have HP := Lib.hid hp; clear hp
              gi_wp2
              gi_region_with_o (fail)
              all_goals gi_wp2
              all_goals
                refine ⟨(((((KeepsOthers.setCell _ _ _).trans (KeepsOthers.setCell _ _ _)).trans (KeepsOthers.setCell _ _ _)).trans (KeepsOthers.setCell _ _ _)).trans (KeepsOthers.setCell _ _ _)).trans ((KeepsOthers.drew _).trans (KeepsOthers.drew _)), ⟨(vNum (pre ++ [x]), pre.length + 1, 0), vNum (pre ++ [x]), pre.length + 1, ⟨rfl, pre, x, rfl, hh, hl, he, ho.symm⟩, ?_⟩, ?_⟩
                · rw [HN'.out]
                  exact (((((TakeC.setN ⟨b0, b1, b2, b3, b4⟩ _).setI _).set0 _).set1 _).set2 _).drew.drew
                · exact (((((hB.setCell (p := ⟨w.heap.size + 1 + 1 + 1, 0, none⟩) (by simp; omega) _).setCell (p := ⟨w.heap.size + 1 + 1 + 1 + 1, 0, none⟩) (by simp; omega) _).setCell (p := ⟨w.heap.size, 0, none⟩) (by simp) _).setCell (p := ⟨w.heap.size + 1, 0, none⟩) (by simp) _).setCell (p := ⟨w.heap.size + 1 + 1, 0, none⟩) (by simp; omega) _).drew.drew
            · have hp1 : (1 : Int) < (pre.length : Int) + 1 := by omega
              have hz : ((x.toNat : Int) % 128 == 0) = true := by rw [h0]; rfl
              have ho : vOut pre x = (0, 0, 2) := by unfold vOut; rw [if_neg (by omega), if_pos ⟨h0, by omega⟩]
              have H0 := Lib.hid h0; clear h0
              gi_wp2
              all_goals
                refine ⟨(((((KeepsOthers.setCell _ _ _).trans (KeepsOthers.setCell _ _ _)).trans (KeepsOthers.setCell _ _ _)).trans (KeepsOthers.setCell _ _ _)).trans (KeepsOthers.setCell _ _ _)).trans (KeepsOthers.drew _), ⟨(0, 0, 2), _, _, ⟨rfl, pre, x, rfl, hh, hl, he, ho.symm⟩, (((((TakeC.setN ⟨b0, b1, b2, b3, b4⟩ _).setI _).set0 _).set1 _).set2 _).drew⟩, ?_⟩
                exact (((((hB.setCell (p := ⟨w.heap.size + 1 + 1 + 1, 0, none⟩) (by simp; omega) _).setCell (p := ⟨w.heap.size + 1 + 1 + 1 + 1, 0, none⟩) (by simp; omega) _).setCell (p := ⟨w.heap.size, 0, none⟩) (by simp) _).setCell (p := ⟨w.heap.size + 1, 0, none⟩) (by simp) _).setCell (p := ⟨w.heap.size + 1 + 1, 0, none⟩) (by simp; omega) _).drew
          · have hz : ((x.toNat : Int) % 128 == 0) = false := by simp; omega
            have ho : vOut pre x = (vNum (pre ++ [x]), pre.length + 1, 0) := by unfold vOut; rw [if_neg (by omega), if_neg (by omega)]
            gi_wp2
            gi_region_with_o (fail)
            all_goals gi_wp2
            all_goals
              refine ⟨(((((KeepsOthers.setCell _ _ _).trans (KeepsOthers.setCell _ _ _)).trans (KeepsOthers.setCell _ _ _)).trans (KeepsOthers.setCell _ _ _)).trans (KeepsOthers.setCell _ _ _)).trans ((KeepsOthers.drew _).trans (KeepsOthers.drew _)), ⟨(vNum (pre ++ [x]), pre.length + 1, 0), vNum (pre ++ [x]), pre.length + 1, ⟨rfl, pre, x, rfl, hh, hl, he, ho.symm⟩, ?_⟩, ?_⟩
              · rw [HN'.out]
                exact (((((TakeC.setN ⟨b0, b1, b2, b3, b4⟩ _).setI _).set0 _).set1 _).set2 _).drew.drew
              · exact (((((hB.setCell (p := ⟨w.heap.size + 1 + 1 + 1, 0, none⟩) (by simp; omega) _).setCell (p := ⟨w.heap.size + 1 + 1 + 1 + 1, 0, none⟩) (by simp; omega) _).setCell (p := ⟨w.heap.size, 0, none⟩) (by simp) _).setCell (p := ⟨w.heap.size + 1, 0, none⟩) (by simp) _).setCell (p := ⟨w.heap.size + 1 + 1, 0, none⟩) (by simp; omega) _).drew.drew
        · have hd : decide ((x.toNat : Int) < 128) = false := by simp; omega
          gi_wp2
          refine ⟨((KeepsOthers.setCell _ _ _).trans (KeepsOthers.setCell _ _ _)).trans (KeepsOthers.drew _), kpCell_t (kpCell_set _ _ _ (by omega)) (kpCell_set _ _ _ (by omega)), ⟨⟨vHigh_snoc hh (by omega), by simp; omega⟩, ?_⟩, ?_⟩
          · rw [HN'.out, show ((pre ++ [x]).length : Int) = pre.length + 1 by simp]
            exact ((TakeC.setN ⟨b0, b1, b2, b3, b4⟩ _).setI _).drew
          · exact ((hB.setCell (p := ⟨w.heap.size + 1 + 1 + 1, 0, none⟩) (by simp; omega) _).setCell (p := ⟨w.heap.size + 1 + 1 + 1 + 1, 0, none⟩) (by simp; omega) _).drew
  case done =>
    rintro D ys W hD rfl ⟨⟨⟨hh, hl⟩, hc⟩, hB⟩ hK
    have ht := Lib.hid (vTake_short s.data.toList hh hl)
    have d0 := hc.c0.cell; have d1 := hc.c1.cell; have d2 := hc.c2.cell
    have f0 := hc.c0.frozen; have f1 := hc.c1.frozen; have f2 := hc.c2.frozen
    have hc3 := Lib.hid (((hc.set0 0).set1 0).set2 1)
    have hK' := Lib.hid ((((KeepsOthers.setCell W ⟨w.heap.size, 0, none⟩ (.int .u64 0)).trans (KeepsOthers.setCell _ ⟨w.heap.size + 1, 0, none⟩ (.int .i64 0))).trans (KeepsOthers.setCell _ ⟨w.heap.size + 1 + 1, 0, none⟩ (.int .i64 1))).same D _ hK rfl)
    have hB' := Lib.hid (((hB.setCell (p := ⟨w.heap.size, 0, none⟩) (by simp) (.int .u64 0)).setCell (p := ⟨w.heap.size + 1, 0, none⟩) (by simp) (.int .i64 0)).setCell (p := ⟨w.heap.size + 1 + 1, 0, none⟩) (by simp; omega) (.int .i64 1))
    gi_wp2
    refine ⟨by simp, .inl ⟨_, _, rfl, run_takeDeferred hK'.out, ?_⟩⟩
    have hc' := hc3.out.own (grownBy_putObj' _ D (.deferred none)) (fun r e => by cases e; exact ⟨_, hK'.out, rfl⟩)
    have d0' := hc'.c0.cell; have d1' := hc'.c1.cell; have d2' := hc'.c2.cell
    refine ⟨.tuple #[.int .u64 0, .int .i64 0, .int .i64 1], ?_, by rw [ht.out]; rfl, hB'.out.trans (belowK_b (w := w) (Nat.le_refl _) _ D _ _ (by omega) hK'.out rfl rfl)⟩
    simp [results, Try.f20, go_sem, d0', d1', d2']
  case stop =>
    rintro D c pre W hD hpre ⟨⟨r, n, i, ⟨rfl, q, x, rfl, hh, hl, he, rfl⟩, hc⟩, hB⟩ hK
    have ht := vTake_ends q s.data.toList x hpre hh hl he
    gi_wp2
    refine ⟨by simp, .inl ⟨_, _, rfl, run_takeDeferred hK, ?_⟩⟩
    have hc' := hc.own (grownBy_putObj' _ D (.deferred none)) (fun r e => by cases e; exact ⟨_, hK, rfl⟩)
    have d0 := hc'.c0.cell; have d1 := hc'.c1.cell; have d2 := hc'.c2.cell
    refine ⟨.tuple #[.int .u64 ((vOut q x).1 : Nat), .int .i64 ((vOut q x).2.1 : Nat), .int .i64 ((vOut q x).2.2 : Nat)], ?_, by rw [ht], hB.trans (belowK_b (w := w) (Nat.le_refl _) W D _ _ (by omega) hK rfl rfl)⟩
    simp [results, Try.f20, go_sem, d0, d1, d2]
theorem take_any (s : ByteArray) (hs : s.size ≤ maxLen) (w : World) :
    Calls Try.prog 20 #[.string s] w fun e W' => e = .returned (.tuple #[.int .u64 ((vTake s.data.toList).1 : Nat), .int .i64 ((vTake s.data.toList).2.1 : Nat), .int .i64 ((vTake s.data.toList).2.2 : Nat)]) ∧ Below w.heap.size w W' := callsIn_wide.1 (take_in s hs w)
end Go.Proofs.Ytjgjhjecgdndjaa
