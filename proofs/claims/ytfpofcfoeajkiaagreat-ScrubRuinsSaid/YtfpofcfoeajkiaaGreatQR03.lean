/- Texts of this claim's author, packed: VarintTake, VarintRefTake, VarintPut. Conditions: none. -/
import Derived.Test.YtfpofcfoeajkiaaGreatQR01
import Derived.Test.YtfpofcfoeajkiaaGreatQR02
import Derived.RangeFuncFrom
import Derived.RangeFuncNested
import Derived.RangeFuncBound
import Derived.RangeFuncCalls
import Derived.RangeFuncLeaves
import Derived.Shelf.Abstract
import Derived.Shelf.RegionOpen
import Derived.WalkKit
import Derived.OwnWalkIn
import Derived.TacticsInMore
import Derived.LoopNIn
import Derived.LoopIn
import Derived.Lib.Hide
import Derived.IntWalk
import Derived.RangeFuncBox
import Derived.Test.YtfpofcfoeajkiaaGreatProg
import Derived.WalkSpells
import Derived.WalkLawsBesides
import Derived.Maps.AppendAt
/- varint.Take: its walk. -/
namespace Go.Proofs.YtfpofcfoeajkiaaGreat
open Go.RowKit Go.Shelf
attribute [local go_sem] Oper.semAt_some
theorem boxed_keep {W W' : World} {B : Nat} {t : TypeId} {v : Value} {row : Option Nat} (h : Boxed W B t v) (hg : W.grownBy W' row) (hr : ∀ r, row = some r → ∃ o : Obj, W.heap[r]? = some o ∧ o.isCells = false) : Boxed W' B t v :=
  boxed_own B t (fun _ : Unit => v) () W W' row h hg hr
structure TakeC (B : Nat) (r0 r1 r2 n i : Int) (W : World) : Prop where
  c0 : Boxed W B 58 (.int .u64 r0)
  c1 : Boxed W (B + 1) 3 (.int .i64 r1)
  c2 : Boxed W (B + 1 + 1) 27 (.int .i64 r2)
  c3 : Boxed W (B + 1 + 1 + 1) 58 (.int .u64 n)
  c4 : Boxed W (B + 1 + 1 + 1 + 1) 3 (.int .i64 i)
theorem TakeC.own {B : Nat} {r0 r1 r2 n i : Int} {W W' : World} {row : Option Nat} (h : TakeC B r0 r1 r2 n i W) (hg : W.grownBy W' row) (hr : ∀ r, row = some r → ∃ o : Obj, W.heap[r]? = some o ∧ o.isCells = false) : TakeC B r0 r1 r2 n i W' :=
  ⟨boxed_keep h.c0 hg hr, boxed_keep h.c1 hg hr, boxed_keep h.c2 hg hr, boxed_keep h.c3 hg hr, boxed_keep h.c4 hg hr⟩
theorem boxed_drew {W : World} {B : Nat} {t : TypeId} {v : Value} (h : Boxed W B t v) : Boxed W.drew B t v := h
theorem TakeC.setN {B : Nat} {r0 r1 r2 n i : Int} {W : World} (h : TakeC B r0 r1 r2 n i W) (n' : Int) : TakeC B r0 r1 r2 n' i (W.setCell ⟨B + 1 + 1 + 1, 0, none⟩ (.int .u64 n')) :=
  ⟨h.c0.other (by omega) _, h.c1.other (by omega) _, h.c2.other (by omega) _, h.c3.set _, h.c4.other (by omega) _⟩
theorem TakeC.setI {B : Nat} {r0 r1 r2 n i : Int} {W : World} (h : TakeC B r0 r1 r2 n i W) (i' : Int) : TakeC B r0 r1 r2 n i' (W.setCell ⟨B + 1 + 1 + 1 + 1, 0, none⟩ (.int .i64 i')) :=
  ⟨h.c0.other (by omega) _, h.c1.other (by omega) _, h.c2.other (by omega) _, h.c3.other (by omega) _, h.c4.set _⟩
theorem TakeC.set0 {B : Nat} {r0 r1 r2 n i : Int} {W : World} (h : TakeC B r0 r1 r2 n i W) (v : Int) : TakeC B v r1 r2 n i (W.setCell ⟨B, 0, none⟩ (.int .u64 v)) :=
  ⟨h.c0.set _, h.c1.other (by omega) _, h.c2.other (by omega) _, h.c3.other (by omega) _, h.c4.other (by omega) _⟩
theorem TakeC.set1 {B : Nat} {r0 r1 r2 n i : Int} {W : World} (h : TakeC B r0 r1 r2 n i W) (v : Int) : TakeC B r0 v r2 n i (W.setCell ⟨B + 1, 0, none⟩ (.int .i64 v)) :=
  ⟨h.c0.other (by omega) _, h.c1.set _, h.c2.other (by omega) _, h.c3.other (by omega) _, h.c4.other (by omega) _⟩
theorem TakeC.set2 {B : Nat} {r0 r1 r2 n i : Int} {W : World} (h : TakeC B r0 r1 r2 n i W) (v : Int) : TakeC B r0 r1 v n i (W.setCell ⟨B + 1 + 1, 0, none⟩ (.int .i64 v)) :=
  ⟨h.c0.other (by omega) _, h.c1.other (by omega) _, h.c2.set _, h.c3.other (by omega) _, h.c4.other (by omega) _⟩
theorem TakeC.drew {B : Nat} {r0 r1 r2 n i : Int} {W : World} (h : TakeC B r0 r1 r2 n i W) : TakeC B r0 r1 r2 n i W.drew := ⟨h.c0, h.c1, h.c2, h.c3, h.c4⟩
def TakeQ (pre : List UInt8) : Prop := vHigh pre ∧ pre.length ≤ 9
def TakeX (c : Code) (pre : List UInt8) (r : Nat × Nat × Nat) : Prop := c = .ret ∧ ∃ q x, pre = q ++ [x] ∧ vHigh q ∧ q.length ≤ 9 ∧ vEnds q x ∧ r = vOut q x
theorem boxed_new (W : World) (t : TypeId) (v : Value) {B : Nat} (h : W.heap.size = B) : Boxed (W.alloc (.cells #[v] t)) B t v := by subst h; exact Boxed.new W t v
theorem six_boxes (w : World) (s : ByteArray) : TakeC w.heap.size 0 0 0 0 0 ((((((w.alloc (Obj.cells #[Value.int IntKind.u64 0] 58)).alloc (Obj.cells #[Value.int IntKind.i64 0] 3)).alloc (Obj.cells #[Value.int IntKind.i64 0] 27)).alloc (Obj.cells #[Value.int IntKind.u64 0] 58)).alloc (Obj.cells #[Value.int IntKind.i64 0] 3)).alloc (Obj.cells #[Value.string s] 9)) :=
  ⟨(((((boxed_new _ _ _ (by simp)).alloc _).alloc _).alloc _).alloc _).alloc _, ((((boxed_new _ _ _ (by simp)).alloc _).alloc _).alloc _).alloc _, (((boxed_new _ _ _ (by simp)).alloc _).alloc _).alloc _, ((boxed_new _ _ _ (by simp)).alloc _).alloc _, (boxed_new _ _ _ (by simp)).alloc _⟩
theorem six_cell (w : World) (s : ByteArray) : ((((((w.alloc (Obj.cells #[Value.int IntKind.u64 0] 58)).alloc (Obj.cells #[Value.int IntKind.i64 0] 3)).alloc (Obj.cells #[Value.int IntKind.i64 0] 27)).alloc (Obj.cells #[Value.int IntKind.u64 0] 58)).alloc (Obj.cells #[Value.int IntKind.i64 0] 3)).alloc (Obj.cells #[Value.string s] 9)).cell? ⟨w.heap.size + 1 + 1 + 1 + 1 + 1, 0, none⟩ = some (.string s) :=
  (boxed_new _ _ _ (by simp)).cell
theorem vShl {P : Program} (m l : Nat) (hl : l ≤ 9) (hm : m < 128) (h9 : l = 9 → m ≤ 1) (W : World) : (Op.shift .shl .u64 (m : Int) .i64 (7 * (l : Int))).run P W = .ok (.int .u64 ((m * 2 ^ (7 * l) : Nat) : Int)) W := by
  have hlt : m * 2 ^ (7 * l) < 18446744073709551616 := by
    rcases Nat.lt_or_ge l 9 with h | h
    · have h2 : 2 ^ (7 * l) ≤ 2 ^ 56 := Nat.pow_le_pow_right (by decide) (by omega)
      calc m * 2 ^ (7 * l) ≤ 127 * 2 ^ 56 := Nat.mul_le_mul (by omega) h2
        _ < 18446744073709551616 := by decide
    · obtain rfl : l = 9 := by omega
      have := h9 rfl
      calc m * 2 ^ (7 * 9) ≤ 1 * 2 ^ 63 := Nat.mul_le_mul this (Nat.le_refl _)
        _ < 18446744073709551616 := by decide
  have e1 : ¬ (7 * (l : Int)) < 0 := by omega
  have e2 : (7 * (l : Int)).toNat = 7 * l := by omega
  unfold Op.shift
  rw [if_neg e1, e2]
  have e3 : min (7 * l) IntKind.u64.bits = 7 * l := by rw [show IntKind.u64.bits = 64 from rfl]; omega
  simp only [e3, Sem.run_pure]
  have e4 : (m : Int) * 2 ^ (7 * l) = ((m * 2 ^ (7 * l) : Nat) : Int) := by simp
  rw [e4]
  generalize m * 2 ^ (7 * l) = q at *
  congr 2
  rw [IntKind.wrap_u64]
  omega
theorem vOr (n m l : Nat) (hn : n < 2 ^ (7 * l)) (hl : l ≤ 9) (hs : m * 2 ^ (7 * l) < 18446744073709551616) : bits .or .u64 (n : Int) ((m * 2 ^ (7 * l) : Nat) : Int) = ((n + m * 2 ^ (7 * l) : Nat) : Int) := by
  have h2 : 2 ^ (7 * l) ≤ 2 ^ 63 := Nat.pow_le_pow_right (by decide) (by omega)
  rw [u64_or_nat _ _ (by omega) hs, Nat.or_comm, nat_join (7 * l) _ _ (by simp) hn, Nat.add_comm]
theorem vOrShl (pre : List UInt8) (x : UInt8) (hl : pre.length ≤ 9) (h : pre.length = 9 → x.toNat % 128 ≤ 1) :
    bits .or .u64 (vNum pre : Int) (IntKind.u64.wrap ((x.toNat : Int) % 128 * 2 ^ (7 * pre.length))) = (vNum (pre ++ [x]) : Int) := by
  have hm : x.toNat % 128 < 128 := Nat.mod_lt _ (by decide)
  have hlt : x.toNat % 128 * 2 ^ (7 * pre.length) < 18446744073709551616 := by
    rcases Nat.lt_or_ge pre.length 9 with hh9 | hh9
    · have h2 : 2 ^ (7 * pre.length) ≤ 2 ^ 56 := Nat.pow_le_pow_right (by decide) (by omega)
      calc x.toNat % 128 * 2 ^ (7 * pre.length) ≤ 127 * 2 ^ 56 := Nat.mul_le_mul (by omega) h2
        _ < 18446744073709551616 := by decide
    · have e : pre.length = 9 := by omega
      have := h e
      rw [e]
      calc x.toNat % 128 * 2 ^ (7 * 9) ≤ 1 * 2 ^ 63 := Nat.mul_le_mul this (Nat.le_refl _)
        _ < 18446744073709551616 := by decide
  have e1 : (x.toNat : Int) % 128 * 2 ^ (7 * pre.length) = ((x.toNat % 128 * 2 ^ (7 * pre.length) : Nat) : Int) := by simp
  have e2 : IntKind.u64.wrap ((x.toNat % 128 * 2 ^ (7 * pre.length) : Nat) : Int) = ((x.toNat % 128 * 2 ^ (7 * pre.length) : Nat) : Int) := by
    generalize x.toNat % 128 * 2 ^ (7 * pre.length) = q at *
    rw [IntKind.wrap_u64]; omega
  rw [e1, e2, vOr _ _ _ (vNum_lt _) hl hlt, vNum_snoc]
def TakeI (B : Nat) (pre : List UInt8) (W : World) : Prop := TakeQ pre ∧ TakeC B 0 0 0 (vNum pre) pre.length W
def TakeIx (B : Nat) (c : Code) (pre : List UInt8) (W : World) : Prop := ∃ (r : Nat × Nat × Nat) (n i : Int), TakeX c pre r ∧ TakeC B (r.1 : Nat) (r.2.1 : Nat) (r.2.2 : Nat) n i W
set_option maxRecDepth 100000 in
set_option maxHeartbeats 16000000 in
theorem take_in (s : ByteArray) (hs : s.size ≤ maxLen) (w : World) :
    CallsIn Fence.wide 10 Tryz.prog 43 #[.string s] w fun e W' => e = .returned (.tuple #[.int .u64 ((vTake s.data.toList).1 : Nat), .int .i64 ((vTake s.data.toList).2.1 : Nat), .int .i64 ((vTake s.data.toList).2.2 : Nat)]) ∧ Below w.heap.size w W' := by
  have hro : Fence.wide.round = none := rfl
  have h25 : Fence.wide.fn 43 := trivial
  have h51 : Fence.wide.fn 72 := trivial
  have h54 : Fence.wide.fn 95 := trivial
  refine callsIn_of_wp_marks Tryz.func43 rfl h25 ?_ hro
  simp only [Tryz.ntmps43, List.size_toArray, List.length_cons, List.length_nil, Nat.reduceAdd, Nat.reduceSub, Array.replicate_succ, Array.replicate_zero, List.push_toArray, List.append_toArray, List.nil_append, List.cons_append]
  gi_wp2_with (gi_at_call 72; refine (groups_in Fence.wide (10 - 1) h51 hro _ _).mono ?_; rintro e w' ⟨rfl, rfl⟩)
  obtain ⟨W0, hW0⟩ : ∃ W0, ((((((w.alloc (Obj.cells #[Value.int IntKind.u64 0] 58)).alloc (Obj.cells #[Value.int IntKind.i64 0] 3)).alloc (Obj.cells #[Value.int IntKind.i64 0] 27)).alloc (Obj.cells #[Value.int IntKind.u64 0] 58)).alloc (Obj.cells #[Value.int IntKind.i64 0] 3)).alloc (Obj.cells #[Value.string s] 9)) = W0 := ⟨_, rfl⟩
  have hC : TakeC w.heap.size 0 0 0 0 0 W0 := by
    rw [← hW0]
    exact six_boxes w s
  have hB0 : Below w.heap.size w W0 := by
    rw [← hW0]
    exact ((((((Below.refl _ w).alloc (Nat.le_refl _) _).alloc (by simp) _).alloc (by simp; omega) _).alloc (by simp; omega) _).alloc (by simp; omega) _).alloc (by simp; omega) _
  have hs0 : W0.cell? ⟨w.heap.size + 1 + 1 + 1 + 1 + 1, 0, none⟩ = some (.string s) := by rw [← hW0]; exact six_cell w s
  have hsz : w.heap.size + 6 ≤ W0.heap.size := by rw [← hW0]; simp
  rw [hW0]
  clear hW0
  refine wpIn_rangeFunc_ownF hro (by decide) (gf := 95) (lb := #[.pointer (some ⟨w.heap.size + 1 + 1 + 1 + 1 + 1, 0, none⟩)]) rfl h54 (enters_of Tryz.func95 (by kernel_rfl) rfl)
    (groups1_stops Fence.wide (10 - 1) h54 hro (by decide) (w.heap.size + 1 + 1 + 1 + 1 + 1) s hs W0 hs0 (by omega)) kpCell_t (fun W l o o' _ h hc _ => kpCell_b W l o o' h hc) (Below.refl _ _) (fun _ => rfl)
    (fun pre W => TakeI w.heap.size pre W ∧ Below w.heap.size w W)
    (fun c pre W => TakeIx w.heap.size c pre W ∧ Below w.heap.size w W)
    (OwnFrom.and (Own.from (fun s A B row hs hg hr => ⟨hs.1, hs.2.own hg hr⟩) _) (ownFrom_below (Nat.le_refl _) (by omega)))
    (fun c => OwnFrom.and (Own.from (fun s A B row hs hg hr => by obtain ⟨r, n, i, h1, h2⟩ := hs; exact ⟨r, n, i, h1, h2.own hg hr⟩) _) (ownFrom_below (Nat.le_refl _) (by omega)))
    ⟨⟨⟨by intro x hx; simp at hx, by simp⟩, hC⟩, hB0⟩
    (fun c => { tmps := #[.string s, undef, .pointer (some ⟨w.heap.size, 0, none⟩), .pointer (some ⟨w.heap.size + 1, 0, none⟩), .pointer (some ⟨w.heap.size + 1 + 1, 0, none⟩), .pointer (some ⟨w.heap.size + 1 + 1 + 1, 0, none⟩), .pointer (some ⟨w.heap.size + 1 + 1 + 1 + 1, 0, none⟩), .int .u64 ((c.toNat : Int) % 128), .bool (decide ((c.toNat : Int) < 128)), .string s, .func (.func 95) #[] #[.pointer (some ⟨w.heap.size + 1 + 1 + 1 + 1 + 1, 0, none⟩)], .int .u64 ((c.toNat : Int) % 128), .bool (decide ((c.toNat : Int) < 128)), undef, undef, undef, undef, undef, undef, undef, undef, undef, undef, undef, undef, undef, undef, undef, undef, undef, undef, undef, undef, undef, undef, undef, undef, undef, undef, undef, undef], defers := [] }) ?assign ?body ?done ?stop
  case assign =>
    intro l x W K hK
    dsimp only [gEnc]
    gi_wp2
    exact hK
  case body =>
    rintro l pre x W ⟨⟨⟨hh, hl⟩, ⟨b0, b1, b2, b3, b4⟩⟩, hB⟩ _
    have d0 := b0.cell; have d1 := b1.cell; have d2 := b2.cell; have d3 := b3.cell; have d4 := b4.cell
    have f0 := b0.frozen; have f1 := b1.frozen; have f2 := b2.frozen; have f3 := b3.frozen; have f4 := b4.frozen
    have hx := x.toNat_lt
    have hn : vNum pre < 2 ^ 63 := by
      have := vNum_lt pre
      have h2 : 2 ^ (7 * pre.length) ≤ 2 ^ 63 := Nat.pow_le_pow_right (by decide) (by omega)
      omega
    have hmix : Tryz.prog.follows Departure.mixedOrders = true := by kernel_rfl
    have HN : Hid ((pre.length = 9 → x.toNat % 128 ≤ 1) → bits .or .u64 (vNum pre : Int) (IntKind.u64.wrap ((x.toNat : Int) % 128 * 2 ^ (7 * pre.length))) = (vNum (pre ++ [x]) : Int)) := vOrShl pre x hl
    have hmix : Tryz.prog.follows Departure.mixedOrders = true := by kernel_rfl
    have e7 : IntKind.i64.wrap (7 * (pre.length : Int)) = 7 * (pre.length : Int) := IntWalk.i64_in _ (by omega)
    by_cases h9 : pre.length = 9
    · have e9 : ((pre.length : Int) == 9) = true := by rw [h9]; rfl
      have hp9 : (0 : Int) < (pre.length : Int) := by omega
      have hp8 : (1 : Int) < (pre.length : Int) + 1 := by omega
      have H9 := Lib.hid h9; clear h9
      by_cases h1 : 1 < x.toNat
      · have ho : vOut pre x = (0, 0, 4) := if_pos ⟨H9.out, h1⟩
        have he : vEnds pre x := .inl ⟨H9.out, h1⟩
        by_cases h128 : x.toNat < 128
        · have hm : (1 : Int) < (x.toNat : Int) % 128 := by omega
          gi_wp2
          refine ⟨((KeepsOthers.setCell _ _ _).trans (KeepsOthers.setCell _ _ _)).trans (KeepsOthers.setCell _ _ _), ⟨(0, 0, 4), _, _, ⟨rfl, pre, x, rfl, hh, hl, he, ho.symm⟩, ((TakeC.set0 ⟨b0, b1, b2, b3, b4⟩ _).set1 _).set2 _⟩, ?_⟩
          exact ((hB.setCell (p := ⟨w.heap.size, 0, none⟩) (by simp) _).setCell (p := ⟨w.heap.size + 1, 0, none⟩) (by simp) _).setCell (p := ⟨w.heap.size + 1 + 1, 0, none⟩) (by simp; omega) _
        · have hd : decide ((x.toNat : Int) < 128) = false := by simp; omega
          by_cases hm : (1 : Int) < (x.toNat : Int) % 128
          all_goals
            gi_wp2
            refine ⟨((KeepsOthers.setCell _ _ _).trans (KeepsOthers.setCell _ _ _)).trans (KeepsOthers.setCell _ _ _), ⟨(0, 0, 4), _, _, ⟨rfl, pre, x, rfl, hh, hl, he, ho.symm⟩, ((TakeC.set0 ⟨b0, b1, b2, b3, b4⟩ _).set1 _).set2 _⟩, ?_⟩
            exact ((hB.setCell (p := ⟨w.heap.size, 0, none⟩) (by simp) _).setCell (p := ⟨w.heap.size + 1, 0, none⟩) (by simp) _).setCell (p := ⟨w.heap.size + 1 + 1, 0, none⟩) (by simp; omega) _
      · have hd : decide ((x.toNat : Int) < 128) = true := by simp; omega
        have hm : ¬ (1 : Int) < (x.toNat : Int) % 128 := by omega
        have HN' := Lib.hid (HN.out (fun _ => by omega))
        have he : vEnds pre x := .inr (by omega)
        gi_wp2
        gi_region_with_o (fail)
        all_goals
          by_cases h0 : x.toNat = 0
          · have hz : ((x.toNat : Int) % 128 == 0) = true := by rw [h0]; rfl
            have ho : vOut pre x = (0, 0, 2) := by unfold vOut; rw [if_neg (by omega), if_pos ⟨h0, by omega⟩]
            have H0 := Lib.hid h0; clear h0
            gi_wp2
            all_goals
              refine ⟨(((((KeepsOthers.setCell _ _ _).trans (KeepsOthers.setCell _ _ _)).trans (KeepsOthers.setCell _ _ _)).trans (KeepsOthers.setCell _ _ _)).trans (KeepsOthers.setCell _ _ _)).trans (KeepsOthers.drew _), ⟨(0, 0, 2), _, _, ⟨rfl, pre, x, rfl, hh, hl, he, ho.symm⟩, (((((TakeC.setN ⟨b0, b1, b2, b3, b4⟩ _).setI _).set0 _).set1 _).set2 _).drew⟩, ?_⟩
              exact (((((hB.setCell (p := ⟨w.heap.size + 1 + 1 + 1, 0, none⟩) (by simp; omega) _).setCell (p := ⟨w.heap.size + 1 + 1 + 1 + 1, 0, none⟩) (by simp; omega) _).setCell (p := ⟨w.heap.size, 0, none⟩) (by simp) _).setCell (p := ⟨w.heap.size + 1, 0, none⟩) (by simp) _).setCell (p := ⟨w.heap.size + 1 + 1, 0, none⟩) (by simp; omega) _).drew
          · have hz : ((x.toNat : Int) % 128 == 0) = false := by simp; omega
            have ho : vOut pre x = (vNum (pre ++ [x]), pre.length + 1, 0) := by unfold vOut; rw [if_neg (by omega), if_neg (by omega)]
            gi_wp2
            gi_region_with_o (fail)
            all_goals gi_wp2
            all_goals
              refine ⟨(((((KeepsOthers.setCell _ _ _).trans (KeepsOthers.setCell _ _ _)).trans (KeepsOthers.setCell _ _ _)).trans (KeepsOthers.setCell _ _ _)).trans (KeepsOthers.setCell _ _ _)).trans ((KeepsOthers.drew _).trans (KeepsOthers.drew _)), ⟨(vNum (pre ++ [x]), pre.length + 1, 0), vNum (pre ++ [x]), pre.length + 1, ⟨rfl, pre, x, rfl, hh, hl, he, ho.symm⟩, ?_⟩, ?_⟩
              · rw [HN'.out]
                exact (((((TakeC.setN ⟨b0, b1, b2, b3, b4⟩ _).setI _).set0 _).set1 _).set2 _).drew.drew
              · exact (((((hB.setCell (p := ⟨w.heap.size + 1 + 1 + 1, 0, none⟩) (by simp; omega) _).setCell (p := ⟨w.heap.size + 1 + 1 + 1 + 1, 0, none⟩) (by simp; omega) _).setCell (p := ⟨w.heap.size, 0, none⟩) (by simp) _).setCell (p := ⟨w.heap.size + 1, 0, none⟩) (by simp) _).setCell (p := ⟨w.heap.size + 1 + 1, 0, none⟩) (by simp; omega) _).drew.drew
    · have e9 : ((pre.length : Int) == 9) = false := by simp; omega
      have HN' := Lib.hid (HN.out (fun h => absurd h h9))
      gi_wp2
      gi_region_with_o (fail)
      all_goals
        by_cases h128 : x.toNat < 128
        · have hd : decide ((x.toNat : Int) < 128) = true := by simp; omega
          have he : vEnds pre x := .inr h128
          by_cases h0 : x.toNat = 0
          · by_cases hp : pre.length = 0
            · have hp1 : ¬ (1 : Int) < (pre.length : Int) + 1 := by omega
              have hz : ((x.toNat : Int) % 128 == 0) = true := by rw [h0]; rfl
              have ho : vOut pre x = (vNum (pre ++ [x]), pre.length + 1, 0) := by unfold vOut; rw [if_neg (by omega), if_neg (by omega)]
              have H0 := Lib.hid h0; clear h0
              have HP := Lib.hid hp; clear hp
              gi_wp2
              gi_region_with_o (fail)
              all_goals gi_wp2
              all_goals
                refine ⟨(((((KeepsOthers.setCell _ _ _).trans (KeepsOthers.setCell _ _ _)).trans (KeepsOthers.setCell _ _ _)).trans (KeepsOthers.setCell _ _ _)).trans (KeepsOthers.setCell _ _ _)).trans ((KeepsOthers.drew _).trans (KeepsOthers.drew _)), ⟨(vNum (pre ++ [x]), pre.length + 1, 0), vNum (pre ++ [x]), pre.length + 1, ⟨rfl, pre, x, rfl, hh, hl, he, ho.symm⟩, ?_⟩, ?_⟩
                · rw [HN'.out]
                  exact (((((TakeC.setN ⟨b0, b1, b2, b3, b4⟩ _).setI _).set0 _).set1 _).set2 _).drew.drew
                · exact (((((hB.setCell (p := ⟨w.heap.size + 1 + 1 + 1, 0, none⟩) (by simp; omega) _).setCell (p := ⟨w.heap.size + 1 + 1 + 1 + 1, 0, none⟩) (by simp; omega) _).setCell (p := ⟨w.heap.size, 0, none⟩) (by simp) _).setCell (p := ⟨w.heap.size + 1, 0, none⟩) (by simp) _).setCell (p := ⟨w.heap.size + 1 + 1, 0, none⟩) (by simp; omega) _).drew.drew
            · have hp1 : (1 : Int) < (pre.length : Int) + 1 := by omega
              have hz : ((x.toNat : Int) % 128 == 0) = true := by rw [h0]; rfl
              have ho : vOut pre x = (0, 0, 2) := by unfold vOut; rw [if_neg (by omega), if_pos ⟨h0, by omega⟩]
              have H0 := Lib.hid h0; clear h0
              gi_wp2
              all_goals
                refine ⟨(((((KeepsOthers.setCell _ _ _).trans (KeepsOthers.setCell _ _ _)).trans (KeepsOthers.setCell _ _ _)).trans (KeepsOthers.setCell _ _ _)).trans (KeepsOthers.setCell _ _ _)).trans (KeepsOthers.drew _), ⟨(0, 0, 2), _, _, ⟨rfl, pre, x, rfl, hh, hl, he, ho.symm⟩, (((((TakeC.setN ⟨b0, b1, b2, b3, b4⟩ _).setI _).set0 _).set1 _).set2 _).drew⟩, ?_⟩
                exact (((((hB.setCell (p := ⟨w.heap.size + 1 + 1 + 1, 0, none⟩) (by simp; omega) _).setCell (p := ⟨w.heap.size + 1 + 1 + 1 + 1, 0, none⟩) (by simp; omega) _).setCell (p := ⟨w.heap.size, 0, none⟩) (by simp) _).setCell (p := ⟨w.heap.size + 1, 0, none⟩) (by simp) _).setCell (p := ⟨w.heap.size + 1 + 1, 0, none⟩) (by simp; omega) _).drew
          · have hz : ((x.toNat : Int) % 128 == 0) = false := by simp; omega
            have ho : vOut pre x = (vNum (pre ++ [x]), pre.length + 1, 0) := by unfold vOut; rw [if_neg (by omega), if_neg (by omega)]
            gi_wp2
            gi_region_with_o (fail)
            all_goals gi_wp2
            all_goals
              refine ⟨(((((KeepsOthers.setCell _ _ _).trans (KeepsOthers.setCell _ _ _)).trans (KeepsOthers.setCell _ _ _)).trans (KeepsOthers.setCell _ _ _)).trans (KeepsOthers.setCell _ _ _)).trans ((KeepsOthers.drew _).trans (KeepsOthers.drew _)), ⟨(vNum (pre ++ [x]), pre.length + 1, 0), vNum (pre ++ [x]), pre.length + 1, ⟨rfl, pre, x, rfl, hh, hl, he, ho.symm⟩, ?_⟩, ?_⟩
              · rw [HN'.out]
                exact (((((TakeC.setN ⟨b0, b1, b2, b3, b4⟩ _).setI _).set0 _).set1 _).set2 _).drew.drew
              · exact (((((hB.setCell (p := ⟨w.heap.size + 1 + 1 + 1, 0, none⟩) (by simp; omega) _).setCell (p := ⟨w.heap.size + 1 + 1 + 1 + 1, 0, none⟩) (by simp; omega) _).setCell (p := ⟨w.heap.size, 0, none⟩) (by simp) _).setCell (p := ⟨w.heap.size + 1, 0, none⟩) (by simp) _).setCell (p := ⟨w.heap.size + 1 + 1, 0, none⟩) (by simp; omega) _).drew.drew
        · have hd : decide ((x.toNat : Int) < 128) = false := by simp; omega
          gi_wp2
          refine ⟨((KeepsOthers.setCell _ _ _).trans (KeepsOthers.setCell _ _ _)).trans (KeepsOthers.drew _), kpCell_t (kpCell_set _ _ _ (by omega)) (kpCell_set _ _ _ (by omega)), ⟨⟨vHigh_snoc hh (by omega), by simp; omega⟩, ?_⟩, ?_⟩
          · rw [HN'.out, show ((pre ++ [x]).length : Int) = pre.length + 1 by simp]
            exact ((TakeC.setN ⟨b0, b1, b2, b3, b4⟩ _).setI _).drew
          · exact ((hB.setCell (p := ⟨w.heap.size + 1 + 1 + 1, 0, none⟩) (by simp; omega) _).setCell (p := ⟨w.heap.size + 1 + 1 + 1 + 1, 0, none⟩) (by simp; omega) _).drew
  case done =>
    rintro D ys W hD rfl ⟨⟨⟨hh, hl⟩, hc⟩, hB⟩ hK
    have ht := Lib.hid (vTake_short s.data.toList hh hl)
    have d0 := hc.c0.cell; have d1 := hc.c1.cell; have d2 := hc.c2.cell
    have f0 := hc.c0.frozen; have f1 := hc.c1.frozen; have f2 := hc.c2.frozen
    have hc3 := Lib.hid (((hc.set0 0).set1 0).set2 1)
    have hK' := Lib.hid ((((KeepsOthers.setCell W ⟨w.heap.size, 0, none⟩ (.int .u64 0)).trans (KeepsOthers.setCell _ ⟨w.heap.size + 1, 0, none⟩ (.int .i64 0))).trans (KeepsOthers.setCell _ ⟨w.heap.size + 1 + 1, 0, none⟩ (.int .i64 1))).same D _ hK rfl)
    have hB' := Lib.hid (((hB.setCell (p := ⟨w.heap.size, 0, none⟩) (by simp) (.int .u64 0)).setCell (p := ⟨w.heap.size + 1, 0, none⟩) (by simp) (.int .i64 0)).setCell (p := ⟨w.heap.size + 1 + 1, 0, none⟩) (by simp; omega) (.int .i64 1))
    gi_wp2
    refine ⟨by simp, .inl ⟨_, _, rfl, run_takeDeferred hK'.out, ?_⟩⟩
    have hc' := hc3.out.own (grownBy_putObj' _ D (.deferred none)) (fun r e => by cases e; exact ⟨_, hK'.out, rfl⟩)
    have d0' := hc'.c0.cell; have d1' := hc'.c1.cell; have d2' := hc'.c2.cell
    refine ⟨.tuple #[.int .u64 0, .int .i64 0, .int .i64 1], ?_, by rw [ht.out]; rfl, hB'.out.trans (belowK_b (w := w) (Nat.le_refl _) _ D _ _ (by omega) hK'.out rfl rfl)⟩
    simp [results, Tryz.f43, go_sem, d0', d1', d2']
  case stop =>
    rintro D c pre W hD hpre ⟨⟨r, n, i, ⟨rfl, q, x, rfl, hh, hl, he, rfl⟩, hc⟩, hB⟩ hK
    have ht := vTake_ends q s.data.toList x hpre hh hl he
    gi_wp2
    refine ⟨by simp, .inl ⟨_, _, rfl, run_takeDeferred hK, ?_⟩⟩
    have hc' := hc.own (grownBy_putObj' _ D (.deferred none)) (fun r e => by cases e; exact ⟨_, hK, rfl⟩)
    have d0 := hc'.c0.cell; have d1 := hc'.c1.cell; have d2 := hc'.c2.cell
    refine ⟨.tuple #[.int .u64 ((vOut q x).1 : Nat), .int .i64 ((vOut q x).2.1 : Nat), .int .i64 ((vOut q x).2.2 : Nat)], ?_, by rw [ht], hB.trans (belowK_b (w := w) (Nat.le_refl _) W D _ _ (by omega) hK rfl rfl)⟩
    simp [results, Tryz.f43, go_sem, d0, d1, d2]
theorem take_any (s : ByteArray) (hs : s.size ≤ maxLen) (w : World) :
    Calls Tryz.prog 43 #[.string s] w fun e W' => e = .returned (.tuple #[.int .u64 ((vTake s.data.toList).1 : Nat), .int .i64 ((vTake s.data.toList).2.1 : Nat), .int .i64 ((vTake s.data.toList).2.2 : Nat)]) ∧ Below w.heap.size w W' := callsIn_wide.1 (take_in s hs w)
end Go.Proofs.YtfpofcfoeajkiaaGreat
/- The reference's Take: its walk. -/
namespace Go.Proofs.YtfpofcfoeajkiaaGreat
open Go.RowKit
set_option linter.unusedVariables false
theorem drop_consB (s : ByteArray) (k : Nat) (h : k < s.size) : s.data.toList.drop k = s[k] :: s.data.toList.drop (k + 1) := by
  rw [List.drop_eq_getElem_cons (by simpa using h)]; rfl
theorem ret3 {a a' : Int} {b b' c c' : Int} (h1 : a = a') (h2 : b = b') (h3 : c = c') : Ending.returned (.tuple #[.int .u64 a, .int .i64 b, .int .i64 c]) = Ending.returned (.tuple #[.int .u64 a', .int .i64 b', .int .i64 c']) := by rw [h1, h2, h3]
theorem vAddShl (pre : List UInt8) (x : UInt8) (hl : pre.length ≤ 9) (h : pre.length = 9 → x.toNat % 128 ≤ 1) :
    (vNum pre : Int) + (x.toNat : Int) % 128 * 2 ^ (7 * pre.length) = (vNum (pre ++ [x]) : Int) ∧ vNum (pre ++ [x]) < 18446744073709551616 ∧ (x.toNat : Int) % 128 * 2 ^ (7 * pre.length) < 18446744073709551616 := by
  have hm : x.toNat % 128 < 128 := Nat.mod_lt _ (by decide)
  have hn := vNum_lt pre
  have e1 : (x.toNat : Int) % 128 * 2 ^ (7 * pre.length) = ((x.toNat % 128 * 2 ^ (7 * pre.length) : Nat) : Int) := by simp
  rw [e1, vNum_snoc]
  have hlt : vNum pre + x.toNat % 128 * 2 ^ (7 * pre.length) < 18446744073709551616 := by
    rcases Nat.lt_or_ge pre.length 9 with hh9 | hh9
    · have h2 : 2 ^ (7 * pre.length) ≤ 2 ^ 56 := Nat.pow_le_pow_right (by decide) (by omega)
      have h3 : x.toNat % 128 * 2 ^ (7 * pre.length) ≤ 127 * 2 ^ 56 := Nat.mul_le_mul (by omega) h2
      omega
    · have e : pre.length = 9 := by omega
      have := h e
      rw [e] at hn ⊢
      have h3 : x.toNat % 128 * 2 ^ (7 * 9) ≤ 1 * 2 ^ 63 := Nat.mul_le_mul this (Nat.le_refl _)
      omega
  exact ⟨by omega, hlt, by omega⟩
theorem vWrap (s : ByteArray) (k : Nat) (hlt : k < s.size) (hk : k ≤ 9) (h : k = 9 → s[k].toNat % 128 ≤ 1) :
    IntKind.u64.wrap ((vNum (s.data.toList.take k) : Int) + IntKind.u64.wrap ((s[k].toNat : Int) % 128 * 2 ^ (7 * k))) = (vNum (s.data.toList.take k ++ [s[k]]) : Int) := by
  have hlen : (s.data.toList.take k).length = k := by rw [List.length_take]; simp; omega
  obtain ⟨h1, h2, h3⟩ := vAddShl (s.data.toList.take k) s[k] (by omega) (by rw [hlen]; exact h)
  rw [hlen] at h1 h3
  have e1 : (s[k].toNat : Int) % 128 * 2 ^ (7 * k) = ((s[k].toNat % 128 * 2 ^ (7 * k) : Nat) : Int) := by simp
  rw [e1] at h1 h3 ⊢
  generalize s[k].toNat % 128 * 2 ^ (7 * k) = q at *
  generalize vNum (s.data.toList.take k ++ [s[k]]) = r at *
  generalize vNum (s.data.toList.take k) = v at *
  rw [IntKind.wrap_u64, IntKind.wrap_u64]
  omega
/-- what the walk leaves at the end, and what it leaves for the next round: packed, so that the walk doesn't turn them -/
def VPacked (s : ByteArray) (k : Nat) (x : Int) : Prop := Ending.returned (.tuple #[.int .u64 x, .int .i64 ((k : Int) + 1), .int .i64 0]) = Ending.returned (.tuple #[.int .u64 ((vTake s.data.toList).1 : Nat), .int .i64 ((vTake s.data.toList).2.1 : Nat), .int .i64 ((vTake s.data.toList).2.2 : Nat)])
theorem vPacked (s : ByteArray) (k : Nat) {c : UInt8} {x : Int} (h1 : x = (vNum (s.data.toList.take k ++ [c]) : Int)) (h2 : vTake s.data.toList = (vNum (s.data.toList.take k ++ [c]), k + 1, 0)) : VPacked s k x := by
  unfold VPacked; rw [h1, h2]; rfl
/-- the relation at the next round's head -/
def VNext (s : ByteArray) (k : Nat) (x : Int) : Prop := vHigh (s.data.toList.take (k + 1)) ∧ vTake s.data.toList = vGo (s.data.toList.take (k + 1)) (s.data.toList.drop (k + 1)) ∧ x = (vNum (s.data.toList.take (k + 1)) : Int)
theorem vNext (s : ByteArray) (k : Nat) (hlt : k < s.size) {x : Int} (hx : x = (vNum (s.data.toList.take k ++ [s[k]]) : Int)) (hh : vHigh (s.data.toList.take k)) (hv : vTake s.data.toList = vGo (s.data.toList.take k) (s.data.toList.drop k)) (h128 : 128 ≤ s[k].toNat) (hk : k < 9) : VNext s k x := by
  have hlen : (s.data.toList.take k).length = k := by rw [List.length_take]; simp; omega
  have hT := take_snoc s k hlt
  refine ⟨by rw [hT]; exact vHigh_snoc hh h128, ?_, by rw [hx, hT]⟩
  rw [hv, drop_consB s k hlt, vGo, if_neg (by unfold vEnds; omega), hT]
set_option maxRecDepth 100000 in
set_option maxHeartbeats 1000000 in
theorem refTake_any (s : ByteArray) (hs : s.size ≤ maxLen) (w : World) :
    Calls Tryz.prog 21 #[.string s] w fun e w' => e = .returned (.tuple #[.int .u64 ((vTake s.data.toList).1 : Nat), .int .i64 ((vTake s.data.toList).2.1 : Nat), .int .i64 ((vTake s.data.toList).2.2 : Nat)]) ∧ w = w' := by
  unfold maxLen at hs
  go_enter Tryz.func21, Tryz.ntmps21
  go_wp2
  go_loop [5, 6, 7] (fun n i _ => ∃ k : Nat, k ≤ 9 ∧ k ≤ s.size ∧ i = .int .i64 k ∧ n = .int .u64 (vNum (s.data.toList.take k) : Nat) ∧ Hid (vHigh (s.data.toList.take k)) ∧ Hid (vTake s.data.toList = vGo (s.data.toList.take k) (s.data.toList.drop k))) (fun _ i _ => 10 - (intOf i).toNat)
  case atStart => exact ⟨0, by omega, Nat.zero_le _, rfl, rfl, by intro x hx; simp at hx, by simp [Hid, vTake]⟩
  case round =>
    obtain ⟨k, hk9, hks, rfl, rfl, HH, HV⟩ := hrel
    have hk : k ≤ 10 := by omega
    · by_cases hlt : k < s.size
      · have hlen : (s.data.toList.take k).length = k := by rw [List.length_take]; simp; omega
        have HD := Lib.hid (drop_consB s k hlt)
        have HT := Lib.hid (take_snoc s k hlt)
        have hx := s[k].toNat_lt
        by_cases h9 : k = 9 ∧ 1 < s[k].toNat
        · have e9 : ((k : Int) == 9) = true := by rw [h9.1]; rfl
          have h1' : (1 : Int) < (s[k].toNat : Int) := by omega
          have HR : Hid (vTake s.data.toList = (0, 0, 4)) := by
            unfold Hid
            rw [HV.out, HD.out, vGo, if_pos (.inl ⟨by omega, h9.2⟩), vOut, if_pos ⟨by omega, h9.2⟩]
          clear h9 hlen HD HT HH HV
          go_wp2
          go_ret3
          exact ⟨by rw [HR.out]; rfl, rfl⟩
        · have HX : Hid (k = 9 → s[k].toNat % 128 ≤ 1) := fun h => by omega
          have HW := Lib.hid (vWrap s k hlt hk9 HX.out)
          have HW2 : Hid (vHigh (s.data.toList.take k) → 128 ≤ s[k].toNat → vHigh (s.data.toList.take (k + 1))) := by
            intro h1 h2; rw [HT.out]; exact vHigh_snoc h1 h2
          by_cases h128 : s[k].toNat < 128
          · by_cases h0 : s[k].toNat = 0
            · have hz : ((s[k].toNat : Int) == 0) = true := by rw [h0]; rfl
              have h128' : (s[k].toNat : Int) < 128 := by omega
              have hn1 : ¬ (1 : Int) < (s[k].toNat : Int) := by omega
              by_cases hp : k = 0
              · have HR : Hid (vTake s.data.toList = (vNum (s.data.toList.take k ++ [s[k]]), k + 1, 0)) := by
                  unfold Hid
                  rw [HV.out, HD.out, vGo, if_pos (.inr h128), vOut, if_neg (by omega), if_neg (by omega), hlen]
                have hk0 : ¬ (0 : Int) < (k : Int) := by omega
                have HP := vPacked s k HW.out HR.out
                clear hlen HD HT HH HV h9 h128 HX HW HW2 h0 hp HR
                go_wp2
                all_goals
                  go_ret3
                  exact ⟨HP, rfl⟩
              · have HR : Hid (vTake s.data.toList = (0, 0, 2)) := by
                  unfold Hid
                  rw [HV.out, HD.out, vGo, if_pos (.inr h128), vOut, if_neg (by omega), if_pos ⟨h0, by omega⟩]
                have hk0 : (0 : Int) < (k : Int) := by omega
                clear hlen HD HT HH HV h9 h128 HX HW HW2 h0 hp
                go_wp2
                all_goals
                  go_ret3
                  exact ⟨by rw [HR.out]; rfl, rfl⟩
            · have hz : ((s[k].toNat : Int) == 0) = false := by simp; omega
              have h128' : (s[k].toNat : Int) < 128 := by omega
              have HR : Hid (vTake s.data.toList = (vNum (s.data.toList.take k ++ [s[k]]), k + 1, 0)) := by
                unfold Hid
                rw [HV.out, HD.out, vGo, if_pos (.inr h128), vOut, if_neg (by omega), if_neg (by omega), hlen]
              have HP := vPacked s k HW.out HR.out
              by_cases hk9' : k = 9
              · have e9 : ((k : Int) == 9) = true := by rw [hk9']; rfl
                have hn1 : ¬ (1 : Int) < (s[k].toNat : Int) := by omega
                clear hlen HD HT HH HV h9 h128 HX HW HW2 h0 HR hk9'
                go_wp2
                all_goals
                  go_ret3
                  exact ⟨HP, rfl⟩
              · have e9 : ((k : Int) == 9) = false := by simp; omega
                clear hlen HD HT HH HV h9 h128 HX HW HW2 h0 HR hk9'
                go_wp2
                all_goals
                  go_ret3
                  exact ⟨HP, rfl⟩
          · have e9 : ((k : Int) == 9) = false := by simp; omega
            have h128' : (128 : Int) ≤ (s[k].toNat : Int) := by omega
            have hk8 : k < 9 := by omega
            have HG := vNext s k hlt HW.out HH.out HV.out (by omega) (by omega)
            clear hlen HD HT HH HV h9 h128 HX HW HW2
            go_wp2
            go_round
            case rel => exact ⟨k + 1, by omega, by omega, by go_num, by rw [HG.2.2], HG.1, HG.2.1⟩
            case measure => simp [intOf]; omega
      · have HR : Hid (vTake s.data.toList = (0, 0, 1)) := by
          unfold Hid
          rw [HV.out, List.drop_of_length_le (by simp; omega)]; rfl
        clear HV HH
        go_wp2
        go_ret3
        exact ⟨by rw [HR.out]; rfl, rfl⟩

end Go.Proofs.YtfpofcfoeajkiaaGreat
/- varint.Put and the reference's: their walks. -/
namespace Go.Proofs.YtfpofcfoeajkiaaGreat
open Go.RowKit
set_option linter.unusedVariables false
/-- a number as bytes -/
def vPutF : Nat → Nat → List UInt8
  | 0, n => [UInt8.ofNat n]
  | f + 1, n => if n < 128 then [UInt8.ofNat n] else UInt8.ofNat (n % 128 + 128) :: vPutF f (n / 128)
def vPut (n : Nat) : List UInt8 := vPutF n n
theorem vPutF_irrel : ∀ (f g n : Nat), n ≤ f → n ≤ g → vPutF f n = vPutF g n
  | 0, 0, n, _, _ => rfl
  | 0, g + 1, n, h, _ => by obtain rfl : n = 0 := by omega
                            simp [vPutF]
  | f + 1, 0, n, _, h => by obtain rfl : n = 0 := by omega
                            simp [vPutF]
  | f + 1, g + 1, n, h1, h2 => by
    simp only [vPutF]
    split
    · rfl
    · rw [vPutF_irrel f g (n / 128) (by omega) (by omega)]
theorem vPut_small (n : Nat) (h : n < 128) : vPut n = [UInt8.ofNat n] := by
  unfold vPut
  cases n with
  | zero => rfl
  | succ n => simp [vPutF, h]
theorem vPut_step (n : Nat) (h : 128 ≤ n) : vPut n = UInt8.ofNat (n % 128 + 128) :: vPut (n / 128) := by
  unfold vPut
  cases n with
  | zero => omega
  | succ n =>
    rw [vPutF, if_neg (by omega), vPutF_irrel n ((n + 1) / 128) _ (by omega) (Nat.le_refl _)]
theorem vPut_len (k : Nat) : ∀ n, n < 128 ^ (k + 1) → (vPut n).length ≤ k + 1 := by
  induction k with
  | zero => intro n h; rw [vPut_small n (by simpa using h)]; simp
  | succ k ih =>
    intro n h
    by_cases h1 : n < 128
    · rw [vPut_small n h1]; simp
    · rw [vPut_step n (by omega)]
      have := ih (n / 128) (by rw [Nat.div_lt_iff_lt_mul (by decide)]; rwa [Nat.pow_succ] at h)
      simp; omega
theorem vPut_len10 (n : Nat) (h : n < 18446744073709551616) : (vPut n).length ≤ 10 := vPut_len 9 n (Nat.lt_of_lt_of_le h (by decide))
theorem vPut_pos (n : Nat) : 1 ≤ (vPut n).length := by
  by_cases h : n < 128
  · rw [vPut_small n h]; simp
  · rw [vPut_step n (by omega)]; simp
theorem or128 (m : Nat) : bits .or .u8 ((m : Int) % 256) (128 : Int) = ((UInt8.ofNat (m % 128 + 128)).toNat : Int) := by
  rw [u8_or _ _ (by omega) (by omega) (by decide) (by decide)]
  have e1 : ((m : Int) % 256).toNat = m % 256 := by omega
  rw [e1]
  have e2 : (m % 256) ||| (128 : Int).toNat = m % 128 + 128 := by
    have : (128 : Int).toNat = 128 := rfl
    rw [this]
    rcases Nat.lt_or_ge (m % 256) 128 with h | h
    · rw [Nat.or_comm, nat_join 7 _ _ (by decide) (by simpa using h)]; omega
    · have : m % 256 = 128 + m % 128 := by omega
      rw [this, ← nat_join 7 128 (m % 128) (by decide) (Nat.mod_lt _ (by decide)), Nat.or_assoc, Nat.or_comm (m % 128), ← Nat.or_assoc, Nat.or_self, nat_join 7 128 (m % 128) (by decide) (Nat.mod_lt _ (by decide))]
      omega
  rw [e2]
  simp
  omega
set_option maxHeartbeats 400000 in
theorem put_any (n : Nat) (hn : n < 18446744073709551616) (w : World) :
    Calls Tryz.prog 51 #[.int .u64 (n : Int)] w fun e w' => e = .returned (.string ⟨(vPut n).toArray⟩) ∧ Below w.heap.size w w' := by
  have H0 := Lib.hid (isBld_fresh w)
  have h10 := Lib.hid (vPut_len10 n hn)
  have HB := Lib.hid ((Below.refl w.heap.size w).alloc (Nat.le_refl _) (.cells #[.pointer none, .slice none 0 0] 93))
  go_enter Tryz.func51, Tryz.ntmps51
  go_wp2
  go_loopw [0] (fun x wr => ∃ (m : Nat) (l : List UInt8), x = .int .u64 (m : Int) ∧ m < 18446744073709551616 ∧ Hid (vPut n = l ++ vPut m) ∧ Hid (isBld wr w.heap.size l) ∧ Hid (Below w.heap.size w wr) ∧ w.heap.size ≤ wr.heap.size) (fun x _ => (intOf x).toNat)
  case atStart => exact ⟨n, [], rfl, hn, rfl, H0.out, HB.out, by simp⟩
  case round =>
    obtain ⟨m, l, rfl, hm, HV, HI, HW, hsz⟩ := hrel
    have hll := congrArg List.length HV.out
    rw [List.length_append] at hll
    have hl10 : l.length ≤ 10 := by have := h10.out; omega
    clear hll
    by_cases h : 128 ≤ m
    · have e1 := or128 m
      generalize hq : UInt8.ofNat (m % 128 + 128) = q at *
      have HQ := Lib.hid hq; clear hq
      go_wp2_with fail
      refine (bldByte_ok _ _ _ _ HI.out (by omega) hsz).mono ?_
      rintro e w1 ⟨rfl, h1, b1⟩
      have H1 := Lib.hid h1; clear h1
      have HW1 := Lib.hid (HW.out.trans b1)
      have hs1 := Nat.le_trans hsz b1.size
      go_wp2
      go_roundw
      case rel => exact ⟨m / 128, l ++ [q], rfl, by omega, by unfold Hid; rw [HV.out, vPut_step m h, HQ.out]; simp, H1, HW1, hs1⟩
      case measure => simp [intOf]; omega
    · have hml : (vPut n) = l ++ [UInt8.ofNat m] := by rw [HV.out, vPut_small m (by omega)]
      have e1 : ((m : Int)) = ((UInt8.ofNat m).toNat : Int) := by simp; omega
      have hmm : m = (UInt8.ofNat m).toNat := by simp; omega
      generalize UInt8.ofNat m = q at *
      subst hmm
      have HM := Lib.hid hml; clear hml
      clear e1
      have hq := q.toNat_lt
      go_wp2_with fail
      refine (bldByte_ok _ _ _ _ HI.out (by omega) hsz).mono ?_
      rintro e w1 ⟨rfl, h1, b1⟩
      have H1 := Lib.hid h1; clear h1
      go_wp2_with fail
      refine (bldString_ok _ _ _ H1.out (by simp)).mono ?_
      rintro e w2 ⟨rfl, b2⟩
      go_wp2
      go_ret
      exact ⟨by rw [HM.out]; rfl, (HW.out.trans b1).trans b2⟩
theorem add_eq0 {b off : Nat} (i : Nat) : (⟨b, off, none⟩ : Addr).add i = ⟨b, off + i, none⟩ := by
  unfold Addr.add; split
  · rename_i h; subst h; rfl
  · rfl
theorem run_own_str {P : Program} (w : World) (src dst e : TypeId) (hs : P.underlying src = some (.slice e)) (he : P.underlying e = some (.int .u8)) (hd : P.underlying dst = some .string)
    {B e' n cap g : Nat} {l : List UInt8} (h : w.ownsRow B e' 1 (.slice (some ⟨g, 0, none⟩) n cap) n (Lib.byteCells l)) :
    (convert src dst (.slice (some ⟨g, 0, none⟩) n cap)).run P w = .ok (.string ⟨l.toArray⟩) w := by
  have hl : l.length = n := by have := h.1; simpa [Lib.byteCells] using this
  refine run_bytes_str w src dst e hs he hd g 0 n cap l hl ?_
  intro i hi2
  have := h.cells (g := g) rfl i (.int .u8 l[i].toNat) (by simp only [Lib.byteCells, List.getElem?_map, List.getElem?_eq_getElem hi2, Option.map_some])
  rw [add_eq0] at this
  exact this
set_option maxRecDepth 100000 in
set_option maxHeartbeats 1000000 in
theorem refPut_any (n : Nat) (hn : n < 18446744073709551616) (w : World) :
    Calls Tryz.prog 30 #[.int .u64 (n : Int)] w fun e w' => e = .returned (.string ⟨(vPut n).toArray⟩) ∧ Below w.heap.size w w' := by
  obtain ⟨i0, hi, hz0, hz1, hz2⟩ := info_parts bldByte
  have h10 := Lib.hid (vPut_len10 n hn)
  go_enter Tryz.func30, Tryz.ntmps30
  go_wp2
  go_loopw [0, 3] (fun x v wr => ∃ (m : Nat) (l : List UInt8), x = .int .u64 (m : Int) ∧ m < 18446744073709551616 ∧ Hid (vPut n = l ++ vPut m) ∧ wr.ownsRow w.heap.size 5 1 v l.length (Lib.byteCells l) ∧ Hid (Below w.heap.size w wr) ∧ w.heap.size ≤ wr.heap.size) (fun x _ _ => (intOf x).toNat)
  case atStart => exact ⟨n, [], rfl, hn, rfl, World.ownsRow_nil _ _ _ _, Below.refl _ _, Nat.le_refl _⟩
  case round =>
    obtain ⟨m, l, rfl, hm, HV, hown, HW, hsz⟩ := hrel
    have hll := congrArg List.length HV.out
    rw [List.length_append] at hll
    have hl10 : l.length ≤ 10 := by have := h10.out; omega
    clear hll
    by_cases h : 128 ≤ m
    · have e1 : ((m : Int) % 128 + 128) = ((UInt8.ofNat (m % 128 + 128)).toNat : Int) := by simp; omega
      generalize hq : UInt8.ofNat (m % 128 + 128) = q at *
      have HQ := Lib.hid hq; clear hq
      go_wp2_with (at_builtin; refine wpList_append_own _ rfl _ _ 83 rfl w.heap.size 5 i0 (.int .u8 0) 1 1 Tryz.underlying83 hi hz0 hz1 hz2 rfl (by decide) _ _ _ rfl (hown.alloc _) ⟨wr.heap.size, 0, none⟩ 1 1 [.int .u8 q.toNat] rfl rfl ?c1 ?c2 ?c3 ?c4 ?c5 ?_)
      case c1 =>
        intro j u hj
        match j, hj with
        | 0, hj => simp at hj; subst hj; simp [Addr.add]
      case c2 => intro u hu; simp at hu; subst hu; rfl
      case c3 => unfold maxLen; omega
      case c4 => omega
      case c5 => simp; omega
      intro v' w1 hown1 hgrow1 _
      have HN := Lib.hid hown1; clear hown1
      have hz1' : w.heap.size ≤ w1.heap.size := by have := hgrow1.size; simp at this; omega
      have HW1 : Hid (Below w.heap.size w w1) := (HW.out.alloc hsz _).grown hgrow1 (by simp; omega) (fun k hk => (hown.lt k hk).1)
      have HG := Lib.hid hgrow1; clear hgrow1
      go_wp2
      go_roundw
      case rel => exact ⟨m / 128, l ++ [q], rfl, by omega, by unfold Hid; rw [HV.out, vPut_step m h, HQ.out]; simp, by simpa [Lib.byteCells] using HN.out, HW1, hz1'⟩
      case measure => simp [intOf]; omega
    · have hml : (vPut n) = l ++ [UInt8.ofNat m] := by rw [HV.out, vPut_small m (by omega)]
      have hmm : m = (UInt8.ofNat m).toNat := by simp; omega
      generalize UInt8.ofNat m = q at *
      subst hmm
      have HM := Lib.hid hml; clear hml
      have hq := q.toNat_lt
      go_wp2_with (at_builtin; refine wpList_append_own _ rfl _ _ 83 rfl w.heap.size 5 i0 (.int .u8 0) 1 1 Tryz.underlying83 hi hz0 hz1 hz2 rfl (by decide) _ _ _ rfl (hown.alloc _) ⟨wr.heap.size, 0, none⟩ 1 1 [.int .u8 q.toNat] rfl rfl ?c1 ?c2 ?c3 ?c4 ?c5 ?_)
      case c1 =>
        intro j u hj
        match j, hj with
        | 0, hj => simp at hj; subst hj; simp [Addr.add]
      case c2 => intro u hu; simp at hu; subst hu; rfl
      case c3 => unfold maxLen; omega
      case c4 => omega
      case c5 => simp; omega
      intro v' w1 hown1 hgrow1 _
      obtain ⟨g, cap, rfl⟩ : ∃ g cap, v' = .slice (some ⟨g, 0, none⟩) (l.length + 1) cap := by
        rcases hown1.2 with ⟨_, h0⟩ | ⟨g, cap, cur, hv, _⟩
        · omega
        · exact ⟨g, cap, hv⟩
      have hconv := run_own_str w1 83 9 5 Tryz.underlying83 Tryz.underlying5 Tryz.underlying9 (l := l ++ [q]) (by simpa [Lib.byteCells] using hown1)
      have HW1 : Hid (Below w.heap.size w w1) := (HW.out.alloc hsz _).grown hgrow1 (by simp; omega) (fun k hk => (hown.lt k hk).1)
      have HG := Lib.hid hgrow1; clear hgrow1
      have HO := Lib.hid hown1; clear hown1
      go_wp2
      go_ret
      exact ⟨by rw [HM.out]; rfl, HW1.out⟩
end Go.Proofs.YtfpofcfoeajkiaaGreat
