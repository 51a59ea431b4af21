/- whole: the messages that are whole now, of any frame that came in its turn, at any end. -/
import Derived.Test.YtjgjhjecgdndjaaLoRange
import Derived.Test.YtjgjhjecgdndjaaLoRow
import Derived.LoopIn
import Derived.LoopNIn
import Derived.RegionIn
namespace Go.Proofs.Ytjgjhjecgdndjaa
open Go.RowKit Go.Shelf Go.Sort Go.Maps
attribute [local go_sem] Oper.semAt_some
set_option linter.unusedVariables false
set_option linter.unusedSimpArgs false
/-- what was there is as it was -/
def AgO (w0 W : World) : Prop := w0.heap.size ≤ W.heap.size ∧ ∀ j, j < w0.heap.size → W.heap[j]? = w0.heap[j]?
/-- frames that came too early: each is one of the messages, at its place -/
def GoodL (T : List ByteArray) (ses : UInt64) (le : List Frm4) : Prop := ∀ f ∈ le, f.1 = ses ∧ ∃ q : Nat, f.2.1 = (q : Int) ∧ T[q]? = some f.2.2.2
theorem FrsB.ago {w0 W : World} {v : Value} {l : List Frm4} (h : FrsB w0 v l) (ha : AgO w0 W) : FrsB W v l := by
  obtain ⟨A, c, h1, h2, h3, h4⟩ := h
  refine ⟨A, c, h1, h2, h3, fun hl => ?_⟩
  obtain ⟨b, off, e1, e2, e3⟩ := h4 hl
  refine ⟨b, off, e1, Nat.lt_of_lt_of_le e2 ha.1, fun i hi => ?_⟩
  obtain ⟨c1, c2, c3, c4⟩ := e3 i hi
  have hk := ha.2 b e2
  exact ⟨(World.cell?_of_block hk).trans c1, (World.cell?_of_block hk).trans c2, (World.cell?_of_block hk).trans c3, (World.cell?_of_block hk).trans c4⟩
def nextOf (W : World) (bk : Nat) : Nat := match W.cell? ⟨bk, 4, none⟩ with
  | some (.int _ i) => i.toNat
  | _ => 0
theorem nextOf_box {bk : Nat} {x0 x1 x2 x3 x5 x6 x7 : Value} {k : IntKind} {i : Int} {W : World} (h : Box8 bk x0 x1 x2 x3 (.int k i) x5 x6 x7 W) : nextOf W bk = i.toNat := by unfold nextOf; rw [h.c4]
theorem take_nextT {T : List ByteArray} {k m : Nat} {d : ByteArray} (h : T[k + m]? = some d) : (T.drop k).take m ++ [d] = (T.drop k).take (m + 1) := by
  have hlt : k + m < T.length := (List.getElem?_eq_some_iff.1 h).1
  have e : (T.drop k)[m]? = some d := by rw [List.getElem?_drop]; exact h
  have hm : m < (T.drop k).length := by rw [List.length_drop]; omega
  rw [List.take_succ_eq_append_getElem hm]
  rw [List.getElem?_eq_getElem hm, Option.some.injEq] at e
  rw [e]
/-- how many messages more are whole once k is, and how many frames that takes out of those that came too early -/
def whN : Nat → List Frm4 → Nat
  | _, [] => 0
  | k, f :: r => if f.2.1 = (k : Int) then whN (k + 1) r + 1 else 0
theorem whN_cons (k : Nat) (f : Frm4) (r : List Frm4) : whN k (f :: r) = if f.2.1 = (k : Int) then whN (k + 1) r + 1 else 0 := rfl
def remN (q k : Nat) (le : List Frm4) : Nat := if q = k then whN (k + 1) le + 1 else 0
theorem whN_le (T : List ByteArray) (ses : UInt64) : ∀ (le : List Frm4) (k : Nat), k ≤ T.length → GoodL T ses le → k + whN k le ≤ T.length
  | [], k, h, _ => h
  | f :: r, k, h, hg => by
    unfold whN
    split
    · rename_i e
      obtain ⟨_, q, hq, hT⟩ := hg f (by simp)
      have hlt := (List.getElem?_eq_some_iff.1 hT).1
      have : q = k := by omega
      subst this
      have ih := whN_le T ses r (q + 1) hlt (fun y hy => hg y (by simp [hy]))
      omega
    · exact h
/-- a block of frames -/
def FrO (o : Obj) : Prop := ∃ cur, o = .cells cur 24 (0, 0)
/-- the iterator's own steps -/
structure TnW (N0 bk : Nat) (A B : World) : Prop where
  os : B.os = A.os
  tape : B.tape = A.tape
  output : B.output = A.output
  size : A.heap.size ≤ B.heap.size
  low : ∀ k : Nat, k < N0 → k ≠ bk → B.heap[k]? = A.heap[k]?
  oth : ∀ (k : Nat) (o : Obj), A.heap[k]? = some o → k ≠ bk → ¬ FrO o → B.heap[k]? = some o
/-- what a round keeps -/
structure KpW (N0 : Nat) (A B : World) : Prop where
  size : A.heap.size ≤ B.heap.size
  low : ∀ k : Nat, k < N0 → B.heap[k]? = A.heap[k]?
  fr : ∀ (k : Nat) (o : Obj), A.heap[k]? = some o → FrO o → B.heap[k]? = some o
theorem TnW.below {N0 bk : Nat} {A B : World} (h : Below A.heap.size A B) (hN : N0 ≤ A.heap.size) : TnW N0 bk A B :=
  ⟨h.os, h.tape, h.output, h.size, fun k hk _ => h.block k (by omega), fun k o ho _ _ => (h.block k (Array.getElem?_eq_some_iff.1 ho).1).trans ho⟩
theorem TnW.setBk {N0 bk : Nat} (A : World) (j : Nat) (v : Value) : TnW N0 bk A (A.setCell ⟨bk, j, none⟩ v) :=
  ⟨rfl, rfl, rfl, by rw [World.size_setCell]; exact Nat.le_refl _, fun k _ hne => Below.heap_setCell _ _ _ _ (by dsimp only; exact hne), fun k o ho hne _ => (Below.heap_setCell _ _ _ _ (by dsimp only; exact hne)).trans ho⟩
theorem TnW.setNB {N0 bk NB : Nat} (A : World) (j : Nat) (v : Value) (hN : N0 ≤ NB) (hf : ∀ o, A.heap[NB]? = some o → FrO o) : TnW N0 bk A (A.setCell ⟨NB, j, none⟩ v) :=
  ⟨rfl, rfl, rfl, by rw [World.size_setCell]; exact Nat.le_refl _, fun k hk _ => Below.heap_setCell _ _ _ _ (by dsimp only; omega), fun k o ho _ hn => (Below.heap_setCell _ _ _ _ (by dsimp only; exact fun e => hn (hf o (e ▸ ho)))).trans ho⟩
theorem heap_set4 {W : World} {b : Nat} {y0 y1 y2 y3 : Value} {t : TypeId} (h : W.heap[b]? = some (.cells #[y0, y1, y2, y3] t (0, 0))) (z0 z1 z2 z3 : Value) :
    ((((W.setCell ⟨b, 0, none⟩ z0).setCell ⟨b, 1, none⟩ z1).setCell ⟨b, 2, none⟩ z2).setCell ⟨b, 3, none⟩ z3).heap[b]? = some (.cells #[z0, z1, z2, z3] t (0, 0)) := by
  have one : ∀ (W : World) (cur : Array Value) (j : Nat) (z : Value), W.heap[b]? = some (.cells cur t (0, 0)) → (W.setCell ⟨b, j, none⟩ z).heap[b]? = some (.cells (cur.set! j z) t (0, 0)) := fun W cur j z h => by
    obtain ⟨hlt, hk⟩ := Array.getElem?_eq_some_iff.1 h
    show (W.heap.modify b _)[b]? = _
    rw [Array.getElem?_eq_getElem (by rw [Array.size_modify]; exact hlt), Array.getElem_modify_self, hk]
    rfl
  exact one _ _ 3 z3 (one _ _ 2 z2 (one _ _ 1 z1 (one _ _ 0 z0 h)))
theorem TnW.set4 {N0 bk NB : Nat} {A : World} {y0 y1 y2 y3 : Value} (hN : N0 ≤ NB) (hne : NB ≠ bk) (hf : A.heap[NB]? = some (.cells #[y0, y1, y2, y3] 24 (0, 0))) (z0 z1 z2 z3 : Value) :
    TnW N0 bk A ((((A.setCell ⟨NB, 0, none⟩ z0).setCell ⟨NB, 1, none⟩ z1).setCell ⟨NB, 2, none⟩ z2).setCell ⟨NB, 3, none⟩ z3) := by
  have hk : ∀ k, k ≠ NB → ((((A.setCell ⟨NB, 0, none⟩ z0).setCell ⟨NB, 1, none⟩ z1).setCell ⟨NB, 2, none⟩ z2).setCell ⟨NB, 3, none⟩ z3).heap[k]? = A.heap[k]? := fun k hk => by
    rw [Below.heap_setCell _ _ _ _ (by dsimp only; exact hk), Below.heap_setCell _ _ _ _ (by dsimp only; exact hk), Below.heap_setCell _ _ _ _ (by dsimp only; exact hk), Below.heap_setCell _ _ _ _ (by dsimp only; exact hk)]
  refine ⟨rfl, rfl, rfl, by simp only [World.size_setCell]; exact Nat.le_refl _, fun k hk1 _ => hk k (by omega), fun k o ho _ hn => ?_⟩
  by_cases e : k = NB
  · subst e; rw [hf] at ho; cases ho; exact absurd ⟨_, rfl⟩ hn
  · exact (hk k e).trans ho
def WInv (w0 : World) (bk bw NB N0 : Nat) (ses : UInt64) (x1 x2 x3 x6 x7 ve : Value) (T : List ByteArray) (le : List Frm4) (k m0 : Nat) (J : Nat → World → Prop) (m q : Nat) (a : Int) (d : ByteArray) (A : Option Addr) (n c : Nat) (le' : List Frm4) (wr : World) : Prop :=
  m0 = m + remN q (k + m) le' ∧ T[q]? = some d ∧ wr.heap[NB]? = some (.cells #[.int .u64 ses.toNat, .int .i64 q, .int .i64 a, .string d] 24 (0, 0)) ∧ Box8 bk (.int .u64 ses.toNat) x1 x2 x3 (.int .i64 ((k + m : Nat) : Int)) (.slice A n c) x6 x7 wr ∧ (FrsN w0 (.slice A n c) le' ∧ le'.length = n) ∧ GoodL T ses le' ∧ le'.length ≤ le.length ∧ SrcO ve (.slice A n c) ∧ J m wr ∧ N0 ≤ NB ∧ AgO w0 wr ∧ wr.cell? ⟨bw, 0, none⟩ = some (.pointer (some ⟨bk, 0, none⟩))
def WEnd (w0 : World) (bk : Nat) (ses : UInt64) (x1 x2 x3 x6 x7 ve : Value) (T : List ByteArray) (le : List Frm4) (k m0 : Nat) (W : World) : Prop :=
  ∃ (ve' : Value) (le' : List Frm4), Box8 bk (.int .u64 ses.toNat) x1 x2 x3 (.int .i64 ((k + m0 : Nat) : Int)) ve' x6 x7 W ∧ FrsN w0 ve' le' ∧ GoodL T ses le' ∧ le'.length ≤ le.length ∧ SrcO ve ve'
set_option maxRecDepth 100000 in
set_option maxHeartbeats 4000000 in
theorem whole1_ty (n : Nat) (hn : 1 ≤ n) (bk bf bw N0 : Nat) (ses : UInt64) (x1 x2 x3 x6 x7 : Value) (Ae : Option Addr) (ne ce : Nat) (T : List ByteArray) (k q : Nat) (a : Int) (d : ByteArray) (le : List Frm4) (w0 w : World)
    (hT : T.length ≤ 90) (hk : k ≤ T.length) (hqd : T[q]? = some d) (hg : GoodL T ses le) (he : FrsN w0 (.slice Ae ne ce) le) (hB0 : w0.heap.size ≤ bk) (hag : AgO w0 w) (hN : bk < N0 ∧ bf < N0 ∧ bw < N0 ∧ N0 ≤ w.heap.size) (hbw : bw ≠ bk)
    (hf : w.heap[bf]? = some (.cells #[.int .u64 ses.toNat, .int .i64 q, .int .i64 a, .string d] 24 (0, 0))) (hw : w.cell? ⟨bw, 0, none⟩ = some (.pointer (some ⟨bk, 0, none⟩)))
    (hx : Box8 bk (.int .u64 ses.toNat) x1 x2 x3 (.int .i64 k) (.slice Ae ne ce) x6 x7 w) :
    SeqTY Fence.wide n Try.prog 57 #[.pointer (some ⟨bf, 0, none⟩), .pointer (some ⟨bw, 0, none⟩)] (fun t : ByteArray => #[.string t]) (KpW N0) (TnW N0 bk) (WEnd w0 bk ses x1 x2 x3 x6 x7 (.slice Ae ne ce) T le k (remN q k le)) ((T.drop k).take (remN q k le)) w := by
  intro l J W hW hJ hY h0
  have hf := (hW.block _ (Array.getElem?_eq_some_iff.1 hf).1).trans hf
  have hx := hx.below hW hx.lt
  have hw := (hW.cell (p := ⟨bw, 0, none⟩) (by dsimp only; omega)).trans hw
  have hag : AgO w0 W := ⟨Nat.le_trans hag.1 hW.size, fun j hj => (hW.block j (Nat.lt_of_lt_of_le hj hag.1)).trans (hag.2 j hj)⟩
  have hNW : N0 ≤ W.heap.size := Nat.le_trans hN.2.2.2 hW.size
  obtain ⟨m0, hm0⟩ : ∃ m0, m0 = remN q k le := ⟨_, rfl⟩
  have hml : k + m0 ≤ T.length := by
    rw [hm0]
    unfold remN
    split
    · rename_i e
      have hlt := (List.getElem?_eq_some_iff.1 hqd).1
      have := whN_le T ses le (k + 1) (by omega) hg
      omega
    · exact hk
  have hxl : ((T.drop k).take m0).length = m0 := by rw [List.length_take, List.length_drop]; omega
  rw [← hm0] at hY ⊢
  rw [hxl]
  have HYY := Lib.hid hY
  have HJJ := Lib.hid hJ
  clear hY hJ hW
  refine callsIn_of_wp Try.func57 rfl trivial ?_ rfl
  simp only [Try.ntmps57, List.size_toArray, List.length_cons, List.length_nil, Nat.reduceAdd, Nat.reduceSub, Array.replicate_succ, Array.replicate_zero, List.push_toArray, List.append_toArray, List.nil_append, List.cons_append]
  obtain ⟨f0, f1, f2, f3, _⟩ := cells4 hf
  have HX := Lib.hid hx
  clear hx
  gi_wp2_with fail
  obtain ⟨Wa, hWa⟩ : ∃ Wa, Wa = W.alloc (.cells #[.int .u64 ses.toNat, .int .i64 q, .int .i64 a, .string d] 24) := ⟨_, rfl⟩
  have hba : Below W.heap.size W Wa := by rw [hWa]; exact (Below.refl _ _).alloc (Nat.le_refl _) _
  have hqa : Wa.heap[W.heap.size]? = some (.cells #[.int .u64 ses.toNat, .int .i64 q, .int .i64 a, .string d] 24 (0, 0)) := by rw [hWa]; exact World.alloc_heap_new _ _
  have hlen : le.length = ne := by obtain ⟨A', c', e, _, _⟩ := he.len; cases e; rfl
  have HI0 : Hid (WInv w0 bk bw W.heap.size N0 ses x1 x2 x3 x6 x7 (.slice Ae ne ce) T le k m0 J 0 q a d Ae ne ce le Wa) := by
    refine ⟨by rw [hm0, Nat.add_zero, Nat.zero_add], hqd, hqa, HX.out.below hba HX.out.lt, ⟨he, hlen⟩, hg, Nat.le_refl _, fun b hb => hb, HJJ.out _ _ _ h0 (TnW.below hba hNW), hNW, ⟨Nat.le_trans hag.1 hba.size, fun j hj => (hba.block j (Nat.lt_of_lt_of_le hj hag.1)).trans (hag.2 j hj)⟩, (hba.cell (p := ⟨bw, 0, none⟩) (by dsimp only; omega)).trans hw⟩
  rw [← hWa]
  clear hWa hba hqa hlen HX f0 f1 f2 f3 h0 hf hw hag hm0 hxl
  gi_loopw [4] (fun p wr => ∃ (m q : Nat) (a : Int) (d : ByteArray) (A : Option Addr) (n c : Nat) (le' : List Frm4) (NB : Nat), p = .pointer (some ⟨NB, 0, none⟩) ∧ Hid (WInv w0 bk bw NB N0 ses x1 x2 x3 x6 x7 (.slice Ae ne ce) T le k m0 J m q a d A n c le' wr)) (fun p wr => T.length + 1 - nextOf wr bk)
  case atStart => exact ⟨0, q, a, d, Ae, ne, ce, le, W.heap.size, rfl, HI0⟩
  case round =>
    obtain ⟨m, q', a', d', A, n', c, le', NB, rfl, HI⟩ := hrel
    clear HI0
    obtain ⟨i1, i2, i3, i4, i5, i6, i7, i8, i9, i10, i11, i12⟩ := HI.out
    obtain ⟨km, hkm⟩ : ∃ km, km = k + m := ⟨_, rfl⟩
    rw [← hkm] at i1 i4
    have HKM := Lib.hid hkm
    have HM := Lib.hid (nextOf_box i4)
    obtain ⟨f0, f1, f2, f3, ff⟩ := cells4 i3
    have x4 := i4.c4
    have hq9 : q' < T.length := (List.getElem?_eq_some_iff.1 i2).1
    by_cases hqk : q' = km
    · have d1 : ((q' : Int) == (km : Int)) = true := by rw [beq_iff_eq]; omega
      have d2 : decide ((km : Int) < 1073741824) = true := by rw [decide_eq_true_iff]; omega
      have hrem : m0 = m + (whN (km + 1) le' + 1) := by rw [i1]; unfold remN; rw [if_pos hqk]
      have hxs : ((T.drop k).take m0)[m]? = some d' := by
        rw [List.getElem?_take_of_lt (by omega), List.getElem?_drop, ← hkm, ← hqk]; exact i2
      have hkm9 : km < 90 := by omega
      have hw64 : IntKind.i64.wrap ((km : Int) + 1) = (km : Int) + 1 := by rw [IntKind.wrap_i64]; omega
      have xf := i4.f 4
      have I5 := Lib.hid i5
      have I6 := Lib.hid i6
      have I7 := Lib.hid i7
      have I8 := Lib.hid i8
      have I3 := Lib.hid i3
      clear i1 i2 i5 i6 i7 i8 hqk hkm
      gi_wp2_with fail
      gi_quiet (fail)
      obtain ⟨W1, hW1⟩ : ∃ W1, W1 = (wr.drewN nq).setCell ⟨bk, 4, none⟩ (.int .i64 ((km : Int) + 1)) := ⟨_, rfl⟩
      have hJ1 := HJJ.out _ _ W1 (HJJ.out _ _ (wr.drewN nq) i9 ⟨rfl, rfl, rfl, Nat.le_refl _, fun _ _ _ => rfl, fun _ _ h _ _ => h⟩) (by rw [hW1]; exact TnW.setBk _ _ _)
      have hx1 : Box8 bk (.int .u64 ses.toNat) x1 x2 x3 (.int .i64 ((km : Int) + 1)) (.slice A n' c) x6 x7 W1 := by rw [hW1]; exact Box8.set4 (box_of_block (w' := wr.drewN nq) i4 rfl) _
      have hbw1 : W1.cell? ⟨bw, 0, none⟩ = some (.pointer (some ⟨bk, 0, none⟩)) := by
        rw [hW1, World.cell?_setCell_other _ _ _ _ (by intro e; injection e with e _; omega)]
        exact i12
      have hnb1 : W1.heap[NB]? = some (.cells #[.int .u64 ses.toNat, .int .i64 q', .int .i64 a', .string d'] 24 (0, 0)) := by rw [hW1]; exact (Below.heap_setCell _ _ _ _ (by dsimp only; omega)).trans I3.out
      have ha1 : AgO w0 W1 := by rw [hW1]; exact ⟨by rw [World.size_setCell]; exact i11.1, fun j hj => (Below.heap_setCell _ _ _ _ (by dsimp only; omega)).trans (i11.2 j hj)⟩
      have HX1 := Lib.hid hx1
      have HNB := Lib.hid hnb1
      have HAG := Lib.hid ha1
      obtain ⟨fn, tmps, assign, body, hy, hR⟩ := HYY.out _ d' W1 hJ1 hxs
      have HR := Lib.hid hR
      clear hR i4 i9 i11 hx1 hnb1 ha1 hJ1
      rw [hW1] at hy
      gi_wp2_with fail
      rw [← hW1]
      refine HR.out.mono ?_
      rintro e W3 ⟨rfl, hJ3, hk3⟩
      have hwN : w0.heap.size ≤ N0 := by omega
      have hx3 : Box8 bk (.int .u64 ses.toNat) x1 x2 x3 (.int .i64 ((km : Int) + 1)) (.slice A n' c) x6 x7 W3 := box_of_block HX1.out (hk3.low bk hN.1)
      have hw3 : W3.cell? ⟨bw, 0, none⟩ = some (.pointer (some ⟨bk, 0, none⟩)) := (World.cell?_of_block (a := ⟨bw, 0, none⟩) (hk3.low bw hN.2.2.1)).trans hbw1
      have hnb3 := hk3.fr NB _ HNB.out ⟨_, rfl⟩
      have hag3 : AgO w0 W3 := ⟨Nat.le_trans HAG.out.1 hk3.size, fun j hj => (hk3.low j (by omega)).trans (HAG.out.2 j hj)⟩
      have HJ3 := Lib.hid hJ3
      have HX3 := Lib.hid hx3
      have HNB3 := Lib.hid hnb3
      have HAG3 := Lib.hid hag3
      have b5 := hx3.c5
      have b4 := hx3.c4
      have hNBk : NB ≠ bk := by omega
      clear hJ3 hk3 hx3 hnb3 hag3 HR hy hW1 HX1 HNB HAG hbw1 x4 xf f0 f1 f2 f3 ff hxs I3 HI
      cases le' with
      | nil =>
        have hn0 : n' = 0 := by have := I5.out.2; simpa using this.symm
        subst hn0
        have hm1 : m0 = m + 1 := by rw [hrem]; rfl
        gi_wp2_with fail
        refine bodyPost_ret (results_none rfl _ _ _) rfl ?_
        have hkm1 : (km : Int) + 1 = ((k + (m + 1) : Nat) : Int) := by have := HKM.out; omega
        exact ⟨⟨_, rfl⟩, by rw [hm1]; exact HJ3.out, _, [], by rw [hm1, ← hkm1]; exact HX3.out, I5.out.1, I6.out, I7.out, I8.out⟩
      | cons fr r =>
        have hn1 : n' = r.length + 1 := by have := I5.out.2; simpa using this.symm
        obtain ⟨hses, q2, hq2, hTq⟩ := I6.out fr (by simp)
        obtain ⟨A', c', e, h2, h3, h4⟩ := (I5.out.1.1).ago HAG3.out
        cases e
        obtain ⟨b, off, rfl, hbl, hcs⟩ := h4 (by simp)
        obtain ⟨y0, y1, y2, y3⟩ := hcs 0 (by simp)
        obtain ⟨s2, q3, a2, d2'⟩ := fr
        simp only [List.getElem_cons_zero, Nat.zero_mul, Nat.add_zero] at y0 y1 y2 y3
        dsimp only at hses hq2 hTq
        subst hses hq2
        have hc9 : (1 : Int) ≤ (c : Int) := by simp only [List.length_cons] at h2; omega
        obtain ⟨nn, hnn⟩ : ∃ nn, nn = ((s2, (q2 : Int), a2, d2') :: r).length := ⟨_, rfl⟩
        rw [← hnn] at I5 I8 b5 HX3 h2
        have hnr : nn = r.length + 1 := by rw [hnn]; simp
        have hl0 : ((nn : Int) == 0) = false := by rw [beq_eq_false_iff_ne]; omega
        have hl1 : (0 : Int) < (nn : Int) := by omega
        have hl2 : (1 : Int) ≤ (nn : Int) := by omega
        obtain ⟨g0, g1, g2, g3, gf⟩ := cells4 HNB3.out
        have gf0 := gf 0
        have gf1 := gf 1
        have gf2 := gf 2
        have gf3 := gf 3
        have HNR := Lib.hid hnr
        have HREM := Lib.hid hrem
        have HTQ := Lib.hid hTq
        clear h4 hcs gf hn1 hnn hnr hrem hTq h2
        gi_wp2_with fail
        obtain ⟨W4, hW4⟩ : ∃ W4, W4 = (((W3.setCell ⟨NB, 0, none⟩ (.int .u64 s2.toNat)).setCell ⟨NB, 1, none⟩ (.int .i64 (q2 : Int))).setCell ⟨NB, 2, none⟩ (.int .i64 a2)).setCell ⟨NB, 3, none⟩ (.string d2') := ⟨_, rfl⟩
        have hko : ∀ j, j ≠ NB → W4.heap[j]? = W3.heap[j]? := fun j hj => by
          rw [hW4, Below.heap_setCell _ _ _ _ (by dsimp only; exact hj), Below.heap_setCell _ _ _ _ (by dsimp only; exact hj), Below.heap_setCell _ _ _ _ (by dsimp only; exact hj), Below.heap_setCell _ _ _ _ (by dsimp only; exact hj)]
        have hn4 : W4.heap[NB]? = some (.cells #[.int .u64 s2.toNat, .int .i64 (q2 : Int), .int .i64 a2, .string d2'] 24 (0, 0)) := by rw [hW4]; exact heap_set4 HNB3.out _ _ _ _
        have hx4 := box_of_block HX3.out (hko bk (fun e => hNBk e.symm))
        have hw4 : W4.cell? ⟨bw, 0, none⟩ = some (.pointer (some ⟨bk, 0, none⟩)) := (World.cell?_of_block (a := ⟨bw, 0, none⟩) (hko bw (by omega))).trans hw3
        have hsz4 : W4.heap.size = W3.heap.size := by rw [hW4]; simp only [World.size_setCell]
        have hag4 : AgO w0 W4 := ⟨by rw [hsz4]; exact HAG3.out.1, fun j hj => (hko j (by omega)).trans (HAG3.out.2 j hj)⟩
        have hJ4 : J (m + 1) W4 := HJJ.out _ _ _ HJ3.out (by rw [hW4]; exact TnW.set4 (by omega) hNBk HNB3.out _ _ _ _)
        rw [← hW4]
        have HN4 := Lib.hid hn4
        have HX4 := Lib.hid hx4
        have HAG4 := Lib.hid hag4
        have HJ4 := Lib.hid hJ4
        obtain ⟨f0, f1, f2, f3, ff⟩ := cells4 hn4
        have c4 := hx4.c4
        have c5 := hx4.c5
        have cf5 := hx4.f 5
        have hNB4 : NB < W4.heap.size := (Array.getElem?_eq_some_iff.1 hn4).1
        have HWB : Hid (bw < W4.heap.size ∧ ∀ W, Below W4.heap.size W4 W → W.cell? ⟨bw, 0, none⟩ = some (.pointer (some ⟨bk, 0, none⟩))) := by
          have hlt : bw < W4.heap.size := by omega
          exact ⟨hlt, fun W hW => (hW.cell (p := ⟨bw, 0, none⟩) hlt).trans hw4⟩
        clear hW4 hn4 hx4 hag4 hJ4 hko hsz4 HNB3 HX3 HAG3 HJ3 y0 y1 y2 y3 b4 b5 g0 g1 g2 g3 gf0 gf1 gf2 gf3 hw3 hbl
        by_cases hq : q2 = km + 1
        · have d3 : ((q2 : Int) == (km : Int) + 1) = true := by rw [beq_iff_eq]; omega
          have d4 : decide ((km : Int) + 1 < 1073741824) = true := by rw [decide_eq_true_iff]; omega
          have hrm : m0 = m + 1 + remN q2 (km + 1) r := by
            rw [HREM.out]
            unfold remN
            rw [if_pos hq, whN_cons, if_pos (by dsimp only; omega)]
            omega
          have HRM := Lib.hid hrm
          have HQ2 := Lib.hid hq
          have HFX := Lib.hid (And.intro hkm9 (And.intro hN (And.intro hT (And.intro hml (And.intro hwN (And.intro hNBk hNB4))))))
          have HBWK := Lib.hid hbw
          have HB00 := Lib.hid hB0
          clear hrm hq hkm9 hN hT hml hwN hNBk hNB4 hqd hk hg he hB0 hbw
          gi_wp2_with fail
          gi_quiet (fail)
          obtain ⟨W5, hW5⟩ : ∃ W5, W5 = W4.drewN nq := ⟨_, rfl⟩
          have hb5 : Below W4.heap.size W4 W5 := by rw [hW5]; exact Below.drewN (Below.refl _ _) _
          have f0' : W5.cell? ⟨NB, 0, none⟩ = some (.int .u64 s2.toNat) := by rw [hW5]; exact f0
          have f1' : W5.cell? ⟨NB, 1, none⟩ = some (.int .i64 (q2 : Int)) := by rw [hW5]; exact f1
          have f2' : W5.cell? ⟨NB, 2, none⟩ = some (.int .i64 a2) := by rw [hW5]; exact f2
          have f3' : W5.cell? ⟨NB, 3, none⟩ = some (.string d2') := by rw [hW5]; exact f3
          have c5' : W5.cell? ⟨bk, 5, none⟩ = some (.slice (some ⟨b, off, none⟩) nn c) := by rw [hW5]; exact c5
          have cf5' : W5.frozen? ⟨bk, 5, none⟩ = false := by rw [hW5]; exact cf5
          have hw5 : W5.cell? ⟨bw, 0, none⟩ = some (.pointer (some ⟨bk, 0, none⟩)) := by rw [hW5]; exact hw4
          have HB5 := Lib.hid hb5
          rw [← hW5]
          clear hW5 hb5 f0 f1 f2 f3 ff c4 c5 cf5 hw4 d3 d4 hl0 hl1 d1 d2 hw64 i12 hf hx hw hag i3
          gi_wp2_with fail
          gi_region
          obtain ⟨VA, hVA⟩ : ∃ VA : Option Addr, VA = (if c = 1 then some ⟨b, off, none⟩ else some ⟨b, off + 4, none⟩) := ⟨_, rfl⟩
          have hVS : Go.sliced (some ⟨b, off, none⟩) 1 nn c 4 = .slice VA (nn - 1) (c - 1) := by
            unfold Go.sliced
            rw [hVA]
            by_cases e : c = 1
            · rw [if_pos e, if_pos e]
            · rw [if_neg e, if_neg e]; simp [Addr.add]
          have hFr : FrsN w0 (.slice VA (nn - 1) (c - 1)) r := by
            rw [← hVS]
            exact I5.out.1.drop 1 (by simp)
          have hSo : SrcO (.slice Ae ne ce) (.slice VA (nn - 1) (c - 1)) := by
            rw [← hVS]
            intro b' hb'
            exact I8.out b' (SrcO.sliced (some ⟨b, off, none⟩) 1 nn c 4 nn c b' hb')
          rw [← hVA]
          have hx6 : Box8 bk (.int .u64 s2.toNat) x1 x2 x3 (.int .i64 ((km : Int) + 1)) (.slice VA (nn - 1) (c - 1)) x6 x7 (W5.setCell ⟨bk, 5, none⟩ (.slice VA (nn - 1) (c - 1))) := Box8.set5 (HX4.out.below HB5.out HX4.out.lt) _
          obtain ⟨W6, hW6⟩ : ∃ W6, W6 = (W5.setCell ⟨bk, 5, none⟩ (.slice VA (nn - 1) (c - 1))).drew := ⟨_, rfl⟩
          have hx7 : Box8 bk (.int .u64 s2.toNat) x1 x2 x3 (.int .i64 ((km : Int) + 1)) (.slice VA (nn - 1) (c - 1)) x6 x7 W6 := by rw [hW6]; exact box_of_block (w' := (W5.setCell ⟨bk, 5, none⟩ (.slice VA (nn - 1) (c - 1))).drew) hx6 rfl
          have hk6 : ∀ j, j ≠ bk → W6.heap[j]? = W5.heap[j]? := fun j hj => by rw [hW6]; exact Below.heap_setCell _ _ _ _ (by dsimp only; exact hj)
          have hs6 : W6.heap.size = W5.heap.size := by rw [hW6]; exact World.size_setCell _ _ _
          have hnk : NB ≠ bk := HFX.out.2.2.2.2.2.1
          have f0 := (World.cell?_of_block (a := ⟨NB, 0, none⟩) (hk6 NB hnk)).trans f0'
          have f1 := (World.cell?_of_block (a := ⟨NB, 1, none⟩) (hk6 NB hnk)).trans f1'
          have f2 := (World.cell?_of_block (a := ⟨NB, 2, none⟩) (hk6 NB hnk)).trans f2'
          have f3 := (World.cell?_of_block (a := ⟨NB, 3, none⟩) (hk6 NB hnk)).trans f3'
          have hj6 : J (m + 1) W6 := HJJ.out _ _ _ (HJJ.out _ _ _ (HJJ.out _ _ _ HJ4.out (TnW.below HB5.out (by have := HFX.out; omega))) (TnW.setBk W5 5 (.slice VA (nn - 1) (c - 1)))) (by rw [hW6]; exact ⟨rfl, rfl, rfl, Nat.le_refl _, fun _ _ _ => rfl, fun _ _ h _ _ => h⟩)
          have hw6 := (World.cell?_of_block (a := ⟨bw, 0, none⟩) (hk6 bw HBWK.out)).trans hw5
          have HX7 := Lib.hid hx7
          have HJ6 := Lib.hid hj6
          have HFr := Lib.hid hFr
          have HSo := Lib.hid hSo
          have HW6 := Lib.hid hw6
          have HK6 := Lib.hid hk6
          have HS6 := Lib.hid hs6
          rw [← hW6]
          clear hVA hVS hFr hSo hx6 hW6 hx7 hk6 hs6 hnk hj6 hw6 f0' f1' f2' f3' c5' cf5' hw5 hl2 hc9
          gi_wp2_with fail
          go_roundw
          case rel =>
            have hb6 : Below W6.heap.size W6 (W6.alloc (.cells #[.int .u64 s2.toNat, .int .i64 (q2 : Int), .int .i64 a2, .string d2'] 24)) := (Below.refl _ _).alloc (Nat.le_refl _) _
            have hkm1 : (km : Int) + 1 = ((k + (m + 1) : Nat) : Int) := by have := HKM.out; omega
            have hf9 := HFX.out
            have hf8 := HB00.out
            have hs9 := HS6.out
            have hb9 := HB5.out.size
            refine ⟨m + 1, q2, a2, d2', _, _, _, r, W6.heap.size, rfl, by rw [HRM.out, HKM.out]; rfl, HTQ.out, World.alloc_heap_new _ _, by rw [← hkm1]; exact HX7.out.below hb6 HX7.out.lt, ⟨HFr.out, by have := HNR.out; omega⟩, fun y hy => I6.out y (by simp [hy]), by have := I7.out; simp only [List.length_cons] at this; omega, HSo.out, HJJ.out _ _ _ HJ6.out (TnW.below hb6 (by omega)), by omega, ⟨by have := HAG4.out.1; rw [World.size_alloc]; omega, fun j hj => ?_⟩, (hb6.cell (p := ⟨bw, 0, none⟩) (by dsimp only; omega)).trans HW6.out⟩
            have h1 := HAG4.out.1
            rw [hb6.block j (by omega), HK6.out j (by omega), HB5.out.block j (by omega)]
            exact HAG4.out.2 j hj
          case measure =>
            have hb6 : Below W6.heap.size W6 (W6.alloc (.cells #[.int .u64 s2.toNat, .int .i64 (q2 : Int), .int .i64 a2, .string d2'] 24)) := (Below.refl _ _).alloc (Nat.le_refl _) _
            rw [nextOf_box (HX7.out.below hb6 HX7.out.lt), HM.out]
            have := HFX.out
            have := HKM.out
            have := HREM.out
            omega
        · have d3 : ((q2 : Int) == (km : Int) + 1) = false := by rw [beq_eq_false_iff_ne]; omega
          have hrm : m0 = m + 1 + remN q2 (km + 1) ((s2, (q2 : Int), a2, d2') :: r) := by
            rw [HREM.out]
            unfold remN
            rw [if_neg hq, whN_cons, if_neg (by dsimp only; omega)]
          have HRM := Lib.hid hrm
          have HQ2 := Lib.hid hq
          have HFX := Lib.hid (And.intro hkm9 (And.intro hN (And.intro hT (And.intro hml (And.intro hwN (And.intro hNBk hNB4))))))
          have HBWK := Lib.hid hbw
          have HB00 := Lib.hid hB0
          clear hrm hq hkm9 hN hT hml hwN hNBk hNB4 hqd hk hg he hB0 hbw
          gi_wp2_with fail
          gi_quiet (fail)
          obtain ⟨W5, hW5⟩ : ∃ W5, W5 = W4.drewN nq := ⟨_, rfl⟩
          have hb5 : Below W4.heap.size W4 W5 := by rw [hW5]; exact Below.drewN (Below.refl _ _) _
          have f0' : W5.cell? ⟨NB, 0, none⟩ = some (.int .u64 s2.toNat) := by rw [hW5]; exact f0
          have f1' : W5.cell? ⟨NB, 1, none⟩ = some (.int .i64 (q2 : Int)) := by rw [hW5]; exact f1
          have f2' : W5.cell? ⟨NB, 2, none⟩ = some (.int .i64 a2) := by rw [hW5]; exact f2
          have f3' : W5.cell? ⟨NB, 3, none⟩ = some (.string d2') := by rw [hW5]; exact f3
          have HB5 := Lib.hid hb5
          rw [← hW5]
          clear hW5 hb5 f0 f1 f2 f3 ff c4 c5 cf5 hw4 d3 hl0 hl1 hl2 d1 d2 hw64 hc9 i12 hf hx hw hag i3
          gi_wp2_with fail
          go_roundw
          case rel =>
            have hb6 : Below W5.heap.size W5 (W5.alloc (.cells #[.int .u64 s2.toNat, .int .i64 (q2 : Int), .int .i64 a2, .string d2'] 24)) := (Below.refl _ _).alloc (Nat.le_refl _) _
            have hb7 := HB5.out.trans (hb6.mono HB5.out.size)
            have hkm1 : (km : Int) + 1 = ((k + (m + 1) : Nat) : Int) := by have := HKM.out; omega
            refine ⟨m + 1, q2, a2, d2', _, _, _, _, W5.heap.size, rfl, by rw [HRM.out, HKM.out]; rfl, HTQ.out, World.alloc_heap_new _ _, by rw [← hkm1]; exact HX4.out.below hb7 HX4.out.lt, ⟨I5.out.1, HNR.out.symm ▸ (by simp)⟩, I6.out, I7.out, I8.out, HJJ.out _ _ _ HJ4.out (TnW.below hb7 (by have := HFX.out; omega)), by have := HFX.out; have := HB5.out.size; omega, ⟨Nat.le_trans HAG4.out.1 hb7.size, fun j hj => (hb7.block j (Nat.lt_of_lt_of_le hj HAG4.out.1)).trans (HAG4.out.2 j hj)⟩, HWB.out.2 _ hb7⟩
          case measure =>
            have hb6 : Below W5.heap.size W5 (W5.alloc (.cells #[.int .u64 s2.toNat, .int .i64 (q2 : Int), .int .i64 a2, .string d2'] 24)) := (Below.refl _ _).alloc (Nat.le_refl _) _
            have hb7 := HB5.out.trans (hb6.mono HB5.out.size)
            rw [nextOf_box (HX4.out.below hb7 HX4.out.lt), HM.out]
            have := HFX.out
            have := HKM.out
            have := HREM.out
            omega
    · have d1 : ((q' : Int) == (km : Int)) = false := by rw [beq_eq_false_iff_ne]; omega
      have hm : m0 = m := by rw [i1]; unfold remN; rw [if_neg hqk]; rfl
      clear i1 i2 i3 hqk hkm
      gi_wp2_with fail
      gi_quiet (fail)
      gi_wp2_with fail
      go_end0
      exact ⟨⟨_, rfl⟩, by rw [hm]; exact HJJ.out _ _ _ i9 ⟨rfl, rfl, rfl, Nat.le_refl _, fun _ _ _ => rfl, fun _ _ h _ _ => h⟩, _, le', by rw [hm, ← HKM.out]; exact box_of_block (w' := wr.drewN nq) i4 rfl, i5.1, i6, i7, i8⟩
end Go.Proofs.Ytjgjhjecgdndjaa
