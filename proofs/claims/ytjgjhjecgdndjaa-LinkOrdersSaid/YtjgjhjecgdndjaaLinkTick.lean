/- Tick at an end that lives on. -/
import Derived.Test.YtjgjhjecgdndjaaLinkFill
namespace Go.Proofs.Ytjgjhjecgdndjaa
open Go.RowKit
set_option linter.unusedVariables false
set_option linter.unusedSimpArgs false
/-- the frames of what is under way -/
def outsFrom (ses : Nat) (next : Int) : Int → List ByteArray → List ByteArray
  | _, [] => []
  | b, s :: r => ⟨(lWrite ses b next s.data.toList).toArray⟩ :: outsFrom ses next (b + 1) r
def lTick (ses : Nat) (base next : Int) (L : List ByteArray) : List ByteArray := if L = [] then [⟨(lWrite ses base next []).toArray⟩] else outsFrom ses next base L
theorem outs_len (ses : Nat) (next : Int) : ∀ (L : List ByteArray) (b : Int), (outsFrom ses next b L).length = L.length
  | [], _ => rfl
  | _ :: r, b => by simp [outsFrom, outs_len ses next r (b + 1)]
theorem outs_snoc (ses : Nat) (next : Int) (x : ByteArray) : ∀ (L : List ByteArray) (b : Int), outsFrom ses next b (L ++ [x]) = outsFrom ses next b L ++ [⟨(lWrite ses (b + L.length) next x.data.toList).toArray⟩]
  | [], b => by simp [outsFrom]
  | y :: r, b => by
    rw [List.cons_append, outsFrom, outs_snoc ses next x r (b + 1), outsFrom, List.cons_append]
    rw [show b + 1 + (r.length : Int) = b + ((y :: r).length : Int) by simp; omega]
theorem only_of_below {a w : World} (h : Below a.heap.size a w) (row : Option Nat) : a.grownBy w row := ⟨h.os, h.tape, h.output, h.size, fun i hi _ => h.block i hi⟩
theorem only_of_below' {a w : World} (h : Below a.heap.size a w) : a.grownBy w none := only_of_below h none
theorem own_or (v : Value) : v.ownBlock = none ∨ v.ownBlock ≠ none := by
  by_cases e : v.ownBlock = none
  · exact .inl e
  · exact .inr e
theorem owns_set8 {w : World} {B b size n : Nat} {e : TypeId} {v : Value} {xs : List Value} (h : w.ownsRow B e size v n xs) (hb : b < B) (x0 x1 x2 x3 x4 x5 x6 x7 : Value) :
    ((((((((w.setCell ⟨b, 0, none⟩ x0).setCell ⟨b, 1, none⟩ x1).setCell ⟨b, 2, none⟩ x2).setCell ⟨b, 3, none⟩ x3).setCell ⟨b, 4, none⟩ x4).setCell ⟨b, 5, none⟩ x5).setCell ⟨b, 6, none⟩ x6).setCell ⟨b, 7, none⟩ x7).ownsRow B e size v n xs :=
  ownsRow_setCell_below (ownsRow_setCell_below (ownsRow_setCell_below (ownsRow_setCell_below (ownsRow_setCell_below (ownsRow_setCell_below (ownsRow_setCell_below (ownsRow_setCell_below h (a := ⟨b, 0, none⟩) hb _) (a := ⟨b, 1, none⟩) hb _) (a := ⟨b, 2, none⟩) hb _) (a := ⟨b, 3, none⟩) hb _) (a := ⟨b, 4, none⟩) hb _) (a := ⟨b, 5, none⟩) hb _) (a := ⟨b, 6, none⟩) hb _) (a := ⟨b, 7, none⟩) hb _
theorem box_of_block {b : Nat} {x0 x1 x2 x3 x4 x5 x6 x7 : Value} {w w' : World} (h : Box8 b x0 x1 x2 x3 x4 x5 x6 x7 w) (hb : w'.heap[b]? = w.heap[b]?) : Box8 b x0 x1 x2 x3 x4 x5 x6 x7 w' :=
  ⟨(World.cell?_of_block (a := ⟨b, 0, none⟩) hb).trans h.c0, (World.cell?_of_block (a := ⟨b, 1, none⟩) hb).trans h.c1, (World.cell?_of_block (a := ⟨b, 2, none⟩) hb).trans h.c2, (World.cell?_of_block (a := ⟨b, 3, none⟩) hb).trans h.c3, (World.cell?_of_block (a := ⟨b, 4, none⟩) hb).trans h.c4, (World.cell?_of_block (a := ⟨b, 5, none⟩) hb).trans h.c5, (World.cell?_of_block (a := ⟨b, 6, none⟩) hb).trans h.c6, (World.cell?_of_block (a := ⟨b, 7, none⟩) hb).trans h.c7, fun j => (World.frozen?_of_block (a := ⟨b, j, none⟩) hb).trans (h.f j), by
    have := h.lt
    rw [Array.getElem?_eq_getElem this] at hb
    exact (Array.getElem?_eq_some_iff.1 hb).1⟩
set_option maxRecDepth 20000 in
set_option maxHeartbeats 2000000 in
theorem tick_live (ses : UInt64) (base next idle : Int) (vo vw : Value) (Ae : Option Addr) (ne ce : Nat) (lo lw L : List ByteArray) (k : Nat) (w : World) (ho : StrsN w vo lo) (hw : StrsN w vw lw) (h4 : lo.length ≤ 4) (hlw : lw.length ≤ 100000) (hk : k = min (4 - lo.length) lw.length) (hL : L = lo ++ lw.take k)
    (hi0 : 0 ≤ idle) (hi1 : idle + 1 < 40) (hb0 : 0 ≤ base) (hb1 : base ≤ 1073741824) (hsz : ∀ s ∈ L, s.size ≤ 1000000) :
    Calls Try.prog 13 #[End8 ses.toNat base vo vw next (.slice Ae ne ce) idle false] w fun e w' => ∃ vo' vw' u, e = .returned (.tuple #[End8 ses.toNat base vo' vw' next (.slice Ae ne ce) (idle + 1) false, u]) ∧ StrsN w' vo' L ∧ (StrsN w' vw' (lw.drop k) ∧ SrcV w w' vw vw' ∧ SrcV w w' vo vo') ∧ StrsN w' u (lTick ses.toNat base next L) ∧ Below w.heap.size w w' := by
  have HO := Lib.hid ho
  have HWT := Lib.hid hw
  have HK := Lib.hid hk
  have HL := Lib.hid hL
  have HSZ := Lib.hid hsz
  obtain ⟨A, ca, rfl, _, _⟩ := ho.1.len
  obtain ⟨A2, cb, rfl, _, _⟩ := hw.1.len
  unfold End8
  have q1 := heap_alloc_new w (.cells #[.int .u64 ses.toNat, .int .i64 base, .slice A lo.length ca, .slice A2 lw.length cb, .int .i64 next, .slice Ae ne ce, .int .i64 idle, .bool false] 37)
  obtain ⟨wp, hwp⟩ : ∃ wp, wp = w.alloc (.cells #[.int .u64 ses.toNat, .int .i64 base, .slice A lo.length ca, .slice A2 lw.length cb, .int .i64 next, .slice Ae ne ce, .int .i64 idle, .bool false] 37) := ⟨_, rfl⟩
  rw [← hwp] at q1
  have HBp : Hid (Below w.heap.size w wp) := by unfold Hid; rw [hwp]; exact (Below.refl _ _).alloc (Nat.le_refl _) _
  have hsp : wp.heap.size = w.heap.size + 1 := by rw [hwp]; simp
  have q2 := heap_alloc_new wp (.cells #[.int .u64 0, .int .i64 0, .slice none 0 0, .slice none 0 0, .int .i64 0, .slice none 0 0, .int .i64 0, .bool false] 37)
  obtain ⟨wo, hwo⟩ : ∃ wo, wo = wp.alloc (.cells #[.int .u64 0, .int .i64 0, .slice none 0 0, .slice none 0 0, .int .i64 0, .slice none 0 0, .int .i64 0, .bool false] 37) := ⟨_, rfl⟩
  rw [← hwo, hsp] at q2
  have HBo : Hid (Below wp.heap.size wp wo) := by unfold Hid; rw [hwo]; exact (Below.refl _ _).alloc (Nat.le_refl _) _
  have hso : wo.heap.size = w.heap.size + 1 + 1 := by rw [hwo]; simp [hsp]
  have q3 := heap_alloc_new wo (.cells #[.int .u64 ses.toNat, .int .i64 base, .slice A lo.length ca, .slice A2 lw.length cb, .int .i64 next, .slice Ae ne ce, .int .i64 idle, .bool false] 69)
  obtain ⟨wq, hwq⟩ : ∃ wq, wq = wo.alloc (.cells #[.int .u64 ses.toNat, .int .i64 base, .slice A lo.length ca, .slice A2 lw.length cb, .int .i64 next, .slice Ae ne ce, .int .i64 idle, .bool false] 69) := ⟨_, rfl⟩
  rw [← hwq, hso] at q3
  have HBq : Hid (Below wo.heap.size wo wq) := by unfold Hid; rw [hwq]; exact (Below.refl _ _).alloc (Nat.le_refl _) _
  have hsq : wq.heap.size = w.heap.size + 1 + 1 + 1 := by rw [hwq]; simp [hso]
  have HX3 := Lib.hid (cells8 q3)
  have HX2 := Lib.hid ((cells8 q2).below HBq.out (by omega))
  have HBQ : Hid (Below w.heap.size w wq) := (HBp.out.trans (HBo.out.mono (by omega))).trans (HBq.out.mono (by omega))
  have HWQ : Hid (((w.alloc (.cells #[.int .u64 ses.toNat, .int .i64 base, .slice A lo.length ca, .slice A2 lw.length cb, .int .i64 next, .slice Ae ne ce, .int .i64 idle, .bool false] 37)).alloc (.cells #[.int .u64 0, .int .i64 0, .slice none 0 0, .slice none 0 0, .int .i64 0, .slice none 0 0, .int .i64 0, .bool false] 37)).alloc (.cells #[.int .u64 ses.toNat, .int .i64 base, .slice A lo.length ca, .slice A2 lw.length cb, .int .i64 next, .slice Ae ne ce, .int .i64 idle, .bool false] 69) = wq) := by unfold Hid; rw [← hwp, ← hwo, ← hwq]
  have HSQ := Lib.hid hsq
  clear q1 q2 q3 hwp hwo hwq hsp hso hsq HBp HBo HBq
  clear wp wo
  obtain ⟨T, hT⟩ : ∃ T, T = lTick ses.toNat base next L := ⟨_, rfl⟩
  obtain ⟨R, hR⟩ : ∃ R, R = lw.drop k := ⟨_, rfl⟩
  rw [← hT, ← hR]
  have HT := Lib.hid hT
  have HR := Lib.hid hR
  have hL4 : L.length ≤ 4 := by rw [hL]; simp; omega
  have hidw : IntKind.i64.wrap (idle + 1) = idle + 1 := by rw [IntKind.wrap_i64]; omega
  have hid40 : decide ((40 : Int) ≤ idle + 1) = false := by simp; omega
  clear ho hw hk hL hsz hT hR
  go_enter Try.func13, Try.ntmps13
  go_wp2_with fail
  rw [HWQ.out]
  refine (fill_any (w.heap.size + 1 + 1) _ base next idle _ _ (.slice Ae ne ce) false lo lw L k w wq HX3.out HBQ.out (by omega) HO.out HWT.out h4 hlw HK.out HL.out).mono ?_
  rintro e w1 ⟨rfl, v1, v2, o1, ⟨t1, hs2⟩, x1, b1, k1⟩
  rw [← HR.out] at t1
  have HSR := Lib.hid hs2
  have HSO : Hid (SrcV w w1 (.slice A lo.length ca) v1) := SrcV.owns o1 (by have := HSQ.out; omega) _ (Nat.le_refl _)
  clear hs2
  obtain ⟨A3, c3, e3, _, _⟩ := (StrsN.of_owns o1).1.len
  obtain ⟨A4, c4, e4, _, _⟩ := t1.1.len
  subst e3 e4
  have kk := k1 (w.heap.size + 1) (by have := HSQ.out; omega) (by omega)
  have x6 := x1.c6
  have x2 := x1.c2
  have f6 := x1.f 6
  have HX1 := Lib.hid x1
  have HO1 := Lib.hid o1
  have HT1 := Lib.hid t1
  have HB1 := Lib.hid b1
  have HX2' : Hid (Box8 (w.heap.size + 1) (.int .u64 0) (.int .i64 0) (.slice none 0 0) (.slice none 0 0) (.int .i64 0) (.slice none 0 0) (.int .i64 0) (.bool false) w1) := box_of_block HX2.out kk
  have hw1 : wq.heap.size ≤ w1.heap.size := by have := HX1.out.lt; have := HSQ.out; omega
  clear x1 o1 t1 b1 k1 kk HX2 HX3 HWT HO HBQ
  go_wp2_with fail
  have HXL := Lib.hid (HX1.out.set6 (.int .i64 (idle + 1)))
  have HXR : Hid (Box8 (w.heap.size + 1) (.int .u64 0) (.int .i64 0) (.slice none 0 0) (.slice none 0 0) (.int .i64 0) (.slice none 0 0) (.int .i64 0) (.bool false) (w1.setCell ⟨w.heap.size + 1 + 1, 6, none⟩ (.int .i64 (idle + 1)))) := box_of_block HX2'.out (Below.heap_setCell _ _ _ _ (by dsimp only; omega))
  have HOW := Lib.hid (ownsRow_setCell_below HO1.out (a := ⟨w.heap.size + 1 + 1, 6, none⟩) (by have := HSQ.out; dsimp only; omega) (.int .i64 (idle + 1)))
  have HOL := Lib.hid (StrsN.of_owns (ownsRow_setCell_below HO1.out (a := ⟨w.heap.size + 1 + 1, 6, none⟩) (by have := HSQ.out; dsimp only; omega) (.int .i64 (idle + 1))))
  have HBL : Hid (Below w.heap.size w (w1.setCell ⟨w.heap.size + 1 + 1, 6, none⟩ (.int .i64 (idle + 1)))) := HB1.out.setCell (p := ⟨w.heap.size + 1 + 1, 6, none⟩) (by dsimp only; omega) _
  have hsl : (w1.setCell ⟨w.heap.size + 1 + 1, 6, none⟩ (.int .i64 (idle + 1))).heap.size = w1.heap.size := World.size_setCell _ _ _
  obtain ⟨wl, hwl⟩ : ∃ wl, wl = w1.setCell ⟨w.heap.size + 1 + 1, 6, none⟩ (.int .i64 (idle + 1)) := ⟨_, rfl⟩
  rw [← hwl] at HXL HXR HOL HOW HBL hsl ⊢
  have HSO2 := Lib.hid (HSO.out.mono (Nat.le_of_eq hsl.symm))
  clear HSO
  have hwlz : w.heap.size + 1 + 1 < wl.heap.size := by have := HX1.out.lt; omega
  clear hwl hsl hw1 HX1 HX2' HO1 HB1 x2 x6 f6
  clear w1
  have hl9 : L.length ≤ 1000 := by omega
  go_loopw [5, 45] (fun o i wr => ∃ j : Nat, j ≤ L.length ∧ i = .int .i64 j ∧ Hid (wr.ownsRow wl.heap.size 9 1 o (outsFrom ses.toNat next base (L.take j)).length ((outsFrom ses.toNat next base (L.take j)).map .string)) ∧ Hid (j = 0 → o = .slice none 0 0) ∧ Hid (Below wl.heap.size wl wr)) (fun _ i _ => L.length - (intOf i).toNat)
  case atStart => exact ⟨0, Nat.zero_le _, rfl, World.ownsRow_nil _ _ _ _, fun _ => rfl, Below.refl _ _⟩
  case round =>
    obtain ⟨j, hj, rfl, HOr, HNr, HBr⟩ := hrel
    have hszr : wl.heap.size ≤ wr.heap.size := HBr.out.size
    by_cases hlt : j < L.length
    · obtain ⟨gb, go, rfl, hgb, hcell⟩ := HOL.out.1.cells (by omega)
      have e1 : wr.cell? ⟨gb, go + j, none⟩ = some (.string L[j]) := (HBr.out.cell (p := ⟨gb, go + j, none⟩) hgb).trans (hcell j hlt)
      have hlt' : (j : Int) < (L.length : Int) := by omega
      have hbj : IntKind.i64.wrap (base + (j : Int)) = base + (j : Int) := by rw [IntKind.wrap_i64]; omega
      have hT := take_succ_list L j hlt
      have hN := outs_snoc ses.toNat next L[j] (L.take j) base
      rw [← hT, show ((L.take j).length : Int) = (j : Int) by rw [List.length_take]; omega] at hN
      have HN := Lib.hid hN; clear hN hT
      have hsx : (L[j]).size ≤ 1000000 := HSZ.out _ (List.getElem_mem hlt)
      have hOl : (outsFrom ses.toNat next base (L.take j)).length ≤ 1000 := by rw [outs_len, List.length_take]; omega
      generalize L[j] = x at *
      clear hcell
      obtain ⟨s0, s1, _, _, s4, _, _, _, _, _⟩ := HXL.out.below HBr.out hwlz
      go_wp2_with fail
      have hsb : w.heap.size ≤ wl.heap.size := HBL.out.size
      refine wp_region_noPanic ?_
      refine wp_region_held_drew (S := fun w' => w'.cell? ⟨w.heap.size + 1 + 1, 0, none⟩ = some (.int .u64 ses.toNat) ∧ w'.cell? ⟨w.heap.size + 1 + 1, 1, none⟩ = some (.int .i64 base) ∧ w'.cell? ⟨w.heap.size + 1 + 1, 4, none⟩ = some (.int .i64 next)) (by kernel_rfl) ⟨s0, s1, s4⟩ (fun hHeld => ?_)
      obtain ⟨wx, hwx⟩ : ∃ wx, wx = wr.drew := ⟨_, rfl⟩
      have HBx : Hid (Below wl.heap.size wl wx) := by unfold Hid; rw [hwx]; exact HBr.out.drew
      have HOx : Hid (wx.ownsRow wl.heap.size 9 1 u5 (outsFrom ses.toNat next base (L.take j)).length ((outsFrom ses.toNat next base (L.take j)).map .string)) := by unfold Hid; rw [hwx]; exact HOr.out.drew
      rw [← hwx] at hHeld ⊢
      clear hwx HBr HOr e1 s0 s1 s4
      refine' wpAnyH_take (i := 0) (v := ?v1) rfl (by kernel_rfl) (by kernel_rfl) (by kernel_rfl) (fun _ _ _ h => h) (Or.inl ⟨by kernel_rfl, ?hy1⟩) (by assumption) ?rest1
      case hy1 => (intro w hSw; (try dsimp only at hSw); go_simp; try with_reducible rfl)
      try simp only [Act.put, List.setIfInBounds_toArray, List.set_cons_zero, List.set_cons_succ]
      refine' wpAnyH_take (i := 1) (v := ?v2) rfl (by kernel_rfl) (by kernel_rfl) (by kernel_rfl) (fun _ _ _ h => h) (Or.inl ⟨by kernel_rfl, ?hy2⟩) (by assumption) ?rest2
      case hy2 => (intro w hSw; (try dsimp only at hSw); go_simp; try with_reducible rfl)
      try simp only [Act.put, List.setIfInBounds_toArray, List.set_cons_zero, List.set_cons_succ]
      refine' wpAnyH_take (i := 2) (v := ?v3) rfl (by kernel_rfl) (by kernel_rfl) (by kernel_rfl) (fun _ _ _ h => h) (Or.inl ⟨by kernel_rfl, ?hy3⟩) (by assumption) ?rest3
      case hy3 => (intro w hSw; (try dsimp only at hSw); go_simp; try with_reducible rfl)
      try simp only [Act.put, List.setIfInBounds_toArray, List.set_cons_zero, List.set_cons_succ]
      refine' wpAnyH_take (i := 3) (v := ?v4) rfl (by kernel_rfl) (by kernel_rfl) (by kernel_rfl) (fun _ _ _ h => h) (Or.inl ⟨by kernel_rfl, ?hy4⟩) (by assumption) ?rest4
      case hy4 => (intro w hSw; (try dsimp only at hSw); go_simp; try with_reducible rfl)
      try simp only [Act.put, List.setIfInBounds_toArray, List.set_cons_zero, List.set_cons_succ]
      refine' wpAnyH_take (i := 4) (v := ?v5) rfl (by kernel_rfl) (by kernel_rfl) (by kernel_rfl) (fun _ _ _ h => h) (Or.inl ⟨by kernel_rfl, ?hy5⟩) (by assumption) ?rest5
      case hy5 => (intro w hSw; (try dsimp only at hSw); go_simp; try with_reducible rfl)
      try simp only [Act.put, List.setIfInBounds_toArray, List.set_cons_zero, List.set_cons_succ]
      refine wpAnyH_take (i := 5) (v := .int .u64 ses.toNat) rfl (by kernel_rfl) (by kernel_rfl) (by kernel_rfl) (fun _ _ _ h => h) (Or.inl ⟨by kernel_rfl, ?_⟩) hHeld ?_
      · intro w hSw
        have hh := hSw.1
        go_simp
      try simp only [Act.put, List.setIfInBounds_toArray, List.set_cons_zero, List.set_cons_succ]
      refine' wpAnyH_take (i := 6) (v := ?v6) rfl (by kernel_rfl) (by kernel_rfl) (by kernel_rfl) (fun _ _ _ h => h) (Or.inl ⟨by kernel_rfl, ?hy6⟩) (by assumption) ?rest6
      case hy6 => (intro w hSw; (try dsimp only at hSw); go_simp; try with_reducible rfl)
      try simp only [Act.put, List.setIfInBounds_toArray, List.set_cons_zero, List.set_cons_succ]
      refine' wpAnyH_take (i := 7) (v := ?v7) rfl (by kernel_rfl) (by kernel_rfl) (by kernel_rfl) (fun _ _ _ h => h) (Or.inl ⟨by kernel_rfl, ?hy7⟩) (by assumption) ?rest7
      case hy7 => (intro w hSw; (try dsimp only at hSw); go_simp; try with_reducible rfl)
      try simp only [Act.put, List.setIfInBounds_toArray, List.set_cons_zero, List.set_cons_succ]
      refine' wpAnyH_take (i := 8) (v := ?v8) rfl (by kernel_rfl) (by kernel_rfl) (by kernel_rfl) (fun _ _ _ h => h) (Or.inl ⟨by kernel_rfl, ?hy8⟩) (by assumption) ?rest8
      case hy8 => (intro w hSw; (try dsimp only at hSw); go_simp; try with_reducible rfl)
      try simp only [Act.put, List.setIfInBounds_toArray, List.set_cons_zero, List.set_cons_succ]
      refine' wpAnyH_take (i := 9) (v := ?v9) rfl (by kernel_rfl) (by kernel_rfl) (by kernel_rfl) (fun _ _ _ h => h) (Or.inl ⟨by kernel_rfl, ?hy9⟩) (by assumption) ?rest9
      case hy9 => (intro w hSw; (try dsimp only at hSw); go_simp; try with_reducible rfl)
      try simp only [Act.put, List.setIfInBounds_toArray, List.set_cons_zero, List.set_cons_succ]
      refine wpAnyH_take (i := 10) (v := .int .i64 base) rfl (by kernel_rfl) (by kernel_rfl) (by kernel_rfl) (fun _ _ _ h => h) (Or.inl ⟨by kernel_rfl, ?_⟩) hHeld ?_
      · intro w hSw
        have hh := hSw.2.1
        go_simp
      try simp only [Act.put, List.setIfInBounds_toArray, List.set_cons_zero, List.set_cons_succ]
      refine' wpAnyH_take (i := 11) (v := ?v10) rfl (by kernel_rfl) (by kernel_rfl) (by kernel_rfl) (fun _ _ _ h => h) (Or.inl ⟨by kernel_rfl, ?hy10⟩) (by assumption) ?rest10
      case hy10 => (intro w hSw; (try dsimp only at hSw); go_simp; try with_reducible rfl)
      try simp only [Act.put, List.setIfInBounds_toArray, List.set_cons_zero, List.set_cons_succ]
      refine wpAnyH_take (i := 12) (v := .int .i64 (base + j)) rfl (by kernel_rfl) (by kernel_rfl) (by kernel_rfl) (fun _ _ _ h => h) (Or.inl ⟨by kernel_rfl, ?_⟩) hHeld ?_
      · intro w hSw
        go_simp
        first | done | ((try rw [Int.tdiv_eq_ediv_of_nonneg (by omega)]); (try rw [Int.tmod_eq_emod_of_nonneg (by omega)]); (try rw [IntKind.wrap_i64]); (try omega))
      try simp only [Act.put, List.setIfInBounds_toArray, List.set_cons_zero, List.set_cons_succ]
      refine' wpAnyH_take (i := 13) (v := ?v11) rfl (by kernel_rfl) (by kernel_rfl) (by kernel_rfl) (fun _ _ _ h => h) (Or.inl ⟨by kernel_rfl, ?hy11⟩) (by assumption) ?rest11
      case hy11 => (intro w hSw; (try dsimp only at hSw); go_simp; try with_reducible rfl)
      try simp only [Act.put, List.setIfInBounds_toArray, List.set_cons_zero, List.set_cons_succ]
      refine' wpAnyH_take (i := 14) (v := ?v12) rfl (by kernel_rfl) (by kernel_rfl) (by kernel_rfl) (fun _ _ _ h => h) (Or.inl ⟨by kernel_rfl, ?hy12⟩) (by assumption) ?rest12
      case hy12 => (intro w hSw; (try dsimp only at hSw); go_simp; try with_reducible rfl)
      try simp only [Act.put, List.setIfInBounds_toArray, List.set_cons_zero, List.set_cons_succ]
      refine' wpAnyH_take (i := 15) (v := ?v13) rfl (by kernel_rfl) (by kernel_rfl) (by kernel_rfl) (fun _ _ _ h => h) (Or.inl ⟨by kernel_rfl, ?hy13⟩) (by assumption) ?rest13
      case hy13 => (intro w hSw; (try dsimp only at hSw); go_simp; try with_reducible rfl)
      try simp only [Act.put, List.setIfInBounds_toArray, List.set_cons_zero, List.set_cons_succ]
      refine' wpAnyH_take (i := 16) (v := ?v14) rfl (by kernel_rfl) (by kernel_rfl) (by kernel_rfl) (fun _ _ _ h => h) (Or.inl ⟨by kernel_rfl, ?hy14⟩) (by assumption) ?rest14
      case hy14 => (intro w hSw; (try dsimp only at hSw); go_simp; try with_reducible rfl)
      try simp only [Act.put, List.setIfInBounds_toArray, List.set_cons_zero, List.set_cons_succ]
      refine wpAnyH_take (i := 17) (v := .int .i64 next) rfl (by kernel_rfl) (by kernel_rfl) (by kernel_rfl) (fun _ _ _ h => h) (Or.inl ⟨by kernel_rfl, ?_⟩) hHeld ?_
      · intro w hSw
        have hh := hSw.2.2
        go_simp
      try simp only [Act.put, List.setIfInBounds_toArray, List.set_cons_zero, List.set_cons_succ]
      refine' wpAnyH_take (i := 18) (v := ?v15) rfl (by kernel_rfl) (by kernel_rfl) (by kernel_rfl) (fun _ _ _ h => h) (Or.inl ⟨by kernel_rfl, ?hy15⟩) (by assumption) ?rest15
      case hy15 => (intro w hSw; (try dsimp only at hSw); go_simp; try with_reducible rfl)
      try simp only [Act.put, List.setIfInBounds_toArray, List.set_cons_zero, List.set_cons_succ]
      refine wpAnyH_take (i := 19) (v := .agg #[.int .u64 ses.toNat, .int .i64 (base + j), .int .i64 next, .string x]) rfl (by kernel_rfl) (by kernel_rfl) (by kernel_rfl) (fun _ _ _ h => h) (Or.inl ⟨by kernel_rfl, ?_⟩) hHeld ?_
      · intro w hSw
        go_simp
      try simp only [Act.put, List.setIfInBounds_toArray, List.set_cons_zero, List.set_cons_succ]
      refine wpAnyH_ready (rs := [20]) (by kernel_rfl) (by simp) ?_
      refine AllReadyH.cons rfl (fun K hK => ?_) AllReadyH.nil
      go_simp
      go_at_call 9
      refine (write_any ses (base + j) next x hsx wx).mono ?_
      rintro er wy ⟨rfl, by1⟩
      have HBy : Hid (Below wl.heap.size wl wy) := HBx.out.trans (by1.mono HBx.out.size)
      have HOy : Hid (wy.ownsRow wl.heap.size 9 1 u5 (outsFrom ses.toNat next base (L.take j)).length ((outsFrom ses.toNat next base (L.take j)).map .string)) := HOx.out.kept (only_of_below by1 none) (by
        by_cases e : u5.ownBlock = none
        · exact .inl e
        · exact .inr e)
      clear by1 HBx HOx hHeld
      obtain ⟨s0, s1, _, _, s4, _, _, _, _, _⟩ := HXL.out.below HBy.out hwlz
      go_wp2_with fail
      refine hK.out _ _ ⟨s0, s1, s4⟩ (fun hHeld => ?_)
      clear hK K
      try simp only [Act.put, List.setIfInBounds_toArray, List.set_cons_zero, List.set_cons_succ]
      obtain ⟨y, hy⟩ : ∃ y, y = (⟨(lWrite ses.toNat (base + j) next x.data.toList).toArray⟩ : ByteArray) := ⟨_, rfl⟩
      rw [← hy] at HN ⊢
      clear hy
      obtain ⟨out, hout⟩ : ∃ out, out = outsFrom ses.toNat next base (L.take j) := ⟨_, rfl⟩
      rw [← hout] at HN hOl HOy
      clear hout
      refine wpAnyH_ready (rs := [21]) (by kernel_rfl) (by simp) ?_
      refine AllReadyH.cons rfl (fun K hK => ?_) AllReadyH.nil
      go_simp
      refine hK.out _ _ ⟨(((Below.refl wy.heap.size wy).alloc (Nat.le_refl _) _).cell (p := ⟨w.heap.size + 1 + 1, 0, none⟩) (by have := HBy.out.size; dsimp only; omega)).trans s0, (((Below.refl wy.heap.size wy).alloc (Nat.le_refl _) _).cell (p := ⟨w.heap.size + 1 + 1, 1, none⟩) (by have := HBy.out.size; dsimp only; omega)).trans s1, (((Below.refl wy.heap.size wy).alloc (Nat.le_refl _) _).cell (p := ⟨w.heap.size + 1 + 1, 4, none⟩) (by have := HBy.out.size; dsimp only; omega)).trans s4⟩ (fun hHeld => ?_)
      clear hK K
      try simp only [Act.put, List.setIfInBounds_toArray, List.set_cons_zero, List.set_cons_succ]
      refine wpAnyH_ready (rs := [22]) (by kernel_rfl) (by simp) ?_
      refine AllReadyH.cons rfl (fun K hK => ?_) AllReadyH.nil
      rw [if_pos (by kernel_rfl)]
      refine wp_push_str (.tmp 50) (.tmp 71) 33 rfl Try.underlying33 wl.heap.size _ out rfl (HOy.out.alloc _) ⟨wy.heap.size, 0, none⟩ _ y rfl (by simp) (by omega) (by have := HBy.out.size; simp; omega) ?_
      intro v' wz hown1 hg1
      have HOz : Hid (wz.ownsRow wl.heap.size 9 1 v' (out ++ [y]).length ((out ++ [y]).map .string)) := by unfold Hid; simpa using hown1
      have HBz : Hid (Below wl.heap.size wl wz) := (HBy.out.alloc HBy.out.size _).grown hg1 (by have := HBy.out.size; simp; omega) (fun k hk => (HOy.out.lt k hk).1)
      clear hown1 hg1 hHeld s0 s1 s4
      obtain ⟨s0, s1, _, _, s4, _, _, _, _, _⟩ := HXL.out.below HBz.out hwlz
      refine hK.out _ _ ⟨s0, s1, s4⟩ (fun hHeld => ?_)
      clear hK K
      try simp only [Act.put, List.setIfInBounds_toArray, List.set_cons_zero, List.set_cons_succ]
      refine' wpAnyH_take (i := 23) (v := ?v16) rfl (by kernel_rfl) (by kernel_rfl) (by kernel_rfl) (fun _ _ _ h => h) (Or.inl ⟨by kernel_rfl, ?hy16⟩) (by assumption) ?rest16
      case hy16 => (intro w hSw; (try dsimp only at hSw); go_simp; try with_reducible rfl)
      try simp only [Act.put, List.setIfInBounds_toArray, List.set_cons_zero, List.set_cons_succ]
      refine wpAnyH_done (by kernel_rfl) ?_ _
      refine NoPanic.normal ?_
      rw [← HN.out] at HOz
      go_wp2_with fail
      go_roundw
      case rel => exact ⟨j + 1, by omega, by go_num, HOz, fun h => absurd h (by omega), HBz⟩
      case measure => simp [intOf]; omega
    · obtain rfl : j = L.length := by omega
      rw [List.take_length] at HOr
      have hsb : w.heap.size ≤ wl.heap.size := HBL.out.size
      by_cases hL0 : L = []
      · obtain rfl := HNr.out (by rw [hL0]; rfl)
        have hnil : ∀ W, (binOp .eql 33 (.slice none 0 0) (.slice none 0 0)).run Try.prog W = .ok (.bool true) W := fun W => Lib.run_eql_slice_nil_nil W _ _ Try.underlying33
        obtain ⟨s0, s1, _, _, s4, _, _, _, _, _⟩ := HXL.out.below HBr.out hwlz
        go_wp2_with fail
        refine wp_region_noPanic ?_
        refine wp_region_held_drew (S := fun w' => w'.cell? ⟨w.heap.size + 1 + 1, 0, none⟩ = some (.int .u64 ses.toNat) ∧ w'.cell? ⟨w.heap.size + 1 + 1, 1, none⟩ = some (.int .i64 base) ∧ w'.cell? ⟨w.heap.size + 1 + 1, 4, none⟩ = some (.int .i64 next)) (by kernel_rfl) ⟨s0, s1, s4⟩ (fun hHeld => ?_)
        obtain ⟨wx, hwx⟩ : ∃ wx, wx = wr.drew := ⟨_, rfl⟩
        have HBx : Hid (Below wl.heap.size wl wx) := by unfold Hid; rw [hwx]; exact HBr.out.drew
        rw [← hwx] at hHeld ⊢
        clear hwx HBr HOr s0 s1 s4
        refine' wpAnyH_take (i := 0) (v := ?v17) rfl (by kernel_rfl) (by kernel_rfl) (by kernel_rfl) (fun _ _ _ h => h) (Or.inl ⟨by kernel_rfl, ?hy17⟩) (by assumption) ?rest17
        case hy17 => (intro w hSw; (try dsimp only at hSw); go_simp; try with_reducible rfl)
        try simp only [Act.put, List.setIfInBounds_toArray, List.set_cons_zero, List.set_cons_succ]
        refine' wpAnyH_take (i := 1) (v := ?v18) rfl (by kernel_rfl) (by kernel_rfl) (by kernel_rfl) (fun _ _ _ h => h) (Or.inl ⟨by kernel_rfl, ?hy18⟩) (by assumption) ?rest18
        case hy18 => (intro w hSw; (try dsimp only at hSw); go_simp; try with_reducible rfl)
        try simp only [Act.put, List.setIfInBounds_toArray, List.set_cons_zero, List.set_cons_succ]
        refine' wpAnyH_take (i := 2) (v := ?v19) rfl (by kernel_rfl) (by kernel_rfl) (by kernel_rfl) (fun _ _ _ h => h) (Or.inl ⟨by kernel_rfl, ?hy19⟩) (by assumption) ?rest19
        case hy19 => (intro w hSw; (try dsimp only at hSw); go_simp; try with_reducible rfl)
        try simp only [Act.put, List.setIfInBounds_toArray, List.set_cons_zero, List.set_cons_succ]
        refine' wpAnyH_take (i := 3) (v := ?v20) rfl (by kernel_rfl) (by kernel_rfl) (by kernel_rfl) (fun _ _ _ h => h) (Or.inl ⟨by kernel_rfl, ?hy20⟩) (by assumption) ?rest20
        case hy20 => (intro w hSw; (try dsimp only at hSw); go_simp; try with_reducible rfl)
        try simp only [Act.put, List.setIfInBounds_toArray, List.set_cons_zero, List.set_cons_succ]
        refine' wpAnyH_take (i := 4) (v := ?v21) rfl (by kernel_rfl) (by kernel_rfl) (by kernel_rfl) (fun _ _ _ h => h) (Or.inl ⟨by kernel_rfl, ?hy21⟩) (by assumption) ?rest21
        case hy21 => (intro w hSw; (try dsimp only at hSw); go_simp; try with_reducible rfl)
        try simp only [Act.put, List.setIfInBounds_toArray, List.set_cons_zero, List.set_cons_succ]
        refine wpAnyH_take (i := 5) (v := .int .u64 ses.toNat) rfl (by kernel_rfl) (by kernel_rfl) (by kernel_rfl) (fun _ _ _ h => h) (Or.inl ⟨by kernel_rfl, ?_⟩) hHeld ?_
        · intro w hSw
          have hh := hSw.1
          go_simp
        try simp only [Act.put, List.setIfInBounds_toArray, List.set_cons_zero, List.set_cons_succ]
        refine' wpAnyH_take (i := 6) (v := ?v22) rfl (by kernel_rfl) (by kernel_rfl) (by kernel_rfl) (fun _ _ _ h => h) (Or.inl ⟨by kernel_rfl, ?hy22⟩) (by assumption) ?rest22
        case hy22 => (intro w hSw; (try dsimp only at hSw); go_simp; try with_reducible rfl)
        try simp only [Act.put, List.setIfInBounds_toArray, List.set_cons_zero, List.set_cons_succ]
        refine' wpAnyH_take (i := 7) (v := ?v23) rfl (by kernel_rfl) (by kernel_rfl) (by kernel_rfl) (fun _ _ _ h => h) (Or.inl ⟨by kernel_rfl, ?hy23⟩) (by assumption) ?rest23
        case hy23 => (intro w hSw; (try dsimp only at hSw); go_simp; try with_reducible rfl)
        try simp only [Act.put, List.setIfInBounds_toArray, List.set_cons_zero, List.set_cons_succ]
        refine' wpAnyH_take (i := 8) (v := ?v24) rfl (by kernel_rfl) (by kernel_rfl) (by kernel_rfl) (fun _ _ _ h => h) (Or.inl ⟨by kernel_rfl, ?hy24⟩) (by assumption) ?rest24
        case hy24 => (intro w hSw; (try dsimp only at hSw); go_simp; try with_reducible rfl)
        try simp only [Act.put, List.setIfInBounds_toArray, List.set_cons_zero, List.set_cons_succ]
        refine' wpAnyH_take (i := 9) (v := ?v25) rfl (by kernel_rfl) (by kernel_rfl) (by kernel_rfl) (fun _ _ _ h => h) (Or.inl ⟨by kernel_rfl, ?hy25⟩) (by assumption) ?rest25
        case hy25 => (intro w hSw; (try dsimp only at hSw); go_simp; try with_reducible rfl)
        try simp only [Act.put, List.setIfInBounds_toArray, List.set_cons_zero, List.set_cons_succ]
        refine wpAnyH_take (i := 10) (v := .int .i64 base) rfl (by kernel_rfl) (by kernel_rfl) (by kernel_rfl) (fun _ _ _ h => h) (Or.inl ⟨by kernel_rfl, ?_⟩) hHeld ?_
        · intro w hSw
          have hh := hSw.2.1
          go_simp
        try simp only [Act.put, List.setIfInBounds_toArray, List.set_cons_zero, List.set_cons_succ]
        refine' wpAnyH_take (i := 11) (v := ?v26) rfl (by kernel_rfl) (by kernel_rfl) (by kernel_rfl) (fun _ _ _ h => h) (Or.inl ⟨by kernel_rfl, ?hy26⟩) (by assumption) ?rest26
        case hy26 => (intro w hSw; (try dsimp only at hSw); go_simp; try with_reducible rfl)
        try simp only [Act.put, List.setIfInBounds_toArray, List.set_cons_zero, List.set_cons_succ]
        refine' wpAnyH_take (i := 12) (v := ?v27) rfl (by kernel_rfl) (by kernel_rfl) (by kernel_rfl) (fun _ _ _ h => h) (Or.inl ⟨by kernel_rfl, ?hy27⟩) (by assumption) ?rest27
        case hy27 => (intro w hSw; (try dsimp only at hSw); go_simp; try with_reducible rfl)
        try simp only [Act.put, List.setIfInBounds_toArray, List.set_cons_zero, List.set_cons_succ]
        refine' wpAnyH_take (i := 13) (v := ?v28) rfl (by kernel_rfl) (by kernel_rfl) (by kernel_rfl) (fun _ _ _ h => h) (Or.inl ⟨by kernel_rfl, ?hy28⟩) (by assumption) ?rest28
        case hy28 => (intro w hSw; (try dsimp only at hSw); go_simp; try with_reducible rfl)
        try simp only [Act.put, List.setIfInBounds_toArray, List.set_cons_zero, List.set_cons_succ]
        refine' wpAnyH_take (i := 14) (v := ?v29) rfl (by kernel_rfl) (by kernel_rfl) (by kernel_rfl) (fun _ _ _ h => h) (Or.inl ⟨by kernel_rfl, ?hy29⟩) (by assumption) ?rest29
        case hy29 => (intro w hSw; (try dsimp only at hSw); go_simp; try with_reducible rfl)
        try simp only [Act.put, List.setIfInBounds_toArray, List.set_cons_zero, List.set_cons_succ]
        refine wpAnyH_take (i := 15) (v := .int .i64 next) rfl (by kernel_rfl) (by kernel_rfl) (by kernel_rfl) (fun _ _ _ h => h) (Or.inl ⟨by kernel_rfl, ?_⟩) hHeld ?_
        · intro w hSw
          have hh := hSw.2.2
          go_simp
        try simp only [Act.put, List.setIfInBounds_toArray, List.set_cons_zero, List.set_cons_succ]
        refine wpAnyH_take (i := 16) (v := .agg #[.int .u64 ses.toNat, .int .i64 base, .int .i64 next, .string ⟨#[]⟩]) rfl (by kernel_rfl) (by kernel_rfl) (by kernel_rfl) (fun _ _ _ h => h) (Or.inl ⟨by kernel_rfl, ?_⟩) hHeld ?_
        · intro w hSw
          go_simp
        try simp only [Act.put, List.setIfInBounds_toArray, List.set_cons_zero, List.set_cons_succ]
        refine wpAnyH_ready (rs := [17]) (by kernel_rfl) (by simp) ?_
        refine AllReadyH.cons rfl (fun K hK => ?_) AllReadyH.nil
        go_simp
        go_at_call 9
        refine (write_any ses base next ⟨#[]⟩ (by decide) wx).mono ?_
        rintro er wy ⟨rfl, by1⟩
        have HBy : Hid (Below wl.heap.size wl wy) := HBx.out.trans (by1.mono HBx.out.size)
        clear by1 HBx hHeld
        obtain ⟨s0, s1, _, _, s4, _, _, _, _, _⟩ := HXL.out.below HBy.out hwlz
        go_wp2_with fail
        refine hK.out _ _ ⟨s0, s1, s4⟩ (fun hHeld => ?_)
        clear hK K
        try simp only [Act.put, List.setIfInBounds_toArray, List.set_cons_zero, List.set_cons_succ]
        have HTT : Hid (T = [(⟨(lWrite ses.toNat base next (⟨#[]⟩ : ByteArray).data.toList).toArray⟩ : ByteArray)]) := by unfold Hid; rw [HT.out]; unfold lTick; rw [if_pos hL0]
        obtain ⟨y, hy⟩ : ∃ y, y = (⟨(lWrite ses.toNat base next (⟨#[]⟩ : ByteArray).data.toList).toArray⟩ : ByteArray) := ⟨_, rfl⟩
        rw [← hy] at HTT ⊢
        clear hy
        refine wpAnyH_ready (rs := [18]) (by kernel_rfl) (by simp) ?_
        refine AllReadyH.cons rfl (fun K hK => ?_) AllReadyH.nil
        go_simp
        refine hK.out _ _ ⟨(((Below.refl wy.heap.size wy).alloc (Nat.le_refl _) _).cell (p := ⟨w.heap.size + 1 + 1, 0, none⟩) (by have := HBy.out.size; dsimp only; omega)).trans s0, (((Below.refl wy.heap.size wy).alloc (Nat.le_refl _) _).cell (p := ⟨w.heap.size + 1 + 1, 1, none⟩) (by have := HBy.out.size; dsimp only; omega)).trans s1, (((Below.refl wy.heap.size wy).alloc (Nat.le_refl _) _).cell (p := ⟨w.heap.size + 1 + 1, 4, none⟩) (by have := HBy.out.size; dsimp only; omega)).trans s4⟩ (fun hHeld => ?_)
        clear hK K
        try simp only [Act.put, List.setIfInBounds_toArray, List.set_cons_zero, List.set_cons_succ]
        refine wpAnyH_ready (rs := [19]) (by kernel_rfl) (by simp) ?_
        refine AllReadyH.cons rfl (fun K hK => ?_) AllReadyH.nil
        rw [if_pos (by kernel_rfl)]
        refine wp_push_str (.tmp 76) (.tmp 94) 33 rfl Try.underlying33 wl.heap.size _ [] rfl (World.ownsRow_nil _ _ _ _) ⟨wy.heap.size, 0, none⟩ _ y rfl (by simp) (by simp) (by have := HBy.out.size; simp; omega) ?_
        intro v' wz hown1 hg1
        have HOf : Hid (wz.ownsRow wl.heap.size 9 1 v' T.length (T.map .string)) := by unfold Hid; rw [HTT.out]; simpa using hown1
        have HBf : Hid (Below wl.heap.size wl wz) := (HBy.out.alloc HBy.out.size _).grown hg1 (by have := HBy.out.size; simp; omega) (fun k hk => by cases hk)
        clear hown1 hg1 hHeld s0 s1 s4
        obtain ⟨s0, s1, s2, s3, s4, s5, s6, s7, sf, slt⟩ := HXL.out.below HBf.out hwlz
        obtain ⟨d0, d1, d2, d3, d4, d5, d6, d7, df, dlt⟩ := HXR.out.below HBf.out (by omega)
        have df0 := df 0
        have df1 := df 1
        have df2 := df 2
        have df3 := df 3
        have df4 := df 4
        have df5 := df 5
        have df6 := df 6
        have df7 := df 7
        clear df
        refine hK.out _ _ ⟨s0, s1, s4⟩ (fun hHeld => ?_)
        clear hK K
        try simp only [Act.put, List.setIfInBounds_toArray, List.set_cons_zero, List.set_cons_succ]
        refine' wpAnyH_take (i := 20) (v := ?v30) rfl (by kernel_rfl) (by kernel_rfl) (by kernel_rfl) (fun _ _ _ h => h) (Or.inl ⟨by kernel_rfl, ?hy30⟩) (by assumption) ?rest30
        case hy30 => (intro w hSw; (try dsimp only at hSw); go_simp; try with_reducible rfl)
        try simp only [Act.put, List.setIfInBounds_toArray, List.set_cons_zero, List.set_cons_succ]
        refine wpAnyH_done (by kernel_rfl) ?_ _
        refine NoPanic.normal ?_
        go_wp2_with fail
        (try simp only [Exit.inBlock, Exit.then])
        refine bodyPost_cell (V := .agg #[.int .u64 ses.toNat, .int .i64 base, .slice A3 L.length c3, .slice A4 R.length c4, .int .i64 next, .slice Ae ne ce, .int .i64 (idle + 1), .bool false]) rfl rfl ?_ rfl ?_
        · go_simp
        · refine ⟨_, _, _, rfl, StrsN.of_owns (owns_set8 (HOW.out.kept (only_of_below' HBf.out) (own_or _)) (by have := HSQ.out; omega) _ _ _ _ _ _ _ _), ⟨HT1.out.below (below_set8 (HBL.out.trans (HBf.out.mono hsb)) (by omega) _ _ _ _ _ _ _ _) (Nat.le_refl _), HSR.out.v _ _, HSO2.out.mono (by simp only [World.size_setCell]; exact HBf.out.size)⟩, ?_, below_set8 (HBL.out.trans (HBf.out.mono hsb)) (by omega) _ _ _ _ _ _ _ _⟩
          exact StrsN.of_owns (owns_set8 HOf.out (by omega) _ _ _ _ _ _ _ _)
      · have hl0 : 0 < L.length := List.length_pos_iff.2 hL0
        obtain ⟨g, cap, rfl, hgb⟩ : ∃ g cap, u5 = .slice (some ⟨g, 0, none⟩) (outsFrom ses.toNat next base L).length cap ∧ wl.heap.size ≤ g := by
          rcases HOr.out.2 with ⟨_, h0⟩ | ⟨g, cap, cur, hv, hb, _⟩
          · rw [outs_len] at h0; omega
          · exact ⟨g, cap, hv, hb⟩
        have hnil : ∀ W n, (binOp .eql 33 (.slice (some ⟨g, 0, none⟩) n cap) (.slice none 0 0)).run Try.prog W = .ok (.bool false) W := fun W n => Lib.run_eql_slice_some_nil W _ _ _ Try.underlying33
        rw [show outsFrom ses.toNat next base L = T by rw [HT.out]; unfold lTick; rw [if_neg hL0]] at HOr ⊢
        have HBf := Lib.hid HBr.out
        have HOf := Lib.hid HOr.out
        clear HBr HOr
        obtain ⟨s0, s1, s2, s3, s4, s5, s6, s7, sf, slt⟩ := HXL.out.below HBf.out hwlz
        obtain ⟨d0, d1, d2, d3, d4, d5, d6, d7, df, dlt⟩ := HXR.out.below HBf.out (by omega)
        have df0 := df 0
        have df1 := df 1
        have df2 := df 2
        have df3 := df 3
        have df4 := df 4
        have df5 := df 5
        have df6 := df 6
        have df7 := df 7
        clear df
        go_wp2_with fail
        (try simp only [Exit.inBlock, Exit.then])
        refine bodyPost_cell (V := .agg #[.int .u64 ses.toNat, .int .i64 base, .slice A3 L.length c3, .slice A4 R.length c4, .int .i64 next, .slice Ae ne ce, .int .i64 (idle + 1), .bool false]) rfl rfl ?_ rfl ?_
        · go_simp
        · refine ⟨_, _, _, rfl, StrsN.of_owns (owns_set8 (HOW.out.kept (only_of_below' HBf.out) (own_or _)) (by have := HSQ.out; omega) _ _ _ _ _ _ _ _), ⟨HT1.out.below (below_set8 (HBL.out.trans (HBf.out.mono hsb)) (by omega) _ _ _ _ _ _ _ _) (Nat.le_refl _), HSR.out.v _ _, HSO2.out.mono (by simp only [World.size_setCell]; exact HBf.out.size)⟩, ?_, below_set8 (HBL.out.trans (HBf.out.mono hsb)) (by omega) _ _ _ _ _ _ _ _⟩
          exact StrsN.of_owns (owns_set8 HOf.out (by omega) _ _ _ _ _ _ _ _)
end Go.Proofs.Ytjgjhjecgdndjaa
