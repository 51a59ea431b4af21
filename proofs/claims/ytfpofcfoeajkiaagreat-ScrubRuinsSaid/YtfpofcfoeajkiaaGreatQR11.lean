/- Texts of this claim's author, packed: ScrNum, FrameWrap, ShelfPar. Conditions: none. -/
import Derived.Test.YtfpofcfoeajkiaaGreatQR09
import Derived.Test.YtfpofcfoeajkiaaGreatQR10
import Derived.Test.YtfpofcfoeajkiaaGreatQR03
import Derived.Test.YtfpofcfoeajkiaaGreatQR04
import Derived.Shelf.Strings.Builder1
import Derived.Shelf.Strings.Builder2
import Derived.Shelf.Strings.OnBuilder
import Derived.Shelf.Strings.BuilderF
import Derived.Shelf.Strings.BuilderK
import Derived.Shelf.Strings.Builder2Cap
import Derived.Shelf.Strings.Prefix
import Derived.Shelf.Bits.Mul64
import Derived.Shelf.Strings.Repeat
import Derived.Shelf.Strings.BuilderCap
import Derived.Test.YtfpofcfoeajkiaaGreatProg
/- The three numbers of a head: scrub.numbers (printed by gen-scr-nums.py). -/
namespace Go.Proofs.YtfpofcfoeajkiaaGreat
open Go.RowKit
set_option linter.unusedVariables false
set_option linter.unusedSimpArgs false
def numsG : Nat → List Nat → List UInt8 → Option (List Nat × List UInt8)
  | 0, vs, t => some (vs, t)
  | n + 1, vs, t => if (vTake t).2.2 = 0 ∧ (vTake t).1 ≤ 65536 then numsG n (vs ++ [(vTake t).1]) (t.drop (vTake t).2.1) else none
def numsL (t : List UInt8) : Option (List Nat × List UInt8) := numsG 3 [] t
theorem numsG_spec : ∀ (n : Nat) (vs : List Nat) (t : List UInt8) (us : List Nat) (r : List UInt8), numsG n vs t = some (us, r) → (∀ x ∈ vs, x ≤ 65536) → us.length = vs.length + n ∧ (∀ x ∈ us, x ≤ 65536) ∧ r.length ≤ t.length
  | 0, vs, t, us, r, h, hv => by
    simp only [numsG, Option.some.injEq, Prod.mk.injEq] at h
    obtain ⟨rfl, rfl⟩ := h
    exact ⟨rfl, hv, Nat.le_refl _⟩
  | n + 1, vs, t, us, r, h, hv => by
    rw [numsG] at h
    by_cases hc : (vTake t).2.2 = 0 ∧ (vTake t).1 ≤ 65536
    · rw [if_pos hc] at h
      obtain ⟨h1, h2, h3⟩ := numsG_spec n _ _ us r h (fun x hx => by
        rcases List.mem_append.1 hx with hx | hx
        · exact hv x hx
        · rw [List.mem_singleton.1 hx]; exact hc.2)
      refine ⟨by rw [h1]; simp; omega, h2, Nat.le_trans h3 (by rw [List.length_drop]; omega)⟩
    · rw [if_neg hc] at h; cases h
theorem numsL_spec {t : List UInt8} {us : List Nat} {r : List UInt8} (h : numsL t = some (us, r)) : ∃ a b c, us = [a, b, c] ∧ a ≤ 65536 ∧ b ≤ 65536 ∧ c ≤ 65536 ∧ r.length ≤ t.length := by
  obtain ⟨h1, h2, h3⟩ := numsG_spec 3 [] t us r h (fun x hx => nomatch hx)
  match us, h1 with
  | [a, b, c], _ => exact ⟨a, b, c, rfl, h2 a (by simp), h2 b (by simp), h2 c (by simp), h3⟩
theorem bodyPost_cell3 {P : Program} {fn : Func} {R : Ending → World → Prop} {a : Act} {w : World} {V : Value} {a1 u1 u2 : Tmp} {t1 : TypeId} {ad : Addr} (h : fn.results = #[.cell a1 t1, .tmp u1, .tmp u2]) (hp : a.tmps.getD a1 undef = .pointer (some ad)) (hl : (loadVar t1 ad).run P w = .ok V w) (hd : a.defers = [])
    (hR : R (.returned (.tuple #[V, a.tmps.getD u1 undef, a.tmps.getD u2 undef])) w) : bodyPost P fn R .ret a w :=
  ⟨hd, _, by simp only [results, h, List.mapM_toArray, List.mapM_cons, List.mapM_nil, hp, asAddr]; simp [hl], hR⟩
theorem cells3b {w : World} {b : Nat} {x y z : Value} {t : TypeId} (h : w.heap[b]? = some (.cells #[x, y, z] t)) : w.cell? ⟨b, 0, none⟩ = some x ∧ w.cell? ⟨b, 1, none⟩ = some y ∧ w.cell? ⟨b, 2, none⟩ = some z ∧ ∀ j, w.frozen? ⟨b, j, none⟩ = false := by
  refine ⟨?_, ?_, ?_, fun j => ?_⟩
  · unfold World.cell?; simp [h]
  · unfold World.cell?; simp [h]
  · unfold World.cell?; simp [h]
  · unfold World.frozen?; simp [h]
theorem set3b {w : World} {b : Nat} {x y z u : Value} {t : TypeId} (h : w.heap[b]? = some (.cells #[x, y, z] t)) : (w.setCell ⟨b, 0, none⟩ u).heap[b]? = some (.cells #[u, y, z] t) ∧ (w.setCell ⟨b, 1, none⟩ u).heap[b]? = some (.cells #[x, u, z] t) ∧ (w.setCell ⟨b, 2, none⟩ u).heap[b]? = some (.cells #[x, y, u] t) := by
  obtain ⟨hlt, hk⟩ := Array.getElem?_eq_some_iff.1 h
  refine ⟨?_, ?_, ?_⟩ <;> (show (w.heap.modify b _)[b]? = _; rw [Array.getElem?_eq_getElem (by rw [Array.size_modify]; exact hlt), Array.getElem_modify_self, hk]; rfl)
theorem set3_self {w : World} {b : Nat} (hB : w.heap.size ≤ b) {W : World} (h : Below w.heap.size w W) (x y z : Value) : Below w.heap.size w (((W.setCell ⟨b, 0, none⟩ x).setCell ⟨b, 1, none⟩ y).setCell ⟨b, 2, none⟩ z) :=
  ((h.setCell (p := ⟨b, 0, none⟩) hB _).setCell (p := ⟨b, 1, none⟩) hB _).setCell (p := ⟨b, 2, none⟩) hB _
def NumPost (o : Option (List Nat × List UInt8)) (e : Ending) : Prop :=
  (o = none → ∃ p q r : Nat, e = .returned (.tuple #[.agg #[.int .i64 p, .int .i64 q, .int .i64 r], .string ⟨#[]⟩, .bool false])) ∧
  (∀ a b c t, o = some ([a, b, c], t) → e = .returned (.tuple #[.agg #[.int .i64 a, .int .i64 b, .int .i64 c], .string ⟨t.toArray⟩, .bool true]))
set_option maxRecDepth 20000 in
set_option maxHeartbeats 4000000 in
theorem numbers_any (s : ByteArray) (hs : s.size ≤ 1000000) (w : World) :
    Calls Tryz.prog 71 #[.string s] w fun e w' => NumPost (numsL s.data.toList) e ∧ Below w.heap.size w w' := by
  have q0 := World.alloc_heap_new w (.cells #[.int .i64 ((0 : Nat) : Int), .int .i64 ((0 : Nat) : Int), .int .i64 ((0 : Nat) : Int)] 110)
  obtain ⟨wE, hwE⟩ : ∃ wE, wE = w.alloc (.cells #[.int .i64 ((0 : Nat) : Int), .int .i64 ((0 : Nat) : Int), .int .i64 ((0 : Nat) : Int)] 110) := ⟨_, rfl⟩
  have HB0 : Hid (Below w.heap.size w wE) := by unfold Hid; rw [hwE]; exact (Below.refl _ _).alloc (Nat.le_refl _) _
  rw [← hwE] at q0
  have HQ0 := Lib.hid q0
  have HWE : Hid (w.alloc (.cells #[.int .i64 0, .int .i64 0, .int .i64 0] 110) = wE) := hwE.symm
  clear q0 hwE
  go_enter Tryz.func71, Tryz.ntmps71
  go_wp2_with fail
  rw [HWE.out]
  go_loopw [0, 9] (fun a i wr => ∃ (j p q r : Nat) (T : ByteArray), j ≤ 3 ∧ i = .int .i64 j ∧ a = .string T ∧ T.size ≤ s.size ∧ Hid (wr.heap[w.heap.size]? = some (.cells #[.int .i64 p, .int .i64 q, .int .i64 r] 110)) ∧ Hid (numsL s.data.toList = numsG (3 - j) ([p, q, r].take j) T.data.toList) ∧ Hid (Below w.heap.size w wr)) (fun _ i _ => 3 - (intOf i).toNat)
  case atStart => exact ⟨0, 0, 0, 0, s, Nat.zero_le _, rfl, rfl, Nat.le_refl _, HQ0, Lib.hid rfl, HB0⟩
  case round =>
    obtain ⟨j, p, q, r, T, hj, rfl, rfl, hT, HV, HN, HB⟩ := hrel
    by_cases hlt : j < 3
    · have hlt' : (j : Int) < 3 := by omega
      have HTK := Lib.hid (fun W => take_any T (by unfold maxLen; omega) W)
      obtain ⟨x, k, c, v0⟩ : ∃ x k c, vTake T.data.toList = (x, k, c) := ⟨_, _, _, rfl⟩
      have hok : c = 0 → k ≤ T.size := fun h => by have := (vTake_le T.data.toList (by rw [v0]; exact h)).1; rw [v0] at this; simpa using this
      have hxl := (vTake_lt T.data.toList).1
      rw [v0] at HTK hxl
      have HST : Hid (∀ (n : Nat) vs, numsG (n + 1) vs T.data.toList = if c = 0 ∧ x ≤ 65536 then numsG n (vs ++ [x]) (T.extract k T.size).data.toList else none) := fun n vs => by rw [numsG, v0, extract_toS]
      dsimp only at HTK hxl
      have hlv := (Array.getElem?_eq_some_iff.1 HV.out).1
      clear v0
      by_cases hc : c = 0 ∧ x ≤ 65536
      · obtain ⟨hc0, hx6⟩ := hc
        have hk := hok hc0
        subst hc0
        have dx : decide ((65536 : Int) < (x : Int)) = false := by rw [decide_eq_false_iff_not]; omega
        have dx2 : decide (65536 < x) = false := by rw [decide_eq_false_iff_not]; omega
        have HT1 : Hid ((T.extract k T.size).size ≤ s.size) := by unfold Hid; rw [ByteArray.size_extract]; omega
        have HN1 : Hid (numsL s.data.toList = numsG (3 - (j + 1)) (([p, q, r].take j) ++ [x]) (T.extract k T.size).data.toList) := by
          unfold Hid
          rw [HN.out, show 3 - j = (3 - (j + 1)) + 1 by omega, HST.out, if_pos ⟨rfl, hx6⟩]
        have hE := Lib.hid (rfl : T.extract k T.size = T.extract k T.size)
        obtain ⟨T1, hT1⟩ : ∃ T1, T1 = T.extract k T.size := ⟨_, rfl⟩
        have HE1 := Lib.hid hT1
        rw [← hT1] at HT1 HN1
        clear hT1 hok HST HN hE
        have gk1 : ((k : Nat) : Int) ≤ (T.size : Int) := by omega
        have gk2 : (0 : Int) ≤ ((k : Nat) : Int) := by omega
        have gk3 : (((k : Nat) : Int)).toNat = k := Int.toNat_natCast _
        obtain ⟨c0, c1, c2, cf⟩ := cells3b HV.out
        go_wp2_with fail
        refine (HTK.out _).mono ?_
        rintro e wt ⟨rfl, bt⟩
        have HV2 : Hid (wt.heap[w.heap.size]? = some (.cells #[.int .i64 p, .int .i64 q, .int .i64 r] 110)) := (bt.block _ hlv).trans HV.out
        have HB2 := Lib.hid (HB.out.trans (bt.mono HB.out.size))
        clear bt HV HB HTK c0 c1 c2 cf
        go_wp2_with fail
        refine wp_region_noPanic ?_
        refine wp_region_held_drew (S := fun _ => True) (by kernel_rfl) trivial (fun hHeld => ?_)
        obtain ⟨wd, hwd⟩ : ∃ wd, wd = wt.drew := ⟨_, rfl⟩
        have HVd : Hid (wd.heap[w.heap.size]? = some (.cells #[.int .i64 p, .int .i64 q, .int .i64 r] 110)) := by unfold Hid; rw [hwd]; exact HV2.out
        have HBd : Hid (Below w.heap.size w wd) := by unfold Hid; rw [hwd]; exact HB2.out.drew
        rw [← hwd]
        clear hwd HV2 HB2
        refine wpAnyH_take (i := 0) (v := .int .i64 (j : Int)) rfl (by kernel_rfl) (by kernel_rfl) (by kernel_rfl) (fun _ _ _ h => h) (Or.inl ⟨by kernel_rfl, ?_⟩) (by assumption) ?_
        · intro wz hSw
          go_simp
        try simp only [Act.put, List.getElem_toArray, List.getElem_cons_succ, List.getElem_cons_zero, List.setIfInBounds_toArray, List.set_cons_zero, List.set_cons_succ]
        refine wpAnyH_take (i := 1) (v := .int .u64 (x : Int)) rfl (by kernel_rfl) (by kernel_rfl) (by kernel_rfl) (fun _ _ _ h => h) (Or.inl ⟨by kernel_rfl, ?_⟩) (by assumption) ?_
        · intro wz hSw
          go_simp
        try simp only [Act.put, List.getElem_toArray, List.getElem_cons_succ, List.getElem_cons_zero, List.setIfInBounds_toArray, List.set_cons_zero, List.set_cons_succ]
        refine wpAnyH_take (i := 2) (v := .int .i64 (x : Int)) rfl (by kernel_rfl) (by kernel_rfl) (by kernel_rfl) (fun _ _ _ h => h) (Or.inl ⟨by kernel_rfl, ?_⟩) (by assumption) ?_
        · intro wz hSw
          go_simp
          first | done | ((try rw [IntKind.wrap_i64]); omega)
        try simp only [Act.put, List.getElem_toArray, List.getElem_cons_succ, List.getElem_cons_zero, List.setIfInBounds_toArray, List.set_cons_zero, List.set_cons_succ]
        refine wpAnyH_take (i := 3) (v := .string T) rfl (by kernel_rfl) (by kernel_rfl) (by kernel_rfl) (fun _ _ _ h => h) (Or.inl ⟨by kernel_rfl, ?_⟩) (by assumption) ?_
        · intro wz hSw
          go_simp
        try simp only [Act.put, List.getElem_toArray, List.getElem_cons_succ, List.getElem_cons_zero, List.setIfInBounds_toArray, List.set_cons_zero, List.set_cons_succ]
        refine wpAnyH_take (i := 4) (v := .int .i64 (k : Int)) rfl (by kernel_rfl) (by kernel_rfl) (by kernel_rfl) (fun _ _ _ h => h) (Or.inl ⟨by kernel_rfl, ?_⟩) (by assumption) ?_
        · intro wz hSw
          go_simp
        try simp only [Act.put, List.getElem_toArray, List.getElem_cons_succ, List.getElem_cons_zero, List.setIfInBounds_toArray, List.set_cons_zero, List.set_cons_succ]
        refine wpAnyH_take (i := 5) (v := .string T1) rfl (by kernel_rfl) (by kernel_rfl) (by kernel_rfl) (fun _ _ _ h => h) (Or.inl ⟨by kernel_rfl, ?_⟩) (by assumption) ?_
        · intro wz hSw
          have hh := HE1.out
          go_simp
        try simp only [Act.put, List.getElem_toArray, List.getElem_cons_succ, List.getElem_cons_zero, List.setIfInBounds_toArray, List.set_cons_zero, List.set_cons_succ]
        refine wpAnyH_take (i := 6) (v := .pointer (some ⟨w.heap.size, j, none⟩)) rfl (by kernel_rfl) (by kernel_rfl) (by kernel_rfl) (fun _ _ _ h => h) (Or.inl ⟨by kernel_rfl, ?_⟩) (by assumption) ?_
        · intro wz hSw
          go_simp
        try simp only [Act.put, List.getElem_toArray, List.getElem_cons_succ, List.getElem_cons_zero, List.setIfInBounds_toArray, List.set_cons_zero, List.set_cons_succ]
        refine wpAnyH_ready (rs := [7]) (by kernel_rfl) (by simp) ?_
        refine AllReadyH.cons rfl (fun K hK => ?_) AllReadyH.nil
        obtain ⟨c0, c1, c2, cf⟩ := cells3b HVd.out
        obtain ⟨s0, s1, s2⟩ := set3b (u := .int .i64 (x : Int)) HVd.out
        have hBs : ∀ i, Below w.heap.size w (wd.setCell ⟨w.heap.size, i, none⟩ (.int .i64 (x : Int))) := fun i => HBd.out.setCell (p := ⟨w.heap.size, i, none⟩) (Nat.le_refl _) _
        rcases (show j = 0 ∨ j = 1 ∨ j = 2 by omega) with rfl | rfl | rfl
        · have cj := c0
          have fj := cf 0
          have HVn := Lib.hid s0
          have HBn := Lib.hid (hBs 0)
          clear c0 c1 c2 cf s0 s1 s2 hBs
          go_simp
          refine hK.out _ _ trivial (fun hHeld => ?_)
          clear hK K cj fj
          try simp only [Act.put, List.getElem_toArray, List.getElem_cons_succ, List.getElem_cons_zero, List.setIfInBounds_toArray, List.set_cons_zero, List.set_cons_succ]
          refine wpAnyH_take (i := 8) (v := .string T1) rfl (by kernel_rfl) (by kernel_rfl) (by kernel_rfl) (fun _ _ _ h => h) (Or.inl ⟨by kernel_rfl, ?_⟩) (by assumption) ?_
          · intro wz hSw
            go_simp
          refine wpAnyH_done (by kernel_rfl) ?_ _
          refine NoPanic.normal ?_
          go_wp2_with fail
          go_roundw
          case rel => exact ⟨1, x, q, r, T1, by omega, by go_num, rfl, HT1.out, HVn, HN1, HBn⟩
          case measure => simp [intOf]
        · have cj := c1
          have fj := cf 1
          have HVn := Lib.hid s1
          have HBn := Lib.hid (hBs 1)
          clear c0 c1 c2 cf s0 s1 s2 hBs
          go_simp
          refine hK.out _ _ trivial (fun hHeld => ?_)
          clear hK K cj fj
          try simp only [Act.put, List.getElem_toArray, List.getElem_cons_succ, List.getElem_cons_zero, List.setIfInBounds_toArray, List.set_cons_zero, List.set_cons_succ]
          refine wpAnyH_take (i := 8) (v := .string T1) rfl (by kernel_rfl) (by kernel_rfl) (by kernel_rfl) (fun _ _ _ h => h) (Or.inl ⟨by kernel_rfl, ?_⟩) (by assumption) ?_
          · intro wz hSw
            go_simp
          refine wpAnyH_done (by kernel_rfl) ?_ _
          refine NoPanic.normal ?_
          go_wp2_with fail
          go_roundw
          case rel => exact ⟨2, p, x, r, T1, by omega, by go_num, rfl, HT1.out, HVn, HN1, HBn⟩
          case measure => simp [intOf]
        · have cj := c2
          have fj := cf 2
          have HVn := Lib.hid s2
          have HBn := Lib.hid (hBs 2)
          clear c0 c1 c2 cf s0 s1 s2 hBs
          go_simp
          refine hK.out _ _ trivial (fun hHeld => ?_)
          clear hK K cj fj
          try simp only [Act.put, List.getElem_toArray, List.getElem_cons_succ, List.getElem_cons_zero, List.setIfInBounds_toArray, List.set_cons_zero, List.set_cons_succ]
          refine wpAnyH_take (i := 8) (v := .string T1) rfl (by kernel_rfl) (by kernel_rfl) (by kernel_rfl) (fun _ _ _ h => h) (Or.inl ⟨by kernel_rfl, ?_⟩) (by assumption) ?_
          · intro wz hSw
            go_simp
          refine wpAnyH_done (by kernel_rfl) ?_ _
          refine NoPanic.normal ?_
          go_wp2_with fail
          go_roundw
          case rel => exact ⟨3, p, q, x, T1, by omega, by go_num, rfl, HT1.out, HVn, HN1, HBn⟩
          case measure => simp [intOf]
      · have HNN : Hid (numsL s.data.toList = none) := by
          unfold Hid
          rw [HN.out, show 3 - j = (3 - (j + 1)) + 1 by omega, HST.out, if_neg hc]
        clear HST HN hok
        by_cases hc0 : c = 0
        · have hx6 : 65536 < x := by omega
          have dc : ((c : Int) != 0) = false := by simp [hc0]
          have dx : decide ((65536 : Int) < (x : Int)) = true := by rw [decide_eq_true_iff]; omega
          have dx2 : decide (65536 < x) = true := by rw [decide_eq_true_iff]; omega
          clear hc
          subst hc0
          obtain ⟨c0, c1, c2, cf⟩ := cells3b HV.out
          go_wp2_with fail
          refine (HTK.out _).mono ?_
          rintro e wt ⟨rfl, bt⟩
          have HV2 : Hid (wt.heap[w.heap.size]? = some (.cells #[.int .i64 p, .int .i64 q, .int .i64 r] 110)) := (bt.block _ hlv).trans HV.out
          have HB2 := Lib.hid (HB.out.trans (bt.mono HB.out.size))
          clear bt HV HB HTK c0 c1 c2 cf
          obtain ⟨c0, c1, c2, cf⟩ := cells3b HV2.out
          have f0 := cf 0
          have f1 := cf 1
          have f2 := cf 2
          clear cf
          go_wp2_with fail
          (try simp only [Exit.inBlock, Exit.then])
          refine bodyPost_cell3 (V := .agg #[.int .i64 p, .int .i64 q, .int .i64 r]) rfl rfl ?_ rfl ?_
          · go_simp
          · exact ⟨⟨fun _ => ⟨p, q, r, rfl⟩, fun a b c t h => by rw [HNN.out] at h; cases h⟩, set3_self (Nat.le_refl _) HB2.out _ _ _⟩
        · have dc : ((c : Int) != 0) = true := by simp; omega
          clear hc
          obtain ⟨c0, c1, c2, cf⟩ := cells3b HV.out
          go_wp2_with fail
          refine (HTK.out _).mono ?_
          rintro e wt ⟨rfl, bt⟩
          have HV2 : Hid (wt.heap[w.heap.size]? = some (.cells #[.int .i64 p, .int .i64 q, .int .i64 r] 110)) := (bt.block _ hlv).trans HV.out
          have HB2 := Lib.hid (HB.out.trans (bt.mono HB.out.size))
          clear bt HV HB HTK c0 c1 c2 cf
          obtain ⟨c0, c1, c2, cf⟩ := cells3b HV2.out
          have f0 := cf 0
          have f1 := cf 1
          have f2 := cf 2
          clear cf
          go_wp2_with fail
          (try simp only [Exit.inBlock, Exit.then])
          refine bodyPost_cell3 (V := .agg #[.int .i64 p, .int .i64 q, .int .i64 r]) rfl rfl ?_ rfl ?_
          · go_simp
          · exact ⟨⟨fun _ => ⟨p, q, r, rfl⟩, fun a b c t h => by rw [HNN.out] at h; cases h⟩, set3_self (Nat.le_refl _) HB2.out _ _ _⟩
    · obtain rfl : j = 3 := by omega
      obtain ⟨c0, c1, c2, cf⟩ := cells3b HV.out
      have f0 := cf 0
      have f1 := cf 1
      have f2 := cf 2
      have HNS : Hid (numsL s.data.toList = some ([p, q, r], T.data.toList)) := HN.out
      clear cf
      go_wp2_with fail
      (try simp only [Exit.inBlock, Exit.then])
      refine bodyPost_cell3 (V := .agg #[.int .i64 p, .int .i64 q, .int .i64 r]) rfl rfl ?_ rfl ?_
      · go_simp
      · refine ⟨⟨(fun h => by rw [HNS.out] at h; cases h), fun a b c t h => ?_⟩, set3_self (Nat.le_refl _) HB.out _ _ _⟩
        rw [HNS.out] at h
        simp only [Option.some.injEq, Prod.mk.injEq, List.cons.injEq, and_true] at h
        obtain ⟨⟨rfl, rfl, rfl⟩, rfl⟩ := h
        exact congrArg (fun z => Ending.returned (Value.tuple #[Value.agg #[Value.int .i64 p, Value.int .i64 q, Value.int .i64 r], Value.string z, Value.bool true])) (ByteArray.ext (by simp))
end Go.Proofs.YtfpofcfoeajkiaaGreat
/- A frame, whatever is behind, is opened as its text (as in FrameLaws, without Scan). -/
namespace Go.Proofs.YtfpofcfoeajkiaaGreat
open Go.RowKit
set_option linter.unusedVariables false
theorem vPutText_eq (s : List UInt8) (h : s.length ≤ 65536) : vPutText s = vPut s.length ++ s := by unfold vPutText; rw [if_neg (by omega)]
theorem vPutText_ne (s : List UInt8) (h : s.length ≤ 65536) : vPutText s ≠ [] := by
  rw [vPutText_eq s h]
  intro e
  have := vPut_pos s.length
  have := congrArg List.length e
  rw [List.length_append, List.length_nil] at this
  omega
theorem fWrap_eq (s : List UInt8) (h : s.length ≤ 65536) : fWrap s = vPutText s ++ crcBytes (crcMore 0 (vPutText s)) := by
  unfold fWrap; rw [if_neg (vPutText_ne s h)]
theorem fWrap_len (s : List UInt8) (h : s.length ≤ 65536) : (fWrap s).length = (vPut s.length).length + s.length + 4 := by
  rw [fWrap_eq s h, vPutText_eq s h]; simp [crcBytes_len]; omega
theorem fOpen_wrap (s behind : List UInt8) (h : s.length ≤ 65536) : fOpen (fWrap s ++ behind) = (s, (fWrap s).length, 0) := by
  have ht := vTakeText_put s (crcBytes (crcMore 0 (vPutText s)) ++ behind) h
  rw [fWrap_eq s h, List.append_assoc]
  unfold fOpen
  rw [ht]
  dsimp only
  rw [if_neg (by simp), if_neg (by simp [crcBytes_len]), if_neg ?_]
  · simp [crcBytes_len]
  · rw [List.take_left, List.drop_left, List.take_left' (by rfl)]
    simp
/-- the frames that bytes have: texts, and how long each one's frame is -/
def fGo : Nat → List UInt8 → List (List UInt8 × Nat)
  | 0, _ => []
  | n + 1, s => if s = [] then [] else if (fOpen s).2.2 ≠ 0 then [] else ((fOpen s).1, (fOpen s).2.1) :: fGo n (s.drop (fOpen s).2.1)
def fSum (l : List (List UInt8 × Nat)) : Nat := (l.map (·.2)).sum
end Go.Proofs.YtfpofcfoeajkiaaGreat
/- Contracts of Go's library at this dump, laid by the shelf's tools in plain words. -/
namespace Go.Proofs.YtfpofcfoeajkiaaGreat
open Go.Shelf
set_option linter.unusedVariables false
def Tryz.lays156_ren : Go.Shelf.Ren := ⟨fun | 156 => 28 | 165 => 55 | 166 => 52 | 169 => 53 | 240 => 80 | 241 => 81 | 276 => 102 | 277 => 103 | n => n, fun | 31 => 37 | 9 => 9 | 3 => 3 | 4 => 4 | 0 => 0 | 20 => 20 | 72 => 93 | 76 => 96 | 70 => 91 | 37 => 83 | 75 => 95 | 127 => 123 | 164 => 144 | 5 => 5 | 80 => 98 | n => n, fun | n => n⟩
theorem Tryz.lays156 : Go.Proofs.Lays.n156 Tryz.prog Tryz.lays156_ren := {
  mixed := by kernel_rfl
  f156 := Tryz.func28.trans (congrArg some (by kernel_rfl))
  f165 := Tryz.func55.trans (congrArg some (by kernel_rfl))
  f166 := Tryz.func52.trans (congrArg some (by kernel_rfl))
  f169 := Tryz.func53.trans (congrArg some (by kernel_rfl))
  f240 := Tryz.func80.trans (congrArg some (by kernel_rfl))
  f241 := Tryz.func81.trans (congrArg some (by kernel_rfl))
  f276 := Tryz.func102.trans (congrArg some (by kernel_rfl))
  f277 := Tryz.func103.trans (congrArg some (by kernel_rfl))
  t0 := Tryz.underlying0
  a0 := Tryz.isAgg0
  z0 := Tryz.sizeOf0
  v0 := Tryz.zeroValue0
  t3 := Tryz.underlying3
  a3 := Tryz.isAgg3
  z3 := Tryz.sizeOf3
  v3 := Tryz.zeroValue3
  t4 := Tryz.underlying4
  a4 := Tryz.isAgg4
  z4 := Tryz.sizeOf4
  v4 := Tryz.zeroValue4
  t9 := Tryz.underlying9
  a9 := Tryz.isAgg9
  z9 := Tryz.sizeOf9
  v9 := Tryz.zeroValue9
  t20 := Tryz.underlying20
  a20 := Tryz.isAgg20
  z20 := Tryz.sizeOf20
  v20 := Tryz.zeroValue20
  t31 := Tryz.underlying37
  a31 := Tryz.isAgg37
  z31 := Tryz.sizeOf37
  v31 := Tryz.zeroValue37
  t37 := Tryz.underlying83
  a37 := Tryz.isAgg83
  z37 := Tryz.sizeOf83
  v37 := Tryz.zeroValue83
  t70 := Tryz.underlying91
  a70 := Tryz.isAgg91
  z70 := Tryz.sizeOf91
  v70 := Tryz.zeroValue91
  t72 := Tryz.underlying93
  a72 := Tryz.isAgg93
  z72 := Tryz.sizeOf93
  v72 := Tryz.zeroValue93
  t75 := Tryz.underlying95
  a75 := Tryz.isAgg95
  z75 := Tryz.sizeOf95
  v75 := Tryz.zeroValue95
  t76 := Tryz.underlying96
  a76 := Tryz.isAgg96
  z76 := Tryz.sizeOf96
  v76 := Tryz.zeroValue96
  t127 := Tryz.underlying123
  a127 := Tryz.isAgg123
  z127 := Tryz.sizeOf123
  v127 := Tryz.zeroValue123
  t164 := Tryz.underlying144
  a164 := Tryz.isAgg144
  z164 := Tryz.sizeOf144
  v164 := Tryz.zeroValue144 }
theorem Tryz.Builder_Extra_156 : Builder.Extra Tryz.prog Tryz.lays156_ren := {
  sizeBuilder := by kernel_rfl
  liesBuilder := by kernel_rfl
  t5 := Tryz.underlying5
  a5 := Tryz.isAgg5
  z5 := Tryz.sizeOf5
  v5 := Tryz.zeroValue5
  infoByte := by kernel_rfl
  cellsByte := by kernel_rfl
  sizeByte := by kernel_rfl
  neB5 := by decide }
open Go.RowKit in
theorem Tryz.strings_Join_none (a : Option Addr) (c : Nat) (sep : ByteArray) (w : World) :
    Calls Tryz.prog 28 #[.slice a 0 c, .string sep] w fun e w' => e = .returned (.string ⟨#[]⟩) ∧ w' = w := Any.strings_Join_none Tryz.lays156 Tryz.Builder_Extra_156 a c sep w
open Go.RowKit in
theorem Tryz.strings_Join (bk o c : Nat) (xs : List ByteArray) (sep : ByteArray) (w : World) (hcells : ∀ (j : Nat) x, xs[j]? = some x → w.cell? ⟨bk, o + j, none⟩ = some (.string x)) (hbk : bk < w.heap.size) (hN : xs.length ≤ 140737488355328) (hcap : xs.length ≤ c) (hlen : (Lib.join (xs.map (·.data.toList)) sep.data.toList).length ≤ 140737488355328) :
    Calls Tryz.prog 28 #[.slice (some ⟨bk, o, none⟩) xs.length c, .string sep] w fun e w' => e = .returned (.string ⟨(Lib.join (xs.map (·.data.toList)) sep.data.toList).toArray⟩) ∧ Below w.heap.size w w' := Any.strings_Join Tryz.lays156 Tryz.Builder_Extra_156 bk o c xs sep w hcells hbk hN hcap hlen
def Tryz.lays105_ren : Go.Shelf.Ren := ⟨fun | 105 => 61 | 212 => 83 | 99 => 84 | 165 => 55 | 166 => 52 | 170 => 85 | 169 => 53 | 263 => 104 | 264 => 105 | 206 => 106 | 240 => 80 | 241 => 81 | 276 => 102 | 277 => 103 | n => n, fun | 9 => 9 | 3 => 3 | 4 => 4 | 20 => 20 | 0 => 0 | 46 => 39 | 109 => 124 | 5 => 5 | 72 => 93 | 76 => 96 | 51 => 35 | 146 => 147 | 53 => 58 | 148 => 149 | 70 => 91 | 37 => 83 | 75 => 95 | 127 => 123 | 164 => 144 | 80 => 98 | n => n, fun | n => n⟩
theorem Tryz.lays105 : Go.Proofs.Lays.n105 Tryz.prog Tryz.lays105_ren := {
  mixed := by kernel_rfl
  f99 := Tryz.func84.trans (congrArg some (by kernel_rfl))
  f105 := Tryz.func61.trans (congrArg some (by kernel_rfl))
  f165 := Tryz.func55.trans (congrArg some (by kernel_rfl))
  f166 := Tryz.func52.trans (congrArg some (by kernel_rfl))
  f169 := Tryz.func53.trans (congrArg some (by kernel_rfl))
  f170 := Tryz.func85.trans (congrArg some (by kernel_rfl))
  f206 := Tryz.func106.trans (congrArg some (by kernel_rfl))
  f212 := Tryz.func83.trans (congrArg some (by kernel_rfl))
  f240 := Tryz.func80.trans (congrArg some (by kernel_rfl))
  f241 := Tryz.func81.trans (congrArg some (by kernel_rfl))
  f263 := Tryz.func104.trans (congrArg some (by kernel_rfl))
  f264 := Tryz.func105.trans (congrArg some (by kernel_rfl))
  f276 := Tryz.func102.trans (congrArg some (by kernel_rfl))
  f277 := Tryz.func103.trans (congrArg some (by kernel_rfl))
  t0 := Tryz.underlying0
  a0 := Tryz.isAgg0
  z0 := Tryz.sizeOf0
  v0 := Tryz.zeroValue0
  t3 := Tryz.underlying3
  a3 := Tryz.isAgg3
  z3 := Tryz.sizeOf3
  v3 := Tryz.zeroValue3
  t4 := Tryz.underlying4
  a4 := Tryz.isAgg4
  z4 := Tryz.sizeOf4
  v4 := Tryz.zeroValue4
  t5 := Tryz.underlying5
  a5 := Tryz.isAgg5
  z5 := Tryz.sizeOf5
  v5 := Tryz.zeroValue5
  t9 := Tryz.underlying9
  a9 := Tryz.isAgg9
  z9 := Tryz.sizeOf9
  v9 := Tryz.zeroValue9
  t20 := Tryz.underlying20
  a20 := Tryz.isAgg20
  z20 := Tryz.sizeOf20
  v20 := Tryz.zeroValue20
  t37 := Tryz.underlying83
  a37 := Tryz.isAgg83
  z37 := Tryz.sizeOf83
  v37 := Tryz.zeroValue83
  t46 := Tryz.underlying39
  a46 := Tryz.isAgg39
  z46 := Tryz.sizeOf39
  v46 := Tryz.zeroValue39
  t51 := Tryz.underlying35
  a51 := Tryz.isAgg35
  z51 := Tryz.sizeOf35
  v51 := Tryz.zeroValue35
  t53 := Tryz.underlying58
  a53 := Tryz.isAgg58
  z53 := Tryz.sizeOf58
  v53 := Tryz.zeroValue58
  t70 := Tryz.underlying91
  a70 := Tryz.isAgg91
  z70 := Tryz.sizeOf91
  v70 := Tryz.zeroValue91
  t72 := Tryz.underlying93
  a72 := Tryz.isAgg93
  z72 := Tryz.sizeOf93
  v72 := Tryz.zeroValue93
  t75 := Tryz.underlying95
  a75 := Tryz.isAgg95
  z75 := Tryz.sizeOf95
  v75 := Tryz.zeroValue95
  t76 := Tryz.underlying96
  a76 := Tryz.isAgg96
  z76 := Tryz.sizeOf96
  v76 := Tryz.zeroValue96
  t109 := Tryz.underlying124
  a109 := Tryz.isAgg124
  z109 := Tryz.sizeOf124
  v109 := Tryz.zeroValue124
  t127 := Tryz.underlying123
  a127 := Tryz.isAgg123
  z127 := Tryz.sizeOf123
  v127 := Tryz.zeroValue123
  t146 := Tryz.underlying147
  a146 := Tryz.isAgg147
  z146 := Tryz.sizeOf147
  v146 := Tryz.zeroValue147
  t148 := Tryz.underlying149
  a148 := Tryz.isAgg149
  z148 := Tryz.sizeOf149
  v148 := Tryz.zeroValue149
  t164 := Tryz.underlying144
  a164 := Tryz.isAgg144
  z164 := Tryz.sizeOf144
  v164 := Tryz.zeroValue144 }
theorem Tryz.Builder_Extra_105 : Builder.Extra Tryz.prog Tryz.lays105_ren := {
  sizeBuilder := by kernel_rfl
  liesBuilder := by kernel_rfl
  t5 := Tryz.underlying5
  a5 := Tryz.isAgg5
  z5 := Tryz.sizeOf5
  v5 := Tryz.zeroValue5
  infoByte := by kernel_rfl
  cellsByte := by kernel_rfl
  sizeByte := by kernel_rfl
  neB5 := by decide }
open Go.RowKit Go.Lib in
theorem Tryz.strings_Repeat_main (s : ByteArray) (c : Nat) (w : World) (hc2 : 2 ≤ c) (hc : c ≤ 9223372036854775807) (hlen : s.size * c ≤ 140737488355328) (h0 : 0 < s.size) :
    Calls Tryz.prog 61 #[.string s, .int .i64 c] w fun e w' => e = .returned (.string ⟨(Lib.repeatL s.data.toList c).toArray⟩) ∧ Below w.heap.size w w' := Any.strings_Repeat_main Tryz.lays105 Tryz.Builder_Extra_105 s c w hc2 hc hlen h0
open Go.RowKit Go.Lib in
theorem Tryz.strings_Repeat_zero (s : ByteArray) (w : World) :
    Calls Tryz.prog 61 #[.string s, .int .i64 0] w fun e w' => e = .returned (.string ⟨#[]⟩) ∧ w' = w := Any.strings_Repeat_zero Tryz.lays105 s w
open Go.RowKit Go.Lib in
theorem Tryz.strings_Repeat_one (s : ByteArray) (w : World) :
    Calls Tryz.prog 61 #[.string s, .int .i64 1] w fun e w' => e = .returned (.string s) ∧ w' = w := Any.strings_Repeat_one Tryz.lays105 s w
open Go.RowKit Go.Lib in
theorem Tryz.strings_Repeat_empty (s : ByteArray) (c : Nat) (w : World) (hc2 : 2 ≤ c) (hc : c ≤ 9223372036854775807) (h0 : s.size = 0) :
    Calls Tryz.prog 61 #[.string s, .int .i64 c] w fun e w' => e = .returned (.string ⟨#[]⟩) ∧ w' = w := Any.strings_Repeat_empty Tryz.lays105 s c w hc2 hc h0
open Go.RowKit Go.Lib in
theorem Tryz.strings_Repeat_negative (s : ByteArray) (c : Int) (w : World) (hc : c < 0) :
    Calls Tryz.prog 61 #[.string s, .int .i64 c] w fun e w' => e = .panicked [{ v := repeatPanic Tryz.lays105_ren "strings: negative Repeat count", recovered := false }] ∧ w' = w := Any.strings_Repeat_negative Tryz.lays105 s c w hc
open Go.RowKit Go.Lib in
theorem Tryz.strings_Repeat_overflow (s : ByteArray) (c : Nat) (w : World) (hc : c ≤ 9223372036854775807) (hs : s.size ≤ 9223372036854775807) (hbig : 9223372036854775807 < s.size * c) :
    Calls Tryz.prog 61 #[.string s, .int .i64 c] w fun e w' => e = .panicked [{ v := repeatPanic Tryz.lays105_ren "strings: Repeat output length overflow", recovered := false }] ∧ w' = w := Any.strings_Repeat_overflow Tryz.lays105 s c w hc hs hbig
open Go.RowKit Go.Lib in
theorem Tryz.strings_Repeat (s : ByteArray) (c : Nat) (w : World) (hc : c ≤ 9223372036854775807) (hlen : s.size * c ≤ 140737488355328) :
    Calls Tryz.prog 61 #[.string s, .int .i64 c] w fun e w' => e = .returned (.string ⟨(Lib.repeatL s.data.toList c).toArray⟩) ∧ Below w.heap.size w w' := Any.strings_Repeat Tryz.lays105 Tryz.Builder_Extra_105 s c w hc hlen
end Go.Proofs.YtfpofcfoeajkiaaGreat
