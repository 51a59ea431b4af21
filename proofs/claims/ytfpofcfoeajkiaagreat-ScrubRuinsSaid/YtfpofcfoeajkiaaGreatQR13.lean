/- Texts of this claim's author, packed: ScrHead. Conditions: none. -/
import Derived.Test.YtfpofcfoeajkiaaGreatQR11
import Derived.Test.YtfpofcfoeajkiaaGreatQR12
/- The ward of a frame's text: scrub.head (printed by gen-scr-head.py). -/
namespace Go.Proofs.YtfpofcfoeajkiaaGreat
open Go.RowKit
set_option linter.unusedVariables false
set_option linter.unusedSimpArgs false
theorem shdInfo : (Tryz.prog.info? 46).map (fun i => (i.zero, i.size, i.bytes)) = some (some (.agg #[.int .i64 0, .string ByteArray.empty, .string ByteArray.empty]), 3, 40) := by kernel_rfl
theorem wp_push_shd {w : World} {o : Oper} {a : Act} {K : Act → World → Prop} {Q : Exit → Act → World → Prop} (s x : Operand) (t : TypeId)
    (ho : o.op = .call { callee := .builtin .append, args := #[s, x], argTypes := #[t, t] }) (ht : Tryz.prog.underlying t = some (.slice 46))
    (base : Nat) (v : Value) (xs : List Shd) (hs : a.eval s = v) (hown : w.ownsRow base 46 3 v xs.length (shCells xs))
    (vb c : Nat) (y : Shd) (hx : a.eval x = .slice (some ⟨vb, 0, none⟩) 1 c) (hc : w.heap[vb]? = some (.cells #[.int .i64 y.1, .string y.2.1, .string y.2.2] 46 (0, 0))) (hle : xs.length + 1 ≤ 1000000000) (hbase : base ≤ w.heap.size)
    (h : ∀ v' w', w'.ownsRow base 46 3 v' (xs ++ [y]).length (shCells (xs ++ [y])) → w.grownBy w' v.ownBlock → K (a.put o.dst v') w') : o.wp Tryz.prog a w K Q := by
  obtain ⟨i0, hi, hz0, hz1, hz2⟩ := info_parts shdInfo
  refine wp_append_own w s x t ho base 46 i0 (.agg #[.int .i64 0, .string ByteArray.empty, .string ByteArray.empty]) 3 40 ht hi hz0 hz1 hz2 rfl (by decide) v _ _ hs hown ⟨vb, 0, none⟩ 1 c [.int .i64 y.1, .string y.2.1, .string y.2.2] hx rfl ?_ ?_ (by unfold maxLen; omega) (by omega) hbase ?_
  · intro j u' hj
    rw [add_eq]
    simp only [World.cell?, hc]
    simpa using hj
  · intro u' hu'
    simp at hu'
    rcases hu' with rfl | rfl | rfl <;> rfl
  · intro v' w' h1 h2 _
    refine h v' w' ?_ h2
    rw [List.length_append, shCells_append]
    simpa [shCells, ES3, EStr, EInt] using h1
theorem bs_sizeT (l : List UInt8) : (⟨l.toArray⟩ : ByteArray).size = l.length := by show l.toArray.size = l.length; simp
def shdAt (r : List UInt8) (i : Nat) : Shd := ((i : Int), ⟨#[]⟩, ⟨((r.drop (32 * i)).take 32).toArray⟩)
def shdOf (n : Nat) (r : List UInt8) : List Shd := (List.range n).map (shdAt r)
theorem shdOf_succ (n : Nat) (r : List UInt8) : shdOf (n + 1) r = shdOf n r ++ [shdAt r n] := by unfold shdOf; rw [List.range_succ, List.map_append]; rfl
theorem shdOf_len (n : Nat) (r : List UInt8) : (shdOf n r).length = n := by simp [shdOf]
abbrev Wrd := Nat × Nat × Nat × List Shd
def headL (t : List UInt8) : Option Wrd :=
  match numsL t with
  | some ([a, b, c], r) => if r.length = (a + b) * 32 ∧ fitW a b c (shdOf (a + b) r) = true then some (a, b, c, shdOf (a + b) r) else none
  | _ => none
theorem headL_none {t : List UInt8} (h : numsL t = none) : headL t = none := by unfold headL; rw [h]
theorem headL_some {t r : List UInt8} {a b c : Nat} (h : numsL t = some ([a, b, c], r)) : headL t = if r.length = (a + b) * 32 ∧ fitW a b c (shdOf (a + b) r) = true then some (a, b, c, shdOf (a + b) r) else none := by unfold headL; rw [h]
def HeadPost (B : Nat) (o : Option Wrd) (e : Ending) (w' : World) : Prop :=
  (o = none → ∃ (x y z : Int) (A : Option Addr) (n c : Nat), e = .returned (.tuple #[.agg #[.int .i64 x, .int .i64 y, .int .i64 z, .slice A n c], .bool false])) ∧
  (∀ a b c l, o = some (a, b, c, l) → ∃ A cap, e = .returned (.tuple #[.agg #[.int .i64 (a : Nat), .int .i64 (b : Nat), .int .i64 (c : Nat), .slice A l.length cap], .bool true]) ∧ w'.ownsRow B 46 3 (.slice A l.length cap) l.length (shCells l))
theorem cells4b {w : World} {b : Nat} {x y z u : Value} {t : TypeId} (h : w.heap[b]? = some (.cells #[x, y, z, u] t)) : w.cell? ⟨b, 0, none⟩ = some x ∧ w.cell? ⟨b, 1, none⟩ = some y ∧ w.cell? ⟨b, 2, none⟩ = some z ∧ w.cell? ⟨b, 3, none⟩ = some u ∧ ∀ j, w.frozen? ⟨b, j, none⟩ = false := by
  refine ⟨?_, ?_, ?_, ?_, fun j => ?_⟩
  · unfold World.cell?; simp [h]
  · unfold World.cell?; simp [h]
  · unfold World.cell?; simp [h]
  · unfold World.cell?; simp [h]
  · unfold World.frozen?; simp [h]
theorem set4b {w : World} {b : Nat} {x y z u v : Value} {t : TypeId} (h : w.heap[b]? = some (.cells #[x, y, z, u] t)) : (w.setCell ⟨b, 3, none⟩ v).heap[b]? = some (.cells #[x, y, z, v] t) := by
  obtain ⟨hlt, hk⟩ := Array.getElem?_eq_some_iff.1 h
  show (w.heap.modify b _)[b]? = _
  rw [Array.getElem?_eq_getElem (by rw [Array.size_modify]; exact hlt), Array.getElem_modify_self, hk]
  rfl
theorem set4_below {w : World} {b : Nat} (hB : w.heap.size ≤ b) {W : World} (h : Below w.heap.size w W) (x y z u : Value) : Below w.heap.size w ((((W.setCell ⟨b, 0, none⟩ x).setCell ⟨b, 1, none⟩ y).setCell ⟨b, 2, none⟩ z).setCell ⟨b, 3, none⟩ u) :=
  (((h.setCell (p := ⟨b, 0, none⟩) hB _).setCell (p := ⟨b, 1, none⟩) hB _).setCell (p := ⟨b, 2, none⟩) hB _).setCell (p := ⟨b, 3, none⟩) hB _
theorem set4_keep {W : World} {b k : Nat} (hk : k ≠ b) (x y z u : Value) : ((((W.setCell ⟨b, 0, none⟩ x).setCell ⟨b, 1, none⟩ y).setCell ⟨b, 2, none⟩ z).setCell ⟨b, 3, none⟩ u).heap[k]? = W.heap[k]? := by
  rw [Below.heap_setCell _ _ _ _ (by dsimp only; exact hk), Below.heap_setCell _ _ _ _ (by dsimp only; exact hk), Below.heap_setCell _ _ _ _ (by dsimp only; exact hk), Below.heap_setCell _ _ _ _ (by dsimp only; exact hk)]
theorem set4_owns {w : World} {B b k n : Nat} {e : TypeId} {v : Value} {xs : List Value} (h : w.ownsRow B e k v n xs) (hb : b < B) (x y z u : Value) : ((((w.setCell ⟨b, 0, none⟩ x).setCell ⟨b, 1, none⟩ y).setCell ⟨b, 2, none⟩ z).setCell ⟨b, 3, none⟩ u).ownsRow B e k v n xs :=
  ownsRow_setCell_below (ownsRow_setCell_below (ownsRow_setCell_below (ownsRow_setCell_below h (a := ⟨b, 0, none⟩) hb _) (a := ⟨b, 1, none⟩) hb _) (a := ⟨b, 2, none⟩) hb _) (a := ⟨b, 3, none⟩) hb _
theorem owns_leS {w : World} {B B' t k n : Nat} {v : Value} {l : List Value} (h : w.ownsRow B t k v n l) (hB : B' ≤ B) : w.ownsRow B' t k v n l := by
  refine ⟨h.1, ?_⟩
  rcases h.2 with h | ⟨g, cap, cur, hv, hb, hr⟩
  · exact .inl h
  · exact .inr ⟨g, cap, cur, hv, Nat.le_trans hB hb, hr⟩
theorem bodyPost_cellS {P : Program} {fn : Func} {R : Ending → World → Prop} {a : Act} {w : World} {V : Value} {a1 u : Tmp} {t1 : TypeId} {ad : Addr} (h : fn.results = #[.cell a1 t1, .tmp u]) (hp : a.tmps.getD a1 undef = .pointer (some ad)) (hl : (loadVar t1 ad).run P w = .ok V w) (hd : a.defers = [])
    (hR : R (.returned (.tuple #[V, a.tmps.getD u undef])) w) : bodyPost P fn R .ret a w :=
  ⟨hd, _, by simp only [results, h, List.mapM_toArray, List.mapM_cons, List.mapM_nil, hp, asAddr]; simp [hl], hR⟩
set_option maxRecDepth 20000 in
set_option maxHeartbeats 8000000 in
theorem head_any (s : ByteArray) (hs : s.size ≤ 1000000) (w : World) :
    Calls Tryz.prog 42 #[.string s] w fun e w' => HeadPost w.heap.size (headL s.data.toList) e w' ∧ Below w.heap.size w w' := by
  have q0 := World.alloc_heap_new w (.cells #[.int .i64 0, .int .i64 0, .int .i64 0, .slice none 0 0] 24)
  obtain ⟨wE, hwE⟩ : ∃ wE, wE = w.alloc (.cells #[.int .i64 0, .int .i64 0, .int .i64 0, .slice none 0 0] 24) := ⟨_, rfl⟩
  have HB0 : Hid (Below w.heap.size w wE) := by unfold Hid; rw [hwE]; exact (Below.refl _ _).alloc (Nat.le_refl _) _
  rw [← hwE] at q0
  have HQ0 := Lib.hid q0
  have HWE := Lib.hid hwE.symm
  have HNM := Lib.hid (fun W => numbers_any s hs W)
  clear q0 hwE
  go_enter Tryz.func42, Tryz.ntmps42
  go_wp2_with fail
  rw [HWE.out]
  refine (HNM.out _).mono ?_
  rintro e w1 ⟨hp, b1⟩
  have HB1 := Lib.hid (HB0.out.trans (b1.mono HB0.out.size))
  have HQ1 := Lib.hid ((b1.block _ (Array.getElem?_eq_some_iff.1 HQ0.out).1).trans HQ0.out)
  clear b1 HNM HB0 HQ0
  cases hnum : numsL s.data.toList with
  | none =>
    obtain ⟨p, q, r, rfl⟩ := hp.1 hnum
    have HHN := Lib.hid (headL_none hnum)
    clear hp hnum
    have hlt1 : w.heap.size < w1.heap.size := (Array.getElem?_eq_some_iff.1 HQ1.out).1
    obtain ⟨c0, c1, c2, c3, cf⟩ := cells4b HQ1.out
    have f0 := cf 0
    have f1 := cf 1
    have f2 := cf 2
    have f3 := cf 3
    have hbs : w.heap.size ≤ w1.heap.size := HB1.out.size
    clear cf
    go_wp2_with fail
    (try simp only [Exit.inBlock, Exit.then])
    refine bodyPost_cellS (V := .agg #[.int .i64 0, .int .i64 0, .int .i64 0, .slice none 0 0]) rfl rfl ?_ rfl ?_
    · go_simp
    · refine ⟨⟨fun _ => ⟨0, 0, 0, none, 0, 0, rfl⟩, fun a b c l h => by rw [HHN.out] at h; cases h⟩, ?_⟩
      first
        | exact ((set4_below (Nat.le_refl _) HB1.out _ _ _ _).alloc (by simp [World.size_setCell]; omega) _).alloc (by simp [World.size_setCell]; omega) _
        | exact set4_below (Nat.le_refl _) ((HB1.out.alloc hbs _).alloc (by rw [World.size_alloc]; omega) _) _ _ _ _
  | some pr =>
    obtain ⟨us, rest⟩ := pr
    obtain ⟨k, p, z, rfl, hk, hpp, hz, hrl⟩ := numsL_spec hnum
    have he := hp.2 k p z rest hnum
    subst he
    have HHS := Lib.hid (headL_some hnum)
    clear hp hnum
    obtain ⟨R, hR⟩ : ∃ R : ByteArray, R = ⟨rest.toArray⟩ := ⟨_, rfl⟩
    have hRd : rest = R.data.toList := by rw [hR]
    have hRs : R.size = rest.length := by rw [hR]; simp [ByteArray.size]
    rw [← hR]
    rw [hRd] at HHS hrl hRs
    have hs0 : s.data.toList.length = s.size := by simp
    have hRl : R.size ≤ 1000000 := by omega
    have hRR : R.data.toList.length = R.size := by simp
    rw [hRR] at HHS
    clear hR hRd hRs hrl hs0 hRR
    have hlt1 : w.heap.size < w1.heap.size := (Array.getElem?_eq_some_iff.1 HQ1.out).1
    obtain ⟨w2, hw2⟩ : ∃ w2, w2 = (w1.alloc (.cells #[.int .i64 k, .int .i64 p, .int .i64 z] 110)).alloc (.cells #[.int .i64 k, .int .i64 p, .int .i64 z, .slice none 0 0] 24) := ⟨_, rfl⟩
    have hb2 : Below w1.heap.size w1 w2 := by rw [hw2]; exact ((Below.refl _ _).alloc (Nat.le_refl _) _).alloc (by simp) _
    have hq2 : w2.heap[w1.heap.size + 1]? = some (.cells #[.int .i64 k, .int .i64 p, .int .i64 z, .slice none 0 0] 24) := by
      rw [hw2]
      have h := World.alloc_heap_new (w1.alloc (.cells #[.int .i64 k, .int .i64 p, .int .i64 z] 110)) (.cells #[.int .i64 k, .int .i64 p, .int .i64 z, .slice none 0 0] 24)
      rwa [World.size_alloc] at h
    have HB2 := Lib.hid (HB1.out.trans (hb2.mono HB1.out.size))
    have HQ2 := Lib.hid ((hb2.block _ hlt1).trans HQ1.out)
    have HV2 := Lib.hid hq2
    have HW2 := Lib.hid hw2
    by_cases hm : R.size = (k + p) * 32
    · have dm : ((R.size : Int) != ((k : Int) + (p : Int)) * 32) = false := by rw [bne_eq_false_iff_eq]; omega
      have HM := Lib.hid hm
      obtain ⟨n, hn⟩ : ∃ n : Nat, n = k + p := ⟨_, rfl⟩
      have hnI : (k : Int) + (p : Int) = (n : Int) := by omega
      have hn3 : n ≤ 131072 := by omega
      have HNN := Lib.hid hn
      have hRn : R.size = n * 32 := by rw [hn]; exact hm
      obtain ⟨d0, d1, d2, d3, df⟩ := cells4b hq2
      rw [hw2] at d0 d1 d2 d3
      clear hw2 hb2 hq2 df hn hm HB1 HQ1 HM
      go_wp2_with fail
      rw [← HW2.out]
      clear d0 d1 d2 d3
      have hlt2 : w1.heap.size + 1 < w2.heap.size := (Array.getElem?_eq_some_iff.1 HV2.out).1
      have HZ : Hid (w.heap.size < w1.heap.size) := hlt1
      go_loopw [5, 41] (fun t i wr => ∃ (j : Nat) (A : Option Addr) (cap : Nat) (T : ByteArray), j ≤ n ∧ i = .int .i64 j ∧ t = .string T ∧ Hid (T.data.toList = R.data.toList.drop (32 * j)) ∧ T.size + 32 * j = n * 32 ∧ w2.heap.size ≤ wr.heap.size ∧ Hid (wr.heap[w1.heap.size + 1]? = some (.cells #[.int .i64 k, .int .i64 p, .int .i64 z, .slice A j cap] 24)) ∧ Hid (wr.heap[w.heap.size]? = some (.cells #[.int .i64 0, .int .i64 0, .int .i64 0, .slice none 0 0] 24)) ∧ Hid (wr.ownsRow w2.heap.size 46 3 (.slice A j cap) (shdOf j R.data.toList).length (shCells (shdOf j R.data.toList))) ∧ Hid (Below w.heap.size w wr)) (fun _ i _ => n - (intOf i).toNat)
      case atStart => exact ⟨0, none, 0, R, Nat.zero_le _, rfl, rfl, Lib.hid rfl, by omega, Nat.le_refl _, HV2, HQ2, World.ownsRow_nil _ _ _ _, HB2⟩
      case round =>
        obtain ⟨j, A, cap, T, hj, rfl, rfl, HT, hTs, hsz, HV, HQ, HO, HB⟩ := hrel
        by_cases hlt : j < n
        · have hlt' : (j : Int) < n := by omega
          have h32 : (32 : Int) ≤ (T.size : Int) := by omega
          have h32n : 32 ≤ T.size := by omega
          have HXT : Hid (shdAt R.data.toList j = ((j : Int), (⟨#[]⟩ : ByteArray), T.extract 0 32)) := by
            unfold Hid shdAt
            rw [← HT.out]
            congr 2
            apply ByteArray.ext
            apply Array.toList_inj.1
            rw [Lib.extract_data]
            simp
          have HSU : Hid (shdOf (j + 1) R.data.toList = shdOf j R.data.toList ++ [((j : Int), (⟨#[]⟩ : ByteArray), T.extract 0 32)]) := by unfold Hid; rw [shdOf_succ, HXT.out]
          have hT2s : (T.extract 32 T.size).size = T.size - 32 := by rw [ByteArray.size_extract]; omega
          have HT2 : Hid ((T.extract 32 T.size).data.toList = R.data.toList.drop (32 * (j + 1))) := by
            unfold Hid; rw [extract_toS, HT.out, List.drop_drop]; congr 1
          have HOL : Hid ((shdOf j R.data.toList).length = j) := shdOf_len _ _
          generalize shdOf j R.data.toList = xs at *
          obtain ⟨x, hx⟩ : ∃ x, x = T.extract 0 32 := ⟨_, rfl⟩
          have HXE := Lib.hid hx
          rw [← hx] at HSU
          clear hx HXT HT
          have HOd : Hid (wr.drew.ownsRow w2.heap.size 46 3 (.slice A j cap) xs.length (shCells xs)) := HO.out
          have HVd : Hid (wr.drew.heap[w1.heap.size + 1]? = some (.cells #[.int .i64 k, .int .i64 p, .int .i64 z, .slice A j cap] 24)) := HV.out
          have HQd : Hid (wr.drew.heap[w.heap.size]? = some (.cells #[.int .i64 0, .int .i64 0, .int .i64 0, .slice none 0 0] 24)) := HQ.out
          have HBd : Hid (Below w.heap.size w wr.drew) := HB.out.drew
          have hszd : w2.heap.size ≤ wr.drew.heap.size := hsz
          clear HO HV HQ HB hsz
          go_wp2_with fail
          refine wp_region_noPanic ?_
          refine wp_region_held_drew (S := fun _ => True) (by kernel_rfl) trivial (fun hHeld => ?_)
          generalize wr.drew = wd at *
          refine wpAnyH_take (i := 0) (v := .pointer (some ⟨w1.heap.size + 1, 3, none⟩)) rfl (by kernel_rfl) (by kernel_rfl) (by kernel_rfl) (fun _ _ _ h => h) (Or.inl ⟨by kernel_rfl, ?_⟩) (by assumption) ?_
          · intro wz hSw
            go_simp
          try simp only [Act.put, List.getElem_toArray, List.getElem_cons_succ, List.getElem_cons_zero, List.setIfInBounds_toArray, List.set_cons_zero, List.set_cons_succ]
          refine wpAnyH_take (i := 2) (v := .int .i64 (j : Int)) rfl (by kernel_rfl) (by kernel_rfl) (by kernel_rfl) (fun _ _ _ h => h) (Or.inl ⟨by kernel_rfl, ?_⟩) (by assumption) ?_
          · intro wz hSw
            go_simp
          try simp only [Act.put, List.getElem_toArray, List.getElem_cons_succ, List.getElem_cons_zero, List.setIfInBounds_toArray, List.set_cons_zero, List.set_cons_succ]
          refine wpAnyH_take (i := 3) (v := .string T) rfl (by kernel_rfl) (by kernel_rfl) (by kernel_rfl) (fun _ _ _ h => h) (Or.inl ⟨by kernel_rfl, ?_⟩) (by assumption) ?_
          · intro wz hSw
            go_simp
          try simp only [Act.put, List.getElem_toArray, List.getElem_cons_succ, List.getElem_cons_zero, List.setIfInBounds_toArray, List.set_cons_zero, List.set_cons_succ]
          refine wpAnyH_take (i := 4) (v := .string x) rfl (by kernel_rfl) (by kernel_rfl) (by kernel_rfl) (fun _ _ _ h => h) (Or.inl ⟨by kernel_rfl, ?_⟩) (by assumption) ?_
          · intro wz hSw
            have hh := HXE.out
            go_simp
          try simp only [Act.put, List.getElem_toArray, List.getElem_cons_succ, List.getElem_cons_zero, List.setIfInBounds_toArray, List.set_cons_zero, List.set_cons_succ]
          refine wpAnyH_take (i := 5) (v := .agg #[.int .i64 (j : Int), .string ⟨#[]⟩, .string x]) rfl (by kernel_rfl) (by kernel_rfl) (by kernel_rfl) (fun _ _ _ h => h) (Or.inl ⟨by kernel_rfl, ?_⟩) (by assumption) ?_
          · intro wz hSw
            go_simp
          try simp only [Act.put, List.getElem_toArray, List.getElem_cons_succ, List.getElem_cons_zero, List.setIfInBounds_toArray, List.set_cons_zero, List.set_cons_succ]
          have HVa : Hid ((wd.alloc (.cells #[.int .i64 (j : Int), .string ⟨#[]⟩, .string x] 46)).heap[w1.heap.size + 1]? = some (.cells #[.int .i64 k, .int .i64 p, .int .i64 z, .slice A j cap] 24)) := (Below.heap_alloc _ _ _ (by omega)).trans HVd.out
          have HQa : Hid ((wd.alloc (.cells #[.int .i64 (j : Int), .string ⟨#[]⟩, .string x] 46)).heap[w.heap.size]? = some (.cells #[.int .i64 0, .int .i64 0, .int .i64 0, .slice none 0 0] 24)) := (Below.heap_alloc _ _ _ (by omega)).trans HQd.out
          have HOa : Hid ((wd.alloc (.cells #[.int .i64 (j : Int), .string ⟨#[]⟩, .string x] 46)).ownsRow w2.heap.size 46 3 (.slice A j cap) xs.length (shCells xs)) := HOd.out.alloc _
          have HNa : Hid ((wd.alloc (.cells #[.int .i64 (j : Int), .string ⟨#[]⟩, .string x] 46)).heap[wd.heap.size]? = some (.cells #[.int .i64 (j : Int), .string ⟨#[]⟩, .string x] 46 (0, 0))) := World.alloc_heap_new _ _
          have HBa : Hid (Below w.heap.size w (wd.alloc (.cells #[.int .i64 (j : Int), .string ⟨#[]⟩, .string x] 46))) := HBd.out.alloc HBd.out.size _
          have hsza : w2.heap.size ≤ (wd.alloc (.cells #[.int .i64 (j : Int), .string ⟨#[]⟩, .string x] 46)).heap.size := by rw [World.size_alloc]; omega
          have d3 := (cells4b HVd.out).2.2.2.1
          have e3 := (cells4b HVa.out).2.2.2.1
          refine wpAnyH_ready (rs := [1, 6]) (by kernel_rfl) (by simp) ?_
          refine AllReadyH.cons rfl (fun K hK => ?_) (AllReadyH.cons rfl (fun K hK => ?_) AllReadyH.nil)
          · go_simp
            refine hK.out _ _ trivial (fun hHeld => ?_)
            clear hK K
            try simp only [Act.put, List.getElem_toArray, List.getElem_cons_succ, List.getElem_cons_zero, List.setIfInBounds_toArray, List.set_cons_zero, List.set_cons_succ]
            refine wpAnyH_ready (rs := [6]) (by kernel_rfl) (by simp) ?_
            refine AllReadyH.cons rfl (fun K hK => ?_) AllReadyH.nil
            go_simp
            go_wp2_with fail
            refine hK.out _ _ trivial (fun hHeld => ?_)
            clear hK K
            try simp only [Act.put, List.getElem_toArray, List.getElem_cons_succ, List.getElem_cons_zero, List.setIfInBounds_toArray, List.set_cons_zero, List.set_cons_succ]
            clear d3 e3
            generalize wd.alloc (.cells #[.int .i64 (j : Int), .string ⟨#[]⟩, .string x] 46) = we at *
            refine wpAnyH_ready (rs := [7]) (by kernel_rfl) (by simp) ?_
            refine AllReadyH.cons rfl (fun K hK => ?_) AllReadyH.nil
            simp only [Region.wanted, if_true]
            refine wp_push_shd (.tmp 45) (.tmp 50) 22 rfl Tryz.underlying22 w2.heap.size (.slice A j cap) xs (by go_simp) HOa.out wd.heap.size 1 ((j : Int), (⟨#[]⟩ : ByteArray), x) (by go_simp) HNa.out (by have := HOL.out; omega) hsza (fun v' w4 o4 g4 => ?_)
            have HB4 : Hid (Below w.heap.size w w4) := HBa.out.grown g4 HBa.out.size (fun q hq => by have := (HOa.out.lt q hq).1; omega)
            have hne : ∀ b, b < w2.heap.size → some b ≠ (Value.slice A j cap).ownBlock := fun b hb e => by have := (HOa.out.lt b e.symm).1; omega
            have HV4 : Hid (w4.heap[w1.heap.size + 1]? = some (.cells #[.int .i64 k, .int .i64 p, .int .i64 z, .slice A j cap] 24)) := (g4.block _ (by omega) (hne _ hlt2)).trans HVa.out
            have HQ4 : Hid (w4.heap[w.heap.size]? = some (.cells #[.int .i64 0, .int .i64 0, .int .i64 0, .slice none 0 0] 24)) := (g4.block _ (by omega) (hne _ (by omega))).trans HQa.out
            obtain ⟨g5, cap5, rfl⟩ : ∃ g5 cap5, v' = .slice (some ⟨g5, 0, none⟩) (j + 1) cap5 := by
              have hl := HOL.out
              rcases o4.2 with ⟨_, h0⟩ | ⟨gg, cc, _, e, _⟩
              · simp at h0
              · exact ⟨gg, cc, by rw [e]; congr 1; simp; omega⟩
            have HO4 : Hid (w4.ownsRow w2.heap.size 46 3 (.slice (some ⟨g5, 0, none⟩) (j + 1) cap5) (shdOf (j + 1) R.data.toList).length (shCells (shdOf (j + 1) R.data.toList))) := by unfold Hid; rw [HSU.out]; exact o4
            have hs4 : w2.heap.size ≤ w4.heap.size := Nat.le_trans hsza g4.size
            obtain ⟨c0, c1, c2, c3, cf⟩ := cells4b HV4.out
            have f3 := cf 3
            refine hK.out _ _ trivial (fun hHeld => ?_)
            clear hK K o4 g4 hne cf c0 c1 c2
            try simp only [Act.put, List.getElem_toArray, List.getElem_cons_succ, List.getElem_cons_zero, List.setIfInBounds_toArray, List.set_cons_zero, List.set_cons_succ]
            refine wpAnyH_take (i := 8) (v := .pointer (some ⟨w1.heap.size + 1, 3, none⟩)) rfl (by kernel_rfl) (by kernel_rfl) (by kernel_rfl) (fun _ _ _ h => h) (Or.inl ⟨by kernel_rfl, ?_⟩) (by assumption) ?_
            · intro wz hSw
              go_simp
            try simp only [Act.put, List.getElem_toArray, List.getElem_cons_succ, List.getElem_cons_zero, List.setIfInBounds_toArray, List.set_cons_zero, List.set_cons_succ]
            refine wpAnyH_ready (rs := [9]) (by kernel_rfl) (by simp) ?_
            refine AllReadyH.cons rfl (fun K hK => ?_) AllReadyH.nil
            have HV5 := Lib.hid (set4b (v := .slice (some ⟨g5, 0, none⟩) (j + 1) cap5) HV4.out)
            have HQ5 : Hid ((w4.setCell ⟨w1.heap.size + 1, 3, none⟩ (.slice (some ⟨g5, 0, none⟩) (j + 1) cap5)).heap[w.heap.size]? = some (.cells #[.int .i64 0, .int .i64 0, .int .i64 0, .slice none 0 0] 24)) := (Below.heap_setCell _ _ _ _ (by dsimp only; omega)).trans HQ4.out
            have HO5 := Lib.hid (ownsRow_setCell_below HO4.out (a := ⟨w1.heap.size + 1, 3, none⟩) hlt2 (.slice (some ⟨g5, 0, none⟩) (j + 1) cap5))
            have HB5 := Lib.hid (HB4.out.setCell (p := ⟨w1.heap.size + 1, 3, none⟩) (by dsimp only; omega) (.slice (some ⟨g5, 0, none⟩) (j + 1) cap5))
            have hs5 : w2.heap.size ≤ (w4.setCell ⟨w1.heap.size + 1, 3, none⟩ (.slice (some ⟨g5, 0, none⟩) (j + 1) cap5)).heap.size := by rw [World.size_setCell]; exact hs4
            go_simp
            refine hK.out _ _ trivial (fun hHeld => ?_)
            clear hK K c3 f3
            generalize w4.setCell ⟨w1.heap.size + 1, 3, none⟩ (.slice (some ⟨g5, 0, none⟩) (j + 1) cap5) = w5 at *
            refine wpAnyH_done (by kernel_rfl) ?_ _
            refine NoPanic.normal ?_
            go_wp2_with fail
            go_roundw
            case rel => exact ⟨j + 1, _, _, T.extract 32 T.size, by omega, by go_num, rfl, HT2, by omega, hs5, HV5, HQ5, HO5, HB5⟩
            case measure => simp [intOf]; omega
          · go_simp
            go_wp2_with fail
            refine hK.out _ _ trivial (fun hHeld => ?_)
            clear hK K
            try simp only [Act.put, List.getElem_toArray, List.getElem_cons_succ, List.getElem_cons_zero, List.setIfInBounds_toArray, List.set_cons_zero, List.set_cons_succ]
            refine wpAnyH_ready (rs := [1]) (by kernel_rfl) (by simp) ?_
            refine AllReadyH.cons rfl (fun K hK => ?_) AllReadyH.nil
            go_simp
            refine hK.out _ _ trivial (fun hHeld => ?_)
            clear hK K
            try simp only [Act.put, List.getElem_toArray, List.getElem_cons_succ, List.getElem_cons_zero, List.setIfInBounds_toArray, List.set_cons_zero, List.set_cons_succ]
            clear d3 e3
            generalize wd.alloc (.cells #[.int .i64 (j : Int), .string ⟨#[]⟩, .string x] 46) = we at *
            refine wpAnyH_ready (rs := [7]) (by kernel_rfl) (by simp) ?_
            refine AllReadyH.cons rfl (fun K hK => ?_) AllReadyH.nil
            simp only [Region.wanted, if_true]
            refine wp_push_shd (.tmp 45) (.tmp 50) 22 rfl Tryz.underlying22 w2.heap.size (.slice A j cap) xs (by go_simp) HOa.out wd.heap.size 1 ((j : Int), (⟨#[]⟩ : ByteArray), x) (by go_simp) HNa.out (by have := HOL.out; omega) hsza (fun v' w4 o4 g4 => ?_)
            have HB4 : Hid (Below w.heap.size w w4) := HBa.out.grown g4 HBa.out.size (fun q hq => by have := (HOa.out.lt q hq).1; omega)
            have hne : ∀ b, b < w2.heap.size → some b ≠ (Value.slice A j cap).ownBlock := fun b hb e => by have := (HOa.out.lt b e.symm).1; omega
            have HV4 : Hid (w4.heap[w1.heap.size + 1]? = some (.cells #[.int .i64 k, .int .i64 p, .int .i64 z, .slice A j cap] 24)) := (g4.block _ (by omega) (hne _ hlt2)).trans HVa.out
            have HQ4 : Hid (w4.heap[w.heap.size]? = some (.cells #[.int .i64 0, .int .i64 0, .int .i64 0, .slice none 0 0] 24)) := (g4.block _ (by omega) (hne _ (by omega))).trans HQa.out
            obtain ⟨g5, cap5, rfl⟩ : ∃ g5 cap5, v' = .slice (some ⟨g5, 0, none⟩) (j + 1) cap5 := by
              have hl := HOL.out
              rcases o4.2 with ⟨_, h0⟩ | ⟨gg, cc, _, e, _⟩
              · simp at h0
              · exact ⟨gg, cc, by rw [e]; congr 1; simp; omega⟩
            have HO4 : Hid (w4.ownsRow w2.heap.size 46 3 (.slice (some ⟨g5, 0, none⟩) (j + 1) cap5) (shdOf (j + 1) R.data.toList).length (shCells (shdOf (j + 1) R.data.toList))) := by unfold Hid; rw [HSU.out]; exact o4
            have hs4 : w2.heap.size ≤ w4.heap.size := Nat.le_trans hsza g4.size
            obtain ⟨c0, c1, c2, c3, cf⟩ := cells4b HV4.out
            have f3 := cf 3
            refine hK.out _ _ trivial (fun hHeld => ?_)
            clear hK K o4 g4 hne cf c0 c1 c2
            try simp only [Act.put, List.getElem_toArray, List.getElem_cons_succ, List.getElem_cons_zero, List.setIfInBounds_toArray, List.set_cons_zero, List.set_cons_succ]
            refine wpAnyH_take (i := 8) (v := .pointer (some ⟨w1.heap.size + 1, 3, none⟩)) rfl (by kernel_rfl) (by kernel_rfl) (by kernel_rfl) (fun _ _ _ h => h) (Or.inl ⟨by kernel_rfl, ?_⟩) (by assumption) ?_
            · intro wz hSw
              go_simp
            try simp only [Act.put, List.getElem_toArray, List.getElem_cons_succ, List.getElem_cons_zero, List.setIfInBounds_toArray, List.set_cons_zero, List.set_cons_succ]
            refine wpAnyH_ready (rs := [9]) (by kernel_rfl) (by simp) ?_
            refine AllReadyH.cons rfl (fun K hK => ?_) AllReadyH.nil
            have HV5 := Lib.hid (set4b (v := .slice (some ⟨g5, 0, none⟩) (j + 1) cap5) HV4.out)
            have HQ5 : Hid ((w4.setCell ⟨w1.heap.size + 1, 3, none⟩ (.slice (some ⟨g5, 0, none⟩) (j + 1) cap5)).heap[w.heap.size]? = some (.cells #[.int .i64 0, .int .i64 0, .int .i64 0, .slice none 0 0] 24)) := (Below.heap_setCell _ _ _ _ (by dsimp only; omega)).trans HQ4.out
            have HO5 := Lib.hid (ownsRow_setCell_below HO4.out (a := ⟨w1.heap.size + 1, 3, none⟩) hlt2 (.slice (some ⟨g5, 0, none⟩) (j + 1) cap5))
            have HB5 := Lib.hid (HB4.out.setCell (p := ⟨w1.heap.size + 1, 3, none⟩) (by dsimp only; omega) (.slice (some ⟨g5, 0, none⟩) (j + 1) cap5))
            have hs5 : w2.heap.size ≤ (w4.setCell ⟨w1.heap.size + 1, 3, none⟩ (.slice (some ⟨g5, 0, none⟩) (j + 1) cap5)).heap.size := by rw [World.size_setCell]; exact hs4
            go_simp
            refine hK.out _ _ trivial (fun hHeld => ?_)
            clear hK K c3 f3
            generalize w4.setCell ⟨w1.heap.size + 1, 3, none⟩ (.slice (some ⟨g5, 0, none⟩) (j + 1) cap5) = w5 at *
            refine wpAnyH_done (by kernel_rfl) ?_ _
            refine NoPanic.normal ?_
            go_wp2_with fail
            go_roundw
            case rel => exact ⟨j + 1, _, _, T.extract 32 T.size, by omega, by go_num, rfl, HT2, by omega, hs5, HV5, HQ5, HO5, HB5⟩
            case measure => simp [intOf]; omega
        · obtain rfl : j = n := by omega
          have HFT := Lib.hid (fun W (h : ShdB W (.slice A j cap) (shdOf j R.data.toList)) => pfit_any W (k : Int) (p : Int) (z : Int) _ (shdOf j R.data.toList) h (by rw [shdOf_len]; omega) (fun x hx => by
            obtain ⟨i, hi, rfl⟩ := List.mem_map.1 hx
            show (⟨((R.data.toList.drop (32 * i)).take 32).toArray⟩ : ByteArray).size ≤ 1000000
            rw [bs_sizeT, List.length_take]; omega))
          have HJN : Hid (shdOf (k + p) R.data.toList = shdOf j R.data.toList) := by rw [← HNN.out]; exact rfl
          have HOL : Hid ((shdOf j R.data.toList).length = j) := shdOf_len _ _
          have HRS : Hid (R.size = (k + p) * 32) := by unfold Hid; rw [← HNN.out]; exact hRn
          have HOd : Hid (wr.drew.ownsRow w2.heap.size 46 3 (.slice A j cap) (shdOf j R.data.toList).length (shCells (shdOf j R.data.toList))) := HO.out
          have HVd : Hid (wr.drew.heap[w1.heap.size + 1]? = some (.cells #[.int .i64 k, .int .i64 p, .int .i64 z, .slice A j cap] 24)) := HV.out
          have HQd : Hid (wr.drew.heap[w.heap.size]? = some (.cells #[.int .i64 0, .int .i64 0, .int .i64 0, .slice none 0 0] 24)) := HQ.out
          have HBd : Hid (Below w.heap.size w wr.drew) := HB.out.drew
          have hszd : w2.heap.size ≤ wr.drew.heap.size := hsz
          generalize shdOf j R.data.toList = L at *
          clear HO HV HQ HB hsz HT
          go_wp2_with fail
          obtain ⟨i0, i1, i2, i3, _⟩ := cells4b HVd.out
          refine wp_region_noPanic ?_
          refine wp_region_held_drew (S := fun w' => w'.cell? ⟨w1.heap.size + 1, 0, none⟩ = some (.int .i64 (k : Int)) ∧ w'.cell? ⟨w1.heap.size + 1, 1, none⟩ = some (.int .i64 (p : Int)) ∧ w'.cell? ⟨w1.heap.size + 1, 2, none⟩ = some (.int .i64 (z : Int)) ∧ w'.cell? ⟨w1.heap.size + 1, 3, none⟩ = some (.slice A j cap)) (by kernel_rfl) ⟨i0, i1, i2, i3⟩ (fun hHeld => ?_)
          clear i0 i1 i2 i3
          generalize wr.drew = wd at *
          refine wpAnyH_take (i := 0) (v := .agg #[.int .i64 (k : Int), .int .i64 (p : Int), .int .i64 (z : Int), .slice A j cap]) rfl (by kernel_rfl) (by kernel_rfl) (by kernel_rfl) (fun _ _ _ h => h) (Or.inl ⟨by kernel_rfl, ?_⟩) (by assumption) ?_
          · intro wz hSw
            obtain ⟨h0, h1, h2, h3⟩ := hSw
            go_simp
          try simp only [Act.put, List.getElem_toArray, List.getElem_cons_succ, List.getElem_cons_zero, List.setIfInBounds_toArray, List.set_cons_zero, List.set_cons_succ]
          refine wpAnyH_take (i := 1) (v := .agg #[.int .i64 (k : Int), .int .i64 (p : Int), .int .i64 (z : Int), .slice A j cap]) rfl (by kernel_rfl) (by kernel_rfl) (by kernel_rfl) (fun _ _ _ h => h) (Or.inl ⟨by kernel_rfl, ?_⟩) (by assumption) ?_
          · intro wz hSw
            obtain ⟨h0, h1, h2, h3⟩ := hSw
            go_simp
          try simp only [Act.put, List.getElem_toArray, List.getElem_cons_succ, List.getElem_cons_zero, List.setIfInBounds_toArray, List.set_cons_zero, List.set_cons_succ]
          refine wpAnyH_ready (rs := [2]) (by kernel_rfl) (by simp) ?_
          refine AllReadyH.cons rfl (fun K hK => ?_) AllReadyH.nil
          have HFW := Lib.hid (HFT.out wd (by have h := ShdB.of_owns HOd.out; exact h))
          go_simp
          go_at_call 23
          refine HFW.out.mono ?_
          rintro er x2 ⟨rfl, b1⟩
          have HBx := Lib.hid (HBd.out.trans (b1.mono HBd.out.size))
          have HVx : Hid (x2.heap[w1.heap.size + 1]? = some (.cells #[.int .i64 k, .int .i64 p, .int .i64 z, .slice A j cap] 24)) := (b1.block _ (by omega)).trans HVd.out
          have HQx : Hid (x2.heap[w.heap.size]? = some (.cells #[.int .i64 0, .int .i64 0, .int .i64 0, .slice none 0 0] 24)) := (b1.block _ (by omega)).trans HQd.out
          have HOx : Hid (x2.ownsRow w2.heap.size 46 3 (.slice A j cap) L.length (shCells L)) := HOd.out.kept (grown_of_belowS b1 none) (by
            by_cases e : (Value.slice A j cap).ownBlock = none
            · exact .inl e
            · exact .inr e)
          obtain ⟨i0, i1, i2, i3, _⟩ := cells4b HVx.out
          clear b1 HVd HQd HOd HBd HFW
          go_wp2_with fail
          refine hK.out _ _ ⟨i0, i1, i2, i3⟩ (fun hHeld => ?_)
          clear hK K i0 i1 i2 i3
          try simp only [Act.put, List.getElem_toArray, List.getElem_cons_succ, List.getElem_cons_zero, List.setIfInBounds_toArray, List.set_cons_zero, List.set_cons_succ]
          obtain ⟨c0, c1, c2, c3, cf⟩ := cells4b HQx.out
          have f0 := cf 0
          have f1 := cf 1
          have f2 := cf 2
          have f3 := cf 3
          have hSn : ((((x2.setCell ⟨w.heap.size, 0, none⟩ (.int .i64 (k : Int))).setCell ⟨w.heap.size, 1, none⟩ (.int .i64 (p : Int))).setCell ⟨w.heap.size, 2, none⟩ (.int .i64 (z : Int))).setCell ⟨w.heap.size, 3, none⟩ (.slice A j cap)).heap[w1.heap.size + 1]? = some (.cells #[.int .i64 k, .int .i64 p, .int .i64 z, .slice A j cap] 24) := (set4_keep (by omega) _ _ _ _).trans HVx.out
          obtain ⟨i0, i1, i2, i3, _⟩ := cells4b hSn
          have HBn := Lib.hid (set4_below (Nat.le_refl _) HBx.out (.int .i64 (k : Int)) (.int .i64 (p : Int)) (.int .i64 (z : Int)) (.slice A j cap))
          have HOn := Lib.hid (set4_owns HOx.out (show w.heap.size < w2.heap.size by omega) (.int .i64 (k : Int)) (.int .i64 (p : Int)) (.int .i64 (z : Int)) (.slice A j cap))
          refine wpAnyH_ready (rs := [3]) (by kernel_rfl) (by simp) ?_
          refine AllReadyH.cons rfl (fun K hK => ?_) AllReadyH.nil
          go_simp
          refine hK.out _ _ ⟨i0, i1, i2, i3⟩ (fun hHeld => ?_)
          clear hK K c1 c2 c3 c0 cf f0 f1 f2 f3 hSn i0 i1 i2 i3
          try simp only [Act.put, List.getElem_toArray, List.getElem_cons_succ, List.getElem_cons_zero, List.setIfInBounds_toArray, List.set_cons_zero, List.set_cons_succ]
          refine wpAnyH_take (i := 4) (v := .bool (fitW k p z L)) rfl (by kernel_rfl) (by kernel_rfl) (by kernel_rfl) (fun _ _ _ h => h) (Or.inl ⟨by kernel_rfl, ?_⟩) (by assumption) ?_
          · intro wz hSw
            go_simp
          refine wpAnyH_done (by kernel_rfl) ?_ _
          refine NoPanic.normal ?_
          obtain ⟨d0, d1, d2, d3, _⟩ := cells4b HQx.out
          go_wp2_with fail
          (try simp only [Exit.inBlock, Exit.then])
          refine bodyPost_cellS (V := .agg #[.int .i64 (k : Int), .int .i64 (p : Int), .int .i64 (z : Int), .slice A j cap]) rfl rfl ?_ rfl ?_
          · go_simp
          · refine ⟨?_, HBn.out⟩
            cases hf : fitW k p z L with
            | false =>
              refine ⟨fun _ => ⟨k, p, z, A, j, cap, rfl⟩, fun a b c l h => ?_⟩
              rw [HHS.out, HJN.out, if_neg (fun hh => by rw [hf] at hh; cases hh.2)] at h
              cases h
            | true =>
              refine ⟨fun h => ?_, fun a b c l h => ?_⟩
              · rw [HHS.out, HJN.out, if_pos ⟨HRS.out, hf⟩] at h
                cases h
              · rw [HHS.out, HJN.out, if_pos ⟨HRS.out, hf⟩] at h
                simp only [Option.some.injEq, Prod.mk.injEq] at h
                obtain ⟨rfl, rfl, rfl, rfl⟩ := h
                rw [HOL.out]
                exact ⟨A, cap, rfl, by have := owns_leS HOn.out (show w.heap.size ≤ w2.heap.size by omega); rwa [HOL.out] at this⟩
    · have dm : ((R.size : Int) != ((k : Int) + (p : Int)) * 32) = true := by rw [bne_iff_ne]; omega
      have HHN : Hid (headL s.data.toList = none) := by unfold Hid; rw [HHS.out, if_neg (fun hh => hm hh.1)]
      obtain ⟨c0, c1, c2, c3, cf⟩ := cells4b HQ1.out
      have f0 := cf 0
      have f1 := cf 1
      have f2 := cf 2
      have f3 := cf 3
      have hbs : w.heap.size ≤ w1.heap.size := HB1.out.size
      clear cf hm hw2 hb2 hq2 HB2 HQ2 HV2 HW2
      go_wp2_with fail
      (try simp only [Exit.inBlock, Exit.then])
      refine bodyPost_cellS (V := .agg #[.int .i64 0, .int .i64 0, .int .i64 0, .slice none 0 0]) rfl rfl ?_ rfl ?_
      · go_simp
      · refine ⟨⟨fun _ => ⟨0, 0, 0, none, 0, 0, rfl⟩, fun a b c l h => by rw [HHN.out] at h; cases h⟩, ?_⟩
        first
          | exact ((set4_below (Nat.le_refl _) HB1.out _ _ _ _).alloc (by simp [World.size_setCell]; omega) _).alloc (by simp [World.size_setCell]; omega) _
          | exact set4_below (Nat.le_refl _) ((HB1.out.alloc hbs _).alloc (by rw [World.size_alloc]; omega) _) _ _ _ _
end Go.Proofs.YtfpofcfoeajkiaaGreat
