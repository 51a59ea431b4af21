/- lsm.summed: two rows in one, by an iterator; lsm.clippedSum (printed by gen-lsm-sum.py). -/
import Derived.Test.YteidlngffikboaaLsmBoth
import Derived.Test.YteidlngffikboaaFrameScan
import Derived.Lib.MinMax
namespace Go.Proofs.Yteidlngffikboaa
open Go.RowKit Go.Shelf
attribute [local go_sem] Oper.semAt_some
set_option linter.unusedVariables false
set_option linter.unusedSimpArgs false
theorem clipped_any (x : Int) (w : World) (h : -1000000000000 ≤ x ∧ x ≤ 1000000000000) : Calls Try.prog 72 #[.int .i64 x] w fun e w' => e = .returned (.int .i64 (clipV x)) ∧ w = w' := by
  have HE : Hid (clipV x = max (-1000000000) (min x 1000000000)) := by unfold Hid clipV bnd; rfl
  go_enter Try.func72, Try.ntmps72
  go_wp2
  go_ret
  rw [HE.out]
  exact ⟨rfl, rfl⟩
theorem whole_any (x : Int) (w : World) (h : -1000000000000 ≤ x ∧ x ≤ 1000000000000) : Calls Try.prog 47 #[.int .i64 x] w fun e w' => e = .returned (.int .i64 x) ∧ w = w' := by
  go_enter Try.func47, Try.ntmps47
  go_wp2
  go_ret
  exact ⟨rfl, rfl⟩
theorem sum_keep {W w1 : World} {e size k B X : Nat} {v : Value} {xs : List Value} {tmp : Obj} (hrow : W.ownsRow B e size v k xs) (hB : B ≤ W.heap.size) (hg : (W.alloc tmp).grownBy w1 v.ownBlock) (v' : Value) : KpX B X W (w1.setCell ⟨X, 0, none⟩ v') := by
  intro j hj hne
  have hlt : j < W.heap.size := Nat.lt_of_lt_of_le hj hB
  have hnr : some j ≠ v.ownBlock := by
    rcases hrow.2 with ⟨rfl, _⟩ | ⟨g, cap, cur, rfl, hb, _⟩
    · simp [Value.ownBlock]
    · simp [Value.ownBlock]; omega
  rw [Below.heap_setCell _ _ _ _ (by dsimp only; exact hne), hg.block j (by simp; omega) hnr, Below.heap_alloc _ _ _ hlt]
theorem kpX_refl (B X : Nat) (W : World) : KpX B X W W := fun _ _ _ => rfl
theorem bothL_bound {a b : List Cnt} (ha : ∀ x ∈ a, -bnd ≤ x.2 ∧ x.2 ≤ bnd) (hb : ∀ x ∈ b, -bnd ≤ x.2 ∧ x.2 ≤ bnd) : ∀ z ∈ bothL a b, -2000000000 ≤ z.2 ∧ z.2 ≤ 2000000000 := by
  suffices h : ∀ (n : Nat) (a b : List Cnt), a.length + b.length ≤ n → (∀ x ∈ a, -bnd ≤ x.2 ∧ x.2 ≤ bnd) → (∀ x ∈ b, -bnd ≤ x.2 ∧ x.2 ≤ bnd) → ∀ z ∈ bothL a b, -2000000000 ≤ z.2 ∧ z.2 ≤ 2000000000 from h _ a b (Nat.le_refl _) ha hb
  intro n
  induction n with
  | zero =>
    intro a b hl ha hb z hz
    obtain rfl : a = [] := List.length_eq_zero_iff.1 (by omega)
    obtain rfl : b = [] := List.length_eq_zero_iff.1 (by omega)
    rw [bothL_nil] at hz; simp at hz
  | succ n ih =>
    intro a b hl ha hb z hz
    rcases a with _ | ⟨x, a⟩
    · rw [bothL_nil'] at hz
      have := hb z hz; unfold bnd at this; omega
    · rcases b with _ | ⟨y, b⟩
      · rw [bothL_nil] at hz
        have := ha z hz; unfold bnd at this; omega
      · have hx := ha x (by simp)
        have hy := hb y (by simp)
        have ha' : ∀ u ∈ a, -bnd ≤ u.2 ∧ u.2 ≤ bnd := fun u hu => ha u (by simp [hu])
        have hb' : ∀ u ∈ b, -bnd ≤ u.2 ∧ u.2 ≤ bnd := fun u hu => hb u (by simp [hu])
        unfold bnd at hx hy
        simp only [List.length_cons] at hl
        by_cases h1 : bl x.1 y.1 = true
        · rw [bothL_lt _ _ h1] at hz
          rcases List.mem_cons.1 hz with rfl | hz
          · omega
          · exact ih a (y :: b) (by simp only [List.length_cons]; omega) ha' hb z hz
        · by_cases h2 : bl y.1 x.1 = true
          · rw [bothL_gt _ _ h1 h2] at hz
            rcases List.mem_cons.1 hz with rfl | hz
            · omega
            · exact ih (x :: a) b (by simp only [List.length_cons]; omega) ha hb' z hz
          · rw [bothL_eq _ _ h1 h2] at hz
            rcases List.mem_cons.1 hz with rfl | hz
            · dsimp only; omega
            · exact ih a b (by omega) ha' hb' z hz
theorem clipL_snoc (g : Int → Int) (l : List Cnt) (x : Cnt) : clipL g (l ++ [x]) = clipL g l ++ (if g x.2 = 0 then [] else [(x.1, g x.2)]) := by
  unfold clipL
  rw [List.filterMap_append]
  congr 1
  simp only [List.filterMap_cons, List.filterMap_nil]
  split <;> rename_i h <;> split at h <;> simp_all
theorem clipL_len (g : Int → Int) (l : List Cnt) : (clipL g l).length ≤ l.length := List.length_filterMap_le _ _
/-- how a round of summed ends -/
def EndT (B : Nat) (Kp : World → World → Prop) (I : World → Prop) (W : World) : Exit → Act → World → Prop := fun e _ V => e = .normal ∧ KeepsFrom B W V ∧ Kp W V ∧ I V
/-- what the loop of summed holds -/
def SumI (g : Int → Int) (fv : Value) (w : World) (pre : List Cnt) (W : World) : Prop :=
  (∃ v, Boxed W (w.heap.size + 1) 22 v ∧ W.ownsRow (w.heap.size + 4) 51 2 v (clipL g pre).length (cnC (clipL g pre))) ∧ Boxed W w.heap.size 70 fv ∧ w.heap.size + 4 ≤ W.heap.size ∧ Below w.heap.size w W
theorem SumI.put {g : Int → Int} {fv : Value} {w : World} {pre : List Cnt} {A : World} {l : Nat} {o : Obj} (o' : Obj) (h : SumI g fv w pre A) (hl : w.heap.size + 4 ≤ l) (ho : A.heap[l]? = some o) (hc : o.isCells = false) : SumI g fv w pre (A.putObj l o') := by
  obtain ⟨⟨v, h1, h2⟩, h3, h4, h5⟩ := h
  refine ⟨⟨v, (World.putObj_heap_other (by omega)).trans h1, ownsRow_putObj h2 _ ho hc⟩, (World.putObj_heap_other (by omega)).trans h3, by rw [World.putObj_size]; exact h4, h5.trans ?_⟩
  exact ⟨rfl, rfl, rfl, by rw [World.putObj_size]; exact Nat.le_refl _, fun k hk => World.putObj_heap_other (by omega)⟩
theorem SumI.alloc {g : Int → Int} {fv : Value} {w : World} {pre : List Cnt} {A : World} (o : Obj) (h : SumI g fv w pre A) : SumI g fv w pre (A.alloc o) := by
  obtain ⟨⟨v, h1, h2⟩, h3, h4, h5⟩ := h
  exact ⟨⟨v, h1.alloc _, h2.alloc _⟩, h3.alloc _, by simp; omega, h5.alloc h5.size _⟩
theorem SumI.tn {g : Int → Int} {fv : Value} {w : World} {pre : List Cnt} {A B : World} (h : SumI g fv w pre A) (ht : TnB (w.heap.size + 2) (w.heap.size + 3) A B) : SumI g fv w pre B := by
  obtain ⟨⟨v, h1, h2⟩, h3, h4, h5⟩ := h
  have hnr : ∀ j, j < w.heap.size + 4 → v.ownBlock ≠ some j := fun j hj e => by
    rcases h2.2 with ⟨rfl, _⟩ | ⟨gg, cap, cur, rfl, hb, _⟩
    · simp [Value.ownBlock] at e
    · simp [Value.ownBlock] at e; omega
  rcases ht with ⟨m, rfl⟩ | ⟨u, rfl⟩ | ⟨u, rfl⟩
  · exact ⟨⟨v, h1, h2⟩, h3, h4, Below.drewN h5 m⟩
  · exact ⟨⟨v, h1.other (by omega) _, h2.kept (grownBy_setCell' _ _ _) (.inr (hnr _ (by omega)))⟩, h3.other (by omega) _, by rw [World.size_setCell]; exact h4, h5.setCell (p := ⟨w.heap.size + 2, 0, none⟩) (by dsimp only; omega) _⟩
  · exact ⟨⟨v, h1.other (by omega) _, h2.kept (grownBy_setCell' _ _ _) (.inr (hnr _ (by omega)))⟩, h3.other (by omega) _, by rw [World.size_setCell]; exact h4, h5.setCell (p := ⟨w.heap.size + 3, 0, none⟩) (by dsimp only; omega) _⟩
theorem tnB_same {Ba Bb : Nat} {A B : World} (ht : TnB Ba Bb A B) (k : Nat) (o : Obj) (ha : Ba < k) (hb : Bb < k) (h : A.heap[k]? = some o) : B.heap[k]? = some o := by
  rcases ht with ⟨m, rfl⟩ | ⟨u, rfl⟩ | ⟨u, rfl⟩
  · exact h
  · rw [Below.heap_setCell _ _ _ _ (by dsimp only; omega)]; exact h
  · rw [Below.heap_setCell _ _ _ _ (by dsimp only; omega)]; exact h
set_option maxRecDepth 100000 in
set_option maxHeartbeats 4000000 in
theorem summedC_in (w : World) (va vb : Value) (la lb : List Cnt) (ha : CntB w va la) (hb : CntB w vb lb) (hba : ∀ x ∈ la, -bnd ≤ x.2 ∧ x.2 ≤ bnd) (hbb : ∀ x ∈ lb, -bnd ≤ x.2 ∧ x.2 ≤ bnd) (hl : la.length + lb.length ≤ 1000000) :
    CallsIn Fence.wide 10 Try.prog 46 #[va, vb, .func (.func 72) #[] #[]] w fun e w' => ∃ v', e = .returned v' ∧ CntN w' v' (clipL clipV (bothL la lb)) ∧ Below w.heap.size w w' := by
  have hro : Fence.wide.round = none := rfl
  have HS : Hid (∀ W, Boxed W (w.heap.size + 2) 22 va → Boxed W (w.heap.size + 3) 22 vb → Below w.heap.size w W → BothS w (w.heap.size + 2) (w.heap.size + 3) va vb la lb W) := fun W h1 h2 h3 => ⟨h1, h2, ha, hb, h3⟩
  have HBD := Lib.hid (bothL_bound hba hbb)
  have HBL := Lib.hid (bothL_len la lb)
  obtain ⟨A, c, rfl, z0⟩ := ha.shape
  obtain ⟨A', c', rfl, z1⟩ := hb.shape
  clear z0 z1 ha hb
  refine callsIn_of_wp_marks Try.func46 rfl trivial ?_ hro
  simp only [Try.ntmps46, List.size_toArray, List.length_cons, List.length_nil, Nat.reduceAdd, Nat.reduceSub, Array.replicate_succ, Array.replicate_zero, List.push_toArray, List.append_toArray, List.nil_append, List.cons_append]
  gi_wp2_with fail
  refine ⟨trivial, (callsIn_wide.2 (both_any _ _ _ _ _ _ _)).mono ?_⟩
  rintro e w' ⟨rfl, rfl⟩
  gi_wp2_with fail
  obtain ⟨W0, hW0⟩ : ∃ W0, ((((w.alloc (Obj.cells #[.func (.func 72) #[] #[]] 70)).alloc (Obj.cells #[Value.slice none 0 0] 22)).alloc (Obj.cells #[.slice A la.length c] 22)).alloc (Obj.cells #[.slice A' lb.length c'] 22)) = W0 := ⟨_, rfl⟩
  have hC0 : Boxed W0 w.heap.size 70 (.func (.func 72) #[] #[]) := by rw [← hW0]; exact (((boxed_new _ _ _ (by simp)).alloc _).alloc _).alloc _
  have hC1 : Boxed W0 (w.heap.size + 1) 22 (.slice none 0 0) := by rw [← hW0]; exact ((boxed_new _ _ _ (by simp)).alloc _).alloc _
  have hC2 : Boxed W0 (w.heap.size + 2) 22 (.slice A la.length c) := by rw [← hW0]; exact (boxed_new _ _ _ (by simp)).alloc _
  have hC3 : Boxed W0 (w.heap.size + 3) 22 (.slice A' lb.length c') := by rw [← hW0]; exact boxed_new _ _ _ (by simp)
  have hB0 : Below w.heap.size w W0 := by rw [← hW0]; exact ((((Below.refl _ w).alloc (Nat.le_refl _) _).alloc (by simp) _).alloc (by simp; omega) _).alloc (by simp; omega) _
  have hsz : W0.heap.size = w.heap.size + 4 := by rw [← hW0]; simp
  have hBS := HS.out W0 hC2 hC3 hB0
  rw [hW0]
  clear hW0 HS
  have hseq := both1_seq (10 - 1) (by decide) w (w.heap.size + 2) (w.heap.size + 3) (w.heap.size + 1) _ _ la lb W0 hBS (by omega) (by omega) (by omega) (by omega) (by omega) (by omega) hl hba hbb
  refine wpIn_rangeT hro (by decide) (gf := 92) (lb := #[.pointer (some ⟨w.heap.size + 1 + 1, 0, none⟩), .pointer (some ⟨w.heap.size + 1 + 1 + 1, 0, none⟩)]) rfl trivial (enters_of Try.func92 (by kernel_rfl) rfl) hseq
    (fun V W ht k o hk h => tnB_same ht k o (by omega) (by omega) h)
    (fun V W l o' hl h => ⟨fun k hk hne => (h.1 k hk hne).trans (World.putObj_heap_other (by omega)), fun hb => h.2 (hb.trans ⟨rfl, rfl, rfl, by rw [World.putObj_size]; exact Nat.le_refl _, fun k hk => World.putObj_heap_other (by have := hb.size; omega)⟩)⟩)
    (fun V W l o' hl h => ⟨fun k hk hne => (World.putObj_heap_other (by omega)).trans (h.1 k hk hne), fun hb => (h.2 hb).trans ⟨rfl, rfl, rfl, by rw [World.putObj_size]; exact Nat.le_refl _, fun k hk => World.putObj_heap_other (by have := hb.size; omega)⟩⟩)
    (fun _ => rfl) (SumI clipV (.func (.func 72) #[] #[]) w)
    (fun pre V l o o' h hl ho hc => h.put o' (by omega) ho hc) (fun pre V o h => h.alloc o) (fun pre V W h ht => h.tn ht)
    ⟨⟨_, hC1, World.ownsRow_nil _ _ _ _⟩, hC0, by omega, hB0⟩
    (fun x => { tmps := #[.slice A la.length c, .slice A' lb.length c', .func (.func 72) #[] #[], undef, undef, .pointer (some ⟨w.heap.size, 0, none⟩), .slice none 0 0, .pointer (some ⟨w.heap.size + 1, 0, none⟩), .string x.1, .int .i64 x.2, .slice A la.length c, .slice A' lb.length c', .func (.func 92) #[] #[.pointer (some ⟨w.heap.size + 1 + 1, 0, none⟩), .pointer (some ⟨w.heap.size + 1 + 1 + 1, 0, none⟩)], .string x.1, .int .i64 x.2, undef, undef, undef, undef, undef, undef, undef, undef, undef, undef, undef, undef], defers := [] }) ?assign ?body ?done
  case assign =>
    intro l x W K hK
    dsimp only [cEnc]
    gi_wp2
    exact hK
  case body =>
    rintro l pre x W hlW ⟨⟨v, hv, hown⟩, hf, hz, hB⟩ hx
    obtain ⟨i0, hi, hz0, hz1, hz2⟩ := info_parts cntInfo
    have hpl : pre.length < (bothL la lb).length := (List.getElem?_eq_some_iff.1 hx).1
    have hxb := HBD.out x (List.mem_of_getElem? hx)
    have hlp := clipL_len clipV pre
    have HL := Lib.hid (show (clipL clipV pre).length ≤ 1000000 by have := HBL.out; omega)
    have HT := Lib.hid (clipL_snoc clipV pre x)
    have HC := Lib.hid (clipped_any x.2 W (by omega))
    have d0 := hv.cell
    have d1 := hf.cell
    clear hx hxb hpl hlp
    generalize clipV x.2 = z at *
    obtain ⟨k, y⟩ := x
    dsimp only at *
    refine wpIn_mono (?_ : Code.wpIn _ _ _ _ (EndT W0.heap.size (fun V W => KpX W0.heap.size (w.heap.size + 1) V W ∧ (Below w.heap.size w V → Below w.heap.size w W)) (SumI clipV (.func (.func 72) #[] #[]) w (pre ++ [(k, y)])) W) _ _) (fun _ _ _ h => h)
    by_cases h0 : z = 0
    · have hzt : (z != 0) = false := by simp [h0]
      have HZ := Lib.hid h0
      clear h0
      gi_wp2_with fail
      refine ⟨trivial, (callsIn_wide.2 HC.out).mono ?_⟩
      rintro e w' ⟨rfl, rfl⟩
      have HK : Hid (SumI clipV (.func (.func 72) #[] #[]) w (pre ++ [(k, y)]) W) := ⟨⟨v, hv, by rw [HT.out, if_pos HZ.out, List.append_nil]; exact hown⟩, hf, hz, hB⟩
      clear hv hown hf hB
      gi_wp2
      exact ⟨rfl, KeepsFrom.refl _ _, ⟨kpX_refl _ _ _, fun h => h⟩, HK.out⟩
    · have hzt : (z != 0) = true := by simp [h0]
      have HZ := Lib.hid h0
      clear h0
      have hsc : (clipL clipV pre).length + 1 ≤ 1000001 := by have := HL.out; omega
      gi_wp2_with fail
      refine ⟨trivial, (callsIn_wide.2 HC.out).mono ?_⟩
      rintro e w' ⟨rfl, rfl⟩
      gi_wp2_with (gi_at_builtin; refine wpListIn_append_own _ rfl _ _ 22 rfl (w.heap.size + 4) 51 i0 (.agg #[.string ByteArray.empty, .int .i64 0]) 2 24 Try.underlying22 hi hz0 hz1 hz2 rfl (by decide) _ _ _ rfl (hown.alloc _) ⟨W.heap.size, 0, none⟩ 1 1 [.string k, .int .i64 z] rfl rfl ?c1 ?c2 ?c3 ?c4 ?c5 ?_)
      case c1 =>
        intro j u hj
        match j, hj with
        | 0, hj => simp at hj; subst hj; simp [Addr.add]
        | 1, hj => simp at hj; subst hj; simp [Addr.add]
      case c2 => intro u hu; simp at hu; rcases hu with rfl | rfl <;> rfl
      case c3 => unfold maxLen; omega
      case c4 => omega
      case c5 => simp; omega
      intro v' w1 hown' hgrow _
      have hne : (22 : Nat) ≠ 51 := by decide
      have hne2 : (70 : Nat) ≠ 51 := by decide
      obtain ⟨hv1, hv2, hv3, hk1, hbl⟩ := boxed_appended (n₀ := w.heap.size) hv hne hown (by omega) hz (by omega) hown' hgrow
      have b2 : Boxed w1 w.heap.size 70 (.func (.func 72) #[] #[]) := (hf.alloc _).kept hgrow (hf.not_row hne2 hown)
      have hKp := sum_keep (B := w.heap.size + 4) (X := w.heap.size + 1) hown hz hgrow v'
      have e0 := hv1.cell; have f0 := hv1.frozen
      have hrow : (clipL clipV (pre ++ [(k, y)])) = clipL clipV pre ++ [(k, z)] := by rw [HT.out, if_neg HZ.out]
      have hI : SumI clipV (.func (.func 72) #[] #[]) w (pre ++ [(k, y)]) (w1.setCell ⟨w.heap.size + 1, 0, none⟩ v') := by
        refine ⟨⟨v', hv2, ?_⟩, b2.other (by omega) _, ?_, hB.trans hbl⟩
        · rw [hrow]; simpa [cnC, ES2, EStr, EInt] using hv3
        · have := hbl.size; have := hgrow.size; simp at this ⊢; omega
      have HI := Lib.hid hI
      have HKF := Lib.hid (hk1.from W0.heap.size)
      have HKp := Lib.hid hKp
      have HBl := Lib.hid hbl
      obtain ⟨g, cap, rfl⟩ := ownsRow_succ hown'
      clear d0 hI hbl hk1 hKp b2 hv3 hv2 hown' hgrow hv1 hrow hB
      gi_wp2
      exact ⟨rfl, HKF.out, ⟨by rw [hsz]; exact HKp.out, fun h => h.trans HBl.out⟩, HI.out⟩
  case done =>
    rintro D W hD ⟨⟨v, hv, hown⟩, hf, hz, hB⟩ hK
    obtain ⟨A9, n9, c9, rfl⟩ : ∃ A n c, v = .slice A n c := by
      rcases hown.2 with ⟨rfl, _⟩ | ⟨g, cap, _, rfl, _⟩
      · exact ⟨_, _, _, rfl⟩
      · exact ⟨_, _, _, rfl⟩
    have d0 := hv.cell
    have HK := Lib.hid hK
    have HB9 : Hid (Below w.heap.size w (W.putObj D (.deferred none))) := hB.trans ⟨rfl, rfl, rfl, by rw [World.putObj_size]; exact Nat.le_refl _, fun k hk => World.putObj_heap_other (by have := hB.size; omega)⟩
    have HO9 : Hid (CntN (W.putObj D (.deferred none)) (.slice A9 n9 c9) (clipL clipV (bothL la lb))) := CntN.of_owns (ownsRow_putObj hown _ hK rfl)
    clear hv hown hf hB hK
    gi_wp2
    refine ⟨by simp, .inl ⟨_, _, rfl, run_takeDeferred HK.out, ?_⟩⟩
    refine ⟨.slice A9 n9 c9, ?_, ⟨_, rfl, HO9.out, HB9.out⟩⟩
    simp [results, Try.f46, go_sem]
set_option maxRecDepth 100000 in
set_option maxHeartbeats 4000000 in
theorem summedW_in (w : World) (va vb : Value) (la lb : List Cnt) (ha : CntB w va la) (hb : CntB w vb lb) (hba : ∀ x ∈ la, -bnd ≤ x.2 ∧ x.2 ≤ bnd) (hbb : ∀ x ∈ lb, -bnd ≤ x.2 ∧ x.2 ≤ bnd) (hl : la.length + lb.length ≤ 1000000) :
    CallsIn Fence.wide 10 Try.prog 46 #[va, vb, .func (.func 47) #[] #[]] w fun e w' => ∃ v', e = .returned v' ∧ CntN w' v' (clipL id (bothL la lb)) ∧ Below w.heap.size w w' := by
  have hro : Fence.wide.round = none := rfl
  have HS : Hid (∀ W, Boxed W (w.heap.size + 2) 22 va → Boxed W (w.heap.size + 3) 22 vb → Below w.heap.size w W → BothS w (w.heap.size + 2) (w.heap.size + 3) va vb la lb W) := fun W h1 h2 h3 => ⟨h1, h2, ha, hb, h3⟩
  have HBD := Lib.hid (bothL_bound hba hbb)
  have HBL := Lib.hid (bothL_len la lb)
  obtain ⟨A, c, rfl, z0⟩ := ha.shape
  obtain ⟨A', c', rfl, z1⟩ := hb.shape
  clear z0 z1 ha hb
  refine callsIn_of_wp_marks Try.func46 rfl trivial ?_ hro
  simp only [Try.ntmps46, List.size_toArray, List.length_cons, List.length_nil, Nat.reduceAdd, Nat.reduceSub, Array.replicate_succ, Array.replicate_zero, List.push_toArray, List.append_toArray, List.nil_append, List.cons_append]
  gi_wp2_with fail
  refine ⟨trivial, (callsIn_wide.2 (both_any _ _ _ _ _ _ _)).mono ?_⟩
  rintro e w' ⟨rfl, rfl⟩
  gi_wp2_with fail
  obtain ⟨W0, hW0⟩ : ∃ W0, ((((w.alloc (Obj.cells #[.func (.func 47) #[] #[]] 70)).alloc (Obj.cells #[Value.slice none 0 0] 22)).alloc (Obj.cells #[.slice A la.length c] 22)).alloc (Obj.cells #[.slice A' lb.length c'] 22)) = W0 := ⟨_, rfl⟩
  have hC0 : Boxed W0 w.heap.size 70 (.func (.func 47) #[] #[]) := by rw [← hW0]; exact (((boxed_new _ _ _ (by simp)).alloc _).alloc _).alloc _
  have hC1 : Boxed W0 (w.heap.size + 1) 22 (.slice none 0 0) := by rw [← hW0]; exact ((boxed_new _ _ _ (by simp)).alloc _).alloc _
  have hC2 : Boxed W0 (w.heap.size + 2) 22 (.slice A la.length c) := by rw [← hW0]; exact (boxed_new _ _ _ (by simp)).alloc _
  have hC3 : Boxed W0 (w.heap.size + 3) 22 (.slice A' lb.length c') := by rw [← hW0]; exact boxed_new _ _ _ (by simp)
  have hB0 : Below w.heap.size w W0 := by rw [← hW0]; exact ((((Below.refl _ w).alloc (Nat.le_refl _) _).alloc (by simp) _).alloc (by simp; omega) _).alloc (by simp; omega) _
  have hsz : W0.heap.size = w.heap.size + 4 := by rw [← hW0]; simp
  have hBS := HS.out W0 hC2 hC3 hB0
  rw [hW0]
  clear hW0 HS
  have hseq := both1_seq (10 - 1) (by decide) w (w.heap.size + 2) (w.heap.size + 3) (w.heap.size + 1) _ _ la lb W0 hBS (by omega) (by omega) (by omega) (by omega) (by omega) (by omega) hl hba hbb
  refine wpIn_rangeT hro (by decide) (gf := 92) (lb := #[.pointer (some ⟨w.heap.size + 1 + 1, 0, none⟩), .pointer (some ⟨w.heap.size + 1 + 1 + 1, 0, none⟩)]) rfl trivial (enters_of Try.func92 (by kernel_rfl) rfl) hseq
    (fun V W ht k o hk h => tnB_same ht k o (by omega) (by omega) h)
    (fun V W l o' hl h => ⟨fun k hk hne => (h.1 k hk hne).trans (World.putObj_heap_other (by omega)), fun hb => h.2 (hb.trans ⟨rfl, rfl, rfl, by rw [World.putObj_size]; exact Nat.le_refl _, fun k hk => World.putObj_heap_other (by have := hb.size; omega)⟩)⟩)
    (fun V W l o' hl h => ⟨fun k hk hne => (World.putObj_heap_other (by omega)).trans (h.1 k hk hne), fun hb => (h.2 hb).trans ⟨rfl, rfl, rfl, by rw [World.putObj_size]; exact Nat.le_refl _, fun k hk => World.putObj_heap_other (by have := hb.size; omega)⟩⟩)
    (fun _ => rfl) (SumI id (.func (.func 47) #[] #[]) w)
    (fun pre V l o o' h hl ho hc => h.put o' (by omega) ho hc) (fun pre V o h => h.alloc o) (fun pre V W h ht => h.tn ht)
    ⟨⟨_, hC1, World.ownsRow_nil _ _ _ _⟩, hC0, by omega, hB0⟩
    (fun x => { tmps := #[.slice A la.length c, .slice A' lb.length c', .func (.func 47) #[] #[], undef, undef, .pointer (some ⟨w.heap.size, 0, none⟩), .slice none 0 0, .pointer (some ⟨w.heap.size + 1, 0, none⟩), .string x.1, .int .i64 x.2, .slice A la.length c, .slice A' lb.length c', .func (.func 92) #[] #[.pointer (some ⟨w.heap.size + 1 + 1, 0, none⟩), .pointer (some ⟨w.heap.size + 1 + 1 + 1, 0, none⟩)], .string x.1, .int .i64 x.2, undef, undef, undef, undef, undef, undef, undef, undef, undef, undef, undef, undef], defers := [] }) ?assign ?body ?done
  case assign =>
    intro l x W K hK
    dsimp only [cEnc]
    gi_wp2
    exact hK
  case body =>
    rintro l pre x W hlW ⟨⟨v, hv, hown⟩, hf, hz, hB⟩ hx
    obtain ⟨i0, hi, hz0, hz1, hz2⟩ := info_parts cntInfo
    have hpl : pre.length < (bothL la lb).length := (List.getElem?_eq_some_iff.1 hx).1
    have hxb := HBD.out x (List.mem_of_getElem? hx)
    have hlp := clipL_len id pre
    have HL := Lib.hid (show (clipL id pre).length ≤ 1000000 by have := HBL.out; omega)
    have HT := Lib.hid (clipL_snoc id pre x)
    have HC : Hid (Calls Try.prog 47 #[.int .i64 x.2] W fun e w' => e = .returned (.int .i64 (id x.2)) ∧ W = w') := whole_any x.2 W (by omega)
    have d0 := hv.cell
    have d1 := hf.cell
    clear hx hxb hpl hlp
    obtain ⟨z, hzz⟩ : ∃ z, z = id x.2 := ⟨_, rfl⟩
    rw [← hzz] at HT HC
    clear hzz
    obtain ⟨k, y⟩ := x
    dsimp only at *
    refine wpIn_mono (?_ : Code.wpIn _ _ _ _ (EndT W0.heap.size (fun V W => KpX W0.heap.size (w.heap.size + 1) V W ∧ (Below w.heap.size w V → Below w.heap.size w W)) (SumI id (.func (.func 47) #[] #[]) w (pre ++ [(k, y)])) W) _ _) (fun _ _ _ h => h)
    by_cases h0 : z = 0
    · have hzt : (z != 0) = false := by simp [h0]
      have HZ := Lib.hid h0
      clear h0
      gi_wp2_with fail
      refine ⟨trivial, (callsIn_wide.2 HC.out).mono ?_⟩
      rintro e w' ⟨rfl, rfl⟩
      have HK : Hid (SumI id (.func (.func 47) #[] #[]) w (pre ++ [(k, y)]) W) := ⟨⟨v, hv, by rw [HT.out, if_pos HZ.out, List.append_nil]; exact hown⟩, hf, hz, hB⟩
      clear hv hown hf hB
      gi_wp2
      exact ⟨rfl, KeepsFrom.refl _ _, ⟨kpX_refl _ _ _, fun h => h⟩, HK.out⟩
    · have hzt : (z != 0) = true := by simp [h0]
      have HZ := Lib.hid h0
      clear h0
      have hsc : (clipL id pre).length + 1 ≤ 1000001 := by have := HL.out; omega
      gi_wp2_with fail
      refine ⟨trivial, (callsIn_wide.2 HC.out).mono ?_⟩
      rintro e w' ⟨rfl, rfl⟩
      gi_wp2_with (gi_at_builtin; refine wpListIn_append_own _ rfl _ _ 22 rfl (w.heap.size + 4) 51 i0 (.agg #[.string ByteArray.empty, .int .i64 0]) 2 24 Try.underlying22 hi hz0 hz1 hz2 rfl (by decide) _ _ _ rfl (hown.alloc _) ⟨W.heap.size, 0, none⟩ 1 1 [.string k, .int .i64 z] rfl rfl ?c1 ?c2 ?c3 ?c4 ?c5 ?_)
      case c1 =>
        intro j u hj
        match j, hj with
        | 0, hj => simp at hj; subst hj; simp [Addr.add]
        | 1, hj => simp at hj; subst hj; simp [Addr.add]
      case c2 => intro u hu; simp at hu; rcases hu with rfl | rfl <;> rfl
      case c3 => unfold maxLen; omega
      case c4 => omega
      case c5 => simp; omega
      intro v' w1 hown' hgrow _
      have hne : (22 : Nat) ≠ 51 := by decide
      have hne2 : (70 : Nat) ≠ 51 := by decide
      obtain ⟨hv1, hv2, hv3, hk1, hbl⟩ := boxed_appended (n₀ := w.heap.size) hv hne hown (by omega) hz (by omega) hown' hgrow
      have b2 : Boxed w1 w.heap.size 70 (.func (.func 47) #[] #[]) := (hf.alloc _).kept hgrow (hf.not_row hne2 hown)
      have hKp := sum_keep (B := w.heap.size + 4) (X := w.heap.size + 1) hown hz hgrow v'
      have e0 := hv1.cell; have f0 := hv1.frozen
      have hrow : (clipL id (pre ++ [(k, y)])) = clipL id pre ++ [(k, z)] := by rw [HT.out, if_neg HZ.out]
      have hI : SumI id (.func (.func 47) #[] #[]) w (pre ++ [(k, y)]) (w1.setCell ⟨w.heap.size + 1, 0, none⟩ v') := by
        refine ⟨⟨v', hv2, ?_⟩, b2.other (by omega) _, ?_, hB.trans hbl⟩
        · rw [hrow]; simpa [cnC, ES2, EStr, EInt] using hv3
        · have := hbl.size; have := hgrow.size; simp at this ⊢; omega
      have HI := Lib.hid hI
      have HKF := Lib.hid (hk1.from W0.heap.size)
      have HKp := Lib.hid hKp
      have HBl := Lib.hid hbl
      obtain ⟨g, cap, rfl⟩ := ownsRow_succ hown'
      clear d0 hI hbl hk1 hKp b2 hv3 hv2 hown' hgrow hv1 hrow hB
      gi_wp2
      exact ⟨rfl, HKF.out, ⟨by rw [hsz]; exact HKp.out, fun h => h.trans HBl.out⟩, HI.out⟩
  case done =>
    rintro D W hD ⟨⟨v, hv, hown⟩, hf, hz, hB⟩ hK
    obtain ⟨A9, n9, c9, rfl⟩ : ∃ A n c, v = .slice A n c := by
      rcases hown.2 with ⟨rfl, _⟩ | ⟨g, cap, _, rfl, _⟩
      · exact ⟨_, _, _, rfl⟩
      · exact ⟨_, _, _, rfl⟩
    have d0 := hv.cell
    have HK := Lib.hid hK
    have HB9 : Hid (Below w.heap.size w (W.putObj D (.deferred none))) := hB.trans ⟨rfl, rfl, rfl, by rw [World.putObj_size]; exact Nat.le_refl _, fun k hk => World.putObj_heap_other (by have := hB.size; omega)⟩
    have HO9 : Hid (CntN (W.putObj D (.deferred none)) (.slice A9 n9 c9) (clipL id (bothL la lb))) := CntN.of_owns (ownsRow_putObj hown _ hK rfl)
    clear hv hown hf hB hK
    gi_wp2
    refine ⟨by simp, .inl ⟨_, _, rfl, run_takeDeferred HK.out, ?_⟩⟩
    refine ⟨.slice A9 n9 c9, ?_, ⟨_, rfl, HO9.out, HB9.out⟩⟩
    simp [results, Try.f46, go_sem]
theorem mergeN_any (w : World) (va vb : Value) (a b : List Cnt) (ha : CntN w va a) (hb : CntN w vb b) (oa : okR a) (ob : okR b) (hl : a.length + b.length ≤ 1000000) :
    Calls Try.prog 49 #[va, vb] w fun e w' => ∃ v', e = .returned v' ∧ CntN w' v' (mergeL a b) ∧ Below w.heap.size w w' := by
  have HC := Lib.hid (callsIn_wide.1 (summedC_in w va vb a b ha.1 hb.1 (fun x hx => (oa.2 x hx).2.2) (fun x hx => (ob.2 x hx).2.2) hl))
  obtain ⟨A, c, rfl, z0⟩ := ha.1.shape
  obtain ⟨A', c', rfl, z1⟩ := hb.1.shape
  clear z0 z1 ha hb
  go_enter Try.func49, Try.ntmps49
  go_wp2_with fail
  refine HC.out.mono ?_
  rintro e w1 ⟨v1, rfl, hR, hB⟩
  have HR := Lib.hid hR
  have HB := Lib.hid hB
  obtain ⟨A1, c1, rfl, z2⟩ := hR.1.shape
  clear hR hB z2
  go_wp2_with fail
  go_ret
  exact ⟨_, rfl, HR.out, HB.out⟩
theorem sumW_any (w : World) (va vb : Value) (a b : List Cnt) (ha : CntB w va a) (hb : CntB w vb b) (hba : ∀ x ∈ a, -bnd ≤ x.2 ∧ x.2 ≤ bnd) (hbb : ∀ x ∈ b, -bnd ≤ x.2 ∧ x.2 ≤ bnd) (hl : a.length + b.length ≤ 1000000) :
    Calls Try.prog 46 #[va, vb, .func (.func 47) #[] #[]] w fun e w' => ∃ v', e = .returned v' ∧ CntN w' v' (clipL id (bothL a b)) ∧ Below w.heap.size w w' := callsIn_wide.1 (summedW_in w va vb a b ha hb hba hbb hl)
end Go.Proofs.Yteidlngffikboaa
