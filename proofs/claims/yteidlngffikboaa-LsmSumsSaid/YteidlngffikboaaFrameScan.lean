/- frame.Scan: its walk. -/
import Derived.Test.YteidlngffikboaaFrameIter
import Derived.Test.YteidlngffikboaaVarintTake
namespace Go.Proofs.Yteidlngffikboaa
open Go.RowKit Go.Shelf
attribute [local go_sem] Oper.semAt_some
set_option linter.unusedVariables false
def fTexts (l : List (ByteArray × Nat)) : List ByteArray := l.map (·.1)
def fEnd : List (ByteArray × Nat) → Nat
  | [] => 0
  | [x] => x.2
  | _ :: y :: l => fEnd (y :: l)
theorem fEnd_snoc (x : ByteArray × Nat) : ∀ l, fEnd (l ++ [x]) = x.2
  | [] => rfl
  | [y] => rfl
  | y :: z :: l => by
    show fEnd (z :: (l ++ [x])) = x.2
    exact fEnd_snoc x (z :: l)
/-- Boxed.appended, where the row's own blocks lie further on than what is kept -/
theorem boxed_appended {W w1 : World} {n₀ n₁ B : Nat} {t e : TypeId} {size : Nat} {v v' : Value} {k m : Nat} {xs ys : List Value} {tmp : Obj}
    (hv : Boxed W B t v) (hte : t ≠ e) (hrow : W.ownsRow n₁ e size v k xs) (hn : n₀ ≤ n₁) (hn₁ : n₁ ≤ W.heap.size) (hB : n₀ ≤ B)
    (hown' : w1.ownsRow n₁ e size v' m ys) (hgrow : (W.alloc tmp).grownBy w1 v.ownBlock) :
    Boxed w1 B t v ∧ Boxed (w1.setCell ⟨B, 0, none⟩ v') B t v' ∧ (w1.setCell ⟨B, 0, none⟩ v').ownsRow n₁ e size v' m ys ∧ KeepsOthers W (w1.setCell ⟨B, 0, none⟩ v') ∧ Below n₀ W (w1.setCell ⟨B, 0, none⟩ v') := by
  have hv1 : Boxed w1 B t v := (hv.alloc tmp).kept hgrow (hv.not_row hte hrow)
  refine ⟨hv1, hv1.set v', hown'.kept (grownBy_setCell' w1 B v') (.inr (hv1.not_row hte hown').symm), ?_, ?_⟩
  · refine ((KeepsOthers.alloc W tmp).trans (KeepsOthers.of_grownBy hgrow fun j o ej hj => ?_)).trans (KeepsOthers.setCell _ _ _)
    rcases (hrow.alloc tmp).2 with ⟨rfl, _⟩ | ⟨g, cap, cur, rfl, _, hgb, _⟩
    · simp [Value.ownBlock] at ej
    · obtain rfl : g = j := by simpa [Value.ownBlock] using ej
      rw [hgb] at hj; cases hj; rfl
  · refine (((Below.refl n₀ W).alloc (Nat.le_trans hn hn₁) tmp).grown hgrow (by simp; omega) fun j ej => ?_).setCell (p := ⟨B, 0, none⟩) hB v'
    rcases hrow.2 with ⟨rfl, _⟩ | ⟨g, cap, cur, rfl, hb, _, _⟩
    · simp [Value.ownBlock] at ej
    · obtain rfl : g = j := by simpa [Value.ownBlock] using ej
      omega
theorem kpCell_row {W w1 : World} {n₁ B : Nat} {u v : Value} {e size k : Nat} {xs : List Value} {tmp : Obj} (hrow : W.ownsRow n₁ e size v k xs) (hB : B < n₁) (hgrow : (W.alloc tmp).grownBy w1 v.ownBlock) : KpCell B u W w1 := by
  intro h
  have hlt : B < W.heap.size := by
    refine Decidable.byContradiction fun hh => ?_
    simp [World.cell?, Array.getElem?_eq_none (Nat.le_of_not_lt hh)] at h
  have hne : some B ≠ v.ownBlock := by
    rcases hrow.2 with ⟨rfl, _⟩ | ⟨g, cap, cur, rfl, hb, _, _⟩
    · simp [Value.ownBlock]
    · simp [Value.ownBlock]; omega
  have h2 := hgrow.block B (by simp; omega) hne
  rw [Below.heap_alloc _ _ _ hlt] at h2
  rw [← h]
  exact World.cell?_of_block h2
theorem owns_mono {w : World} {B B' t k n : Nat} {v : Value} {l : List Value} (h : w.ownsRow B t k v n l) (hB : B' ≤ B) : w.ownsRow B' t k v n l := by
  refine ⟨h.1, ?_⟩
  rcases h.2 with h | ⟨g, cap, cur, hv, hb, hr⟩
  · exact .inl h
  · exact .inr ⟨g, cap, cur, hv, Nat.le_trans hB hb, hr⟩
def ScanI (w : World) (pre : List (ByteArray × Nat)) (W : World) : Prop :=
  (∃ v, Boxed W w.heap.size 54 v ∧ W.ownsRow (w.heap.size + 3) 9 1 v pre.length ((fTexts pre).map .string) ∧ True) ∧ Boxed W (w.heap.size + 1) 3 (.int .i64 (fEnd pre)) ∧ w.heap.size + 3 ≤ W.heap.size
theorem scanI_own (w : World) : Own (ScanI w) := by
  intro pre W W' row hs hg hr
  obtain ⟨h1, h2⟩ := hs
  exact ⟨holdsRow_own (w.heap.size + 3) w.heap.size 54 9 1 (fun pre : List (ByteArray × Nat) => pre.length) (fun pre => (fTexts pre).map .string) (fun _ _ => True) pre W W' row h1 hg hr, boxed_keep h2.1 hg hr, Nat.le_trans h2.2 hg.size⟩
structure ScanE (w : World) (D : Nat) (v : Value) (l : List (ByteArray × Nat)) (V : World) : Prop where
  c0 : Boxed V w.heap.size 54 v
  c1 : Boxed V (w.heap.size + 1) 3 (.int .i64 (fEnd l))
  own : V.ownsRow (w.heap.size + 3) 9 1 v l.length ((fTexts l).map .string)
  k : V.heap[D]? = some (.deferred (some []))
  b : Below w.heap.size w V
theorem ScanE.drew {w V : World} {D : Nat} {v : Value} {l : List (ByteArray × Nat)} (h : ScanE w D v l V) : ScanE w D v l V.drew := ⟨h.c0, h.c1, h.own, h.k, h.b.drew⟩
theorem ScanE.set0 {w V : World} {D : Nat} {v : Value} {l : List (ByteArray × Nat)} (h : ScanE w D v l V) : ScanE w D v l (V.setCell ⟨w.heap.size, 0, none⟩ v) :=
  ⟨h.c0.set _, h.c1.other (by omega) _, h.own.kept (grownBy_setCell' _ _ _) (.inr (h.c0.not_row (by decide) h.own).symm), (KeepsOthers.setCell V ⟨w.heap.size, 0, none⟩ v).same D _ h.k rfl, h.b.setCell (by simp) _⟩
theorem ScanE.set1 {w V : World} {D : Nat} {v : Value} {l : List (ByteArray × Nat)} (h : ScanE w D v l V) : ScanE w D v l (V.setCell ⟨w.heap.size + 1, 0, none⟩ (.int .i64 (fEnd l))) :=
  ⟨h.c0.other (by omega) _, h.c1.set _, h.own.kept (grownBy_setCell' _ _ _) (.inr (h.c1.not_row (by decide) h.own).symm), (KeepsOthers.setCell V ⟨w.heap.size + 1, 0, none⟩ (.int .i64 (fEnd l))).same D _ h.k rfl, h.b.setCell (by simp) _⟩
theorem ScanE.shut {w V : World} {D : Nat} {v : Value} {l : List (ByteArray × Nat)} (h : ScanE w D v l V) (hD : w.heap.size ≤ D) :
    Boxed (V.putObj D (.deferred none)) w.heap.size 54 v ∧ Boxed (V.putObj D (.deferred none)) (w.heap.size + 1) 3 (.int .i64 (fEnd l)) ∧ (V.putObj D (.deferred none)).ownsRow (w.heap.size + 3) 9 1 v l.length ((fTexts l).map .string) ∧ Below w.heap.size w (V.putObj D (.deferred none)) :=
  ⟨boxed_keep h.c0 (grownBy_putObj' _ D (.deferred none)) (fun r e => by cases e; exact ⟨_, h.k, rfl⟩), boxed_keep h.c1 (grownBy_putObj' _ D (.deferred none)) (fun r e => by cases e; exact ⟨_, h.k, rfl⟩), ownsRow_putObj h.own _ h.k rfl, h.b.trans (belowK_b (w := w) (Nat.le_refl _) V D _ _ hD h.k rfl rfl)⟩
set_option maxRecDepth 100000 in
set_option maxHeartbeats 4000000 in
theorem scan_in (s : ByteArray) (hs : s.size ≤ 1000000000) (w : World) :
    CallsIn Fence.wide 10 Try.prog 30 #[.string s] w fun e W' => ∃ v, e = .returned (.tuple #[v, .int .i64 (fEnd (fPairs s.data.toList) : Nat)]) ∧ W'.ownsRow w.heap.size 9 1 v (fPairs s.data.toList).length ((fTexts (fPairs s.data.toList)).map .string) ∧ Below w.heap.size w W' := by
  have hro : Fence.wide.round = none := rfl
  obtain ⟨i0, hi, hz0, hz1, hz2⟩ := info_parts strInfo
  refine callsIn_of_wp_marks Try.func30 rfl trivial ?_ hro
  simp only [Try.ntmps30, List.size_toArray, List.length_cons, List.length_nil, Nat.reduceAdd, Nat.reduceSub, Array.replicate_succ, Array.replicate_zero, List.push_toArray, List.append_toArray, List.nil_append, List.cons_append]
  gi_wp2_with fail
  refine ⟨trivial, (callsIn_wide.2 (all_any _ _)).mono ?_⟩
  rintro e w' ⟨rfl, rfl⟩
  gi_wp2_with fail
  obtain ⟨W0, hW0⟩ : ∃ W0, (((w.alloc (Obj.cells #[Value.slice none 0 0] 54)).alloc (Obj.cells #[Value.int IntKind.i64 0] 3)).alloc (Obj.cells #[Value.string s] 9)) = W0 := ⟨_, rfl⟩
  have hC1 : Boxed W0 w.heap.size 54 (.slice none 0 0) := by rw [← hW0]; exact ((boxed_new _ _ _ (by simp)).alloc _).alloc _
  have hC2 : Boxed W0 (w.heap.size + 1) 3 (.int .i64 0) := by rw [← hW0]; exact (boxed_new _ _ _ (by simp)).alloc _
  have hB0 : Below w.heap.size w W0 := by rw [← hW0]; exact (((Below.refl _ w).alloc (Nat.le_refl _) _).alloc (by simp) _).alloc (by simp; omega) _
  have hs0 : W0.cell? ⟨w.heap.size + 1 + 1, 0, none⟩ = some (.string s) := by rw [← hW0]; exact (boxed_new _ _ _ (by simp)).cell
  have hsz : w.heap.size + 3 ≤ W0.heap.size := by rw [← hW0]; simp
  rw [hW0]
  clear hW0
  have h55 : Fence.wide.fn 80 := trivial
  refine wpIn_rangeFunc_ownF hro (by decide) (gf := 80) (lb := #[.pointer (some ⟨w.heap.size + 1 + 1, 0, none⟩)]) rfl h55 (enters_of Try.func80 (by kernel_rfl) rfl)
    (all1_stops (10 - 1) (by decide) (w.heap.size + 1 + 1) s (by omega) W0 hs0 (by omega)) kpCell_t (fun W l o o' _ h hc _ => kpCell_b W l o o' h hc) (Below.refl _ _) (fun _ => rfl)
    (fun pre W => ScanI w pre W ∧ Below w.heap.size w W)
    (fun c pre W => False)
    (OwnFrom.and (Own.from (scanI_own w) _) (ownFrom_below (Nat.le_refl _) (by omega)))
    (fun c => fun s A B row hs hg hr => hs)
    ⟨⟨⟨_, hC1, World.ownsRow_nil _ _ _ _, trivial⟩, hC2, hsz⟩, hB0⟩
    (fun c => { tmps := #[.string s, undef, .pointer (some ⟨w.heap.size, 0, none⟩), .pointer (some ⟨w.heap.size + 1, 0, none⟩), .string c.1, .int .i64 c.2, .string s, .func (.func 80) #[] #[.pointer (some ⟨w.heap.size + 1 + 1, 0, none⟩)], .string c.1, .int .i64 c.2, undef, undef, undef, undef, undef, undef, undef], defers := [] }) ?assign ?body ?done ?stop
  case assign =>
    intro l x W K hK
    dsimp only [fEnc]
    gi_wp2
    exact hK
  case body =>
    rintro l pre x W ⟨⟨⟨v, hv, hown, -⟩, b1, hz⟩, hB⟩ hlen
    have d0 := hv.cell
    have hk : pre.length + 1 ≤ 1000000001 := by omega
    clear hlen
    gi_wp2_with (gi_at_builtin; refine wpListIn_append_own _ rfl _ _ 54 rfl (w.heap.size + 3) 9 i0 (.string ByteArray.empty) 1 16 Try.underlying54 hi hz0 hz1 hz2 rfl (by decide) _ _ _ rfl (hown.alloc _) ⟨W.heap.size, 0, none⟩ 1 1 [.string x.1] rfl rfl ?c1 ?c2 ?c3 ?c4 ?c5 ?_)
    case c1 =>
      intro j u hj
      match j, hj with
      | 0, hj => simp at hj; subst hj; simp [Addr.add]
    case c2 => intro u hu; simp at hu; subst hu; rfl
    case c3 => unfold maxLen; omega
    case c4 => omega
    case c5 => simp; omega
    intro v' w1 hown' hgrow _
    have hne : (54 : Nat) ≠ 9 := by decide
    have hne2 : (3 : Nat) ≠ 9 := by decide
    obtain ⟨hv1, hv2, hv3, hk1, hbl⟩ := boxed_appended (n₀ := w.heap.size) (tmp := Obj.cells #[Value.string x.1] 9) hv hne hown (by omega) hz (Nat.le_refl _) hown' hgrow
    have b2 : Boxed w1 (w.heap.size + 1) 3 (.int .i64 (fEnd pre)) := (b1.alloc _).kept hgrow (b1.not_row hne2 hown)
    have b3 : Boxed (w1.setCell ⟨w.heap.size, 0, none⟩ v') (w.heap.size + 1) 3 (.int .i64 (fEnd pre)) := b2.other (by omega) _
    have hown4 : ((w1.setCell ⟨w.heap.size, 0, none⟩ v').setCell ⟨w.heap.size + 1, 0, none⟩ (.int .i64 x.2)).ownsRow (w.heap.size + 3) 9 1 v' (pre.length + 1) ((fTexts pre).map .string ++ [.string x.1]) := hv3.kept (grownBy_setCell' _ _ _) (.inr (b3.not_row hne2 hv3).symm)
    have hK : KpCell (w.heap.size + 1 + 1) (.string s) W ((w1.setCell ⟨w.heap.size, 0, none⟩ v').setCell ⟨w.heap.size + 1, 0, none⟩ (.int .i64 x.2)) := kpCell_t (kpCell_t (kpCell_row hown (by omega) hgrow) (kpCell_set _ _ _ (by omega))) (kpCell_set _ _ _ (by omega))
    obtain ⟨g, cap, rfl⟩ := ownsRow_succ hown'
    have e0 := hv1.cell; have f0 := hv1.frozen
    have e1 := b3.cell; have f1 := b3.frozen
    have hI : ScanI w (pre ++ [x]) ((w1.setCell ⟨w.heap.size, 0, none⟩ (.slice (some ⟨g, 0, none⟩) (pre.length + 1) cap)).setCell ⟨w.heap.size + 1, 0, none⟩ (.int .i64 x.2)) := by
      refine ⟨⟨_, hv2.other (by omega) _, ?_, trivial⟩, ?_, ?_⟩
      · have : (fTexts (pre ++ [x])).map Value.string = (fTexts pre).map .string ++ [.string x.1] := by simp [fTexts]
        rw [this]; simpa using hown4
      · rw [fEnd_snoc]; exact b3.set _
      · have := hbl.size; have := hgrow.size; simp at this ⊢; omega
    have HI := Lib.hid hI
    have HO := Lib.hid hown4
    have HB := Lib.hid ((hB.trans hbl).setCell (p := ⟨w.heap.size + 1, 0, none⟩) (by simp) (.int .i64 x.2))
    have HK := Lib.hid (hk1.trans (KeepsOthers.setCell _ ⟨w.heap.size + 1, 0, none⟩ (.int .i64 x.2)))
    have HKp := Lib.hid hK
    clear d0 hI hown4 hbl hk1 hK b3 b2 hv3 hv2 hown' hgrow hv1
    gi_wp2
    exact ⟨HK.out, HKp.out, HI.out, HB.out⟩
  case done =>
    rintro D ys W hD rfl ⟨⟨⟨v, hv, hown, -⟩, b1, hz⟩, hB⟩ hK
    obtain ⟨A, n, c, rfl⟩ : ∃ A n c, v = .slice A n c := by
      rcases hown.2 with ⟨rfl, _⟩ | ⟨g, cap, _, rfl, _⟩
      · exact ⟨_, _, _, rfl⟩
      · exact ⟨_, _, _, rfl⟩
    have d0 := hv.cell; have f0 := hv.frozen
    have d1 := b1.cell; have f1 := b1.frozen
    have hmix : Try.prog.follows Departure.mixedOrders = true := by kernel_rfl
    have hE : ScanE w D (.slice A n c) (fPairs s.data.toList) W := ⟨hv, b1, hown, hK, hB⟩
    have hE1 := Lib.hid hE.set0.set1.drew
    have hE2 := Lib.hid hE.set1.set0.drew
    clear hE hv hown hK hB b1
    gi_wp2
    gi_region_with_o (fail)
    all_goals
      gi_wp2
    all_goals
      refine ⟨by simp, .inl ⟨_, _, rfl, run_takeDeferred (by first | exact hE1.out.k | exact hE2.out.k), ?_⟩⟩
      first
        | (obtain ⟨c0, c1, c2, c3⟩ := hE1.out.shut (by omega); have e0 := c0.cell; have e1 := c1.cell; refine ⟨.tuple #[.slice A n c, .int .i64 (fEnd (fPairs s.data.toList) : Nat)], ?_, ⟨_, rfl, owns_mono c2 (by omega), c3⟩⟩; simp [results, Try.f30, go_sem, e0, e1]; done)
        | (obtain ⟨c0, c1, c2, c3⟩ := hE2.out.shut (by omega); have e0 := c0.cell; have e1 := c1.cell; refine ⟨.tuple #[.slice A n c, .int .i64 (fEnd (fPairs s.data.toList) : Nat)], ?_, ⟨_, rfl, owns_mono c2 (by omega), c3⟩⟩; simp [results, Try.f30, go_sem, e0, e1]; done)
  case stop =>
    rintro D c pre W hD hpre ⟨⟩
theorem scan_any (s : ByteArray) (hs : s.size ≤ 1000000000) (w : World) :
    Calls Try.prog 30 #[.string s] w fun e W' => ∃ v, e = .returned (.tuple #[v, .int .i64 (fEnd (fPairs s.data.toList) : Nat)]) ∧ W'.ownsRow w.heap.size 9 1 v (fPairs s.data.toList).length ((fTexts (fPairs s.data.toList)).map .string) ∧ Below w.heap.size w W' := callsIn_wide.1 (scan_in s hs w)
end Go.Proofs.Yteidlngffikboaa
