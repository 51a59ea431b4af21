/- pack.Scan: the walk. -/
import Derived.Test.YtkbpkodakfknoaaPackScan
import Derived.Test.YtkbpkodakfknoaaScopeIn
import Derived.WalkMore
namespace Go.Proofs.Ytkbpkodakfknoaa
open Go.RowKit Go.Shelf
attribute [local go_sem] Oper.semAt_some
set_option linter.unusedVariables false
set_option linter.unusedSimpArgs false
theorem cIn {l n : Nat} {P : Program} {f : Nat} {args : Array Value} {w : World} {R : Ending → World → Prop} (h : Calls P f args w R) : CallsIn (Fence.wide.inRound l) n P f args w R := by
  have h' : CallsIn Fence.wide n P f args w R := callsIn_wide.2 h
  exact h'
theorem keepsB {W W' : World} (hb : Below W.heap.size W W') : KeepsOthers W W' := KeepsOthers.of_grownBy (only_of_belowP hb none) (fun j o e => by cases e)
theorem kpB {W W' : World} {B : Nat} {v : Value} (hlt : B < W.heap.size) (hb : Below W.heap.size W W') : KpCell B v W W' := fun h => (hb.cell (p := ⟨B, 0, none⟩) hlt).trans h
theorem slt_cells {W : World} {B : Nat} {a b c : Value} (h : W.heap[B]? = some (.cells #[a, b, c] 30 (0, 0))) : W.cell? ⟨B, 0, none⟩ = some a ∧ W.cell? ⟨B, 1, none⟩ = some b ∧ W.cell? ⟨B, 2, none⟩ = some c ∧ W.frozen? ⟨B, 0, none⟩ = false := by
  refine ⟨?_, ?_, ?_, ?_⟩
  · unfold World.cell?; simp [h]
  · unfold World.cell?; simp [h]
  · unfold World.cell?; simp [h]
  · unfold World.frozen?; simp [h]
theorem slt_set0 {W : World} {B : Nat} {a b c : Value} (h : W.heap[B]? = some (.cells #[a, b, c] 30 (0, 0))) (u : Value) : (W.setCell ⟨B, 0, none⟩ u).heap[B]? = some (.cells #[u, b, c] 30 (0, 0)) := by
  obtain ⟨hlt, hk⟩ := Array.getElem?_eq_some_iff.1 h
  show (W.heap.modify B _)[B]? = _
  rw [Array.getElem?_eq_getElem (by rw [Array.size_modify]; exact hlt), Array.getElem_modify_self, hk]
  rfl
theorem takeWhile_all (l : List Frm) (h : ∀ f ∈ l, goodT f.2.2 = true) : l.takeWhile (fun f => goodT f.2.2) = l := by
  induction l with
  | nil => rfl
  | cons f l ih =>
    rw [List.takeWhile_cons, if_pos (h f (by simp)), ih (fun g hg => h g (by simp [hg]))]
theorem takeWhile_stop (l : List Frm) {f : Frm} {rest : List Frm} (h : ∀ f ∈ l, goodT f.2.2 = true) (hb : goodT f.2.2 = false) : (l ++ (f :: rest)).takeWhile (fun f => goodT f.2.2) = l := by
  induction l with
  | nil => rw [List.nil_append, List.takeWhile_cons, if_neg (by rw [hb]; decide)]
  | cons g l ih =>
    rw [List.cons_append, List.takeWhile_cons, if_pos (h g (by simp)), ih (fun k hk => h k (by simp [hk]))]
theorem owns_leP {w : World} {B B' t k n : Nat} {v : Value} {l : List Value} (h : w.ownsRow B t k v n l) (hB : B' ≤ B) : w.ownsRow B' t k v n l := by
  refine ⟨h.1, ?_⟩
  rcases h.2 with h | ⟨g, cap, cur, hv, hb, hr⟩
  · exact .inl h
  · exact .inr ⟨g, cap, cur, hv, Nat.le_trans hB hb, hr⟩
structure ScE (w : World) (D : Nat) (v : Value) (st : List Slt × Nat) (V : World) : Prop where
  c0 : Boxed V w.heap.size 26 v
  c1 : Boxed V (w.heap.size + 1) 3 (.int .i64 (st.2 : Nat))
  own : V.ownsRow (w.heap.size + 3) 30 3 v st.1.length (slts st.1)
  k : V.heap[D]? = some (.deferred (some []))
  b : Below w.heap.size w V
theorem ScE.drew {w V : World} {D : Nat} {v : Value} {l : List Slt × Nat} (h : ScE w D v l V) : ScE w D v l V.drew := ⟨h.c0, h.c1, h.own, h.k, h.b.drew⟩
theorem ScE.set0 {w V : World} {D : Nat} {v : Value} {l : List Slt × Nat} (h : ScE w D v l V) : ScE w D v l (V.setCell ⟨w.heap.size, 0, none⟩ v) :=
  ⟨h.c0.set _, h.c1.other (by omega) _, h.own.kept (grownBy_setCell' _ _ _) (.inr (h.c0.not_row (by decide) h.own).symm), (KeepsOthers.setCell V ⟨w.heap.size, 0, none⟩ v).same D _ h.k rfl, h.b.setCell (by simp) _⟩
theorem ScE.set1 {w V : World} {D : Nat} {v : Value} {l : List Slt × Nat} (h : ScE w D v l V) : ScE w D v l (V.setCell ⟨w.heap.size + 1, 0, none⟩ (.int .i64 (l.2 : Nat))) :=
  ⟨h.c0.other (by omega) _, h.c1.set _, h.own.kept (grownBy_setCell' _ _ _) (.inr (h.c1.not_row (by decide) h.own).symm), (KeepsOthers.setCell V ⟨w.heap.size + 1, 0, none⟩ (.int .i64 (l.2 : Nat))).same D _ h.k rfl, h.b.setCell (by simp) _⟩
theorem ScE.shut {w V : World} {D : Nat} {v : Value} {l : List Slt × Nat} (h : ScE w D v l V) (hD : w.heap.size ≤ D) :
    Boxed (V.putObj D (.deferred none)) w.heap.size 26 v ∧ Boxed (V.putObj D (.deferred none)) (w.heap.size + 1) 3 (.int .i64 (l.2 : Nat)) ∧ (V.putObj D (.deferred none)).ownsRow (w.heap.size + 3) 30 3 v l.1.length (slts l.1) ∧ Below w.heap.size w (V.putObj D (.deferred none)) :=
  ⟨boxed_keep h.c0 (grownBy_putObj' _ D (.deferred none)) (fun r e => by cases e; exact ⟨_, h.k, rfl⟩), boxed_keep h.c1 (grownBy_putObj' _ D (.deferred none)) (fun r e => by cases e; exact ⟨_, h.k, rfl⟩), ownsRow_putObj h.own _ h.k rfl, h.b.trans (belowK_b (w := w) (Nat.le_refl _) V D _ _ hD h.k rfl rfl)⟩
set_option maxRecDepth 100000 in
set_option maxHeartbeats 4000000 in
theorem scan_in (s : ByteArray) (hs : s.size ≤ 1000000000) (w : World) :
    CallsIn Fence.wide 10 Try.prog 10 #[.string s] w fun e W' => ∃ v, e = .returned (.tuple #[v, .int .i64 ((scanP s.data.toList).2 : Nat)]) ∧ W'.ownsRow w.heap.size 30 3 v (scanP s.data.toList).1.length (slts (scanP s.data.toList).1) ∧ Below w.heap.size w W' := by
  have hro : Fence.wide.round = none := rfl
  refine callsIn_of_wp_marks Try.func10 rfl trivial ?_ hro
  simp only [Try.ntmps10, List.size_toArray, List.length_cons, List.length_nil, Nat.reduceAdd, Nat.reduceSub, Array.replicate_succ, Array.replicate_zero, List.push_toArray, List.append_toArray, List.nil_append, List.cons_append]
  gi_wp2_with fail
  first
    | refine wpIn_seq (wpIn_label ?_)
    | (refine wpIn_scope ?_; refine wpIn_seq (wpIn_label ?_))
  gi_wp2_with fail
  refine ⟨trivial, (callsIn_wide.2 (frames_any _ _)).mono ?_⟩
  rintro e w' ⟨rfl, rfl⟩
  gi_wp2_with fail
  obtain ⟨W0, hW0⟩ : ∃ W0, (((w.alloc (Obj.cells #[Value.slice none 0 0] 26)).alloc (Obj.cells #[Value.int IntKind.i64 0] 3)).alloc (Obj.cells #[Value.string s] 9)) = W0 := ⟨_, rfl⟩
  have hC1 : Boxed W0 w.heap.size 26 (.slice none 0 0) := by rw [← hW0]; exact ((boxed_new _ _ _ (by simp)).alloc _).alloc _
  have hC2 : Boxed W0 (w.heap.size + 1) 3 (.int .i64 ((0 : Nat) : Int)) := by rw [← hW0]; exact (boxed_new _ _ _ (by simp)).alloc _
  have hC3 : Boxed W0 (w.heap.size + 1 + 1) 9 (.string s) := by rw [← hW0]; exact boxed_new _ _ _ (by simp)
  have hB0 : Below w.heap.size w W0 := by rw [← hW0]; exact (((Below.refl _ w).alloc (Nat.le_refl _) _).alloc (by simp) _).alloc (by simp; omega) _
  have hsz : W0.heap.size = w.heap.size + 3 := by rw [← hW0]; simp
  have hS0 : SS w s (.slice none 0 0) ([], 0) W0 := ⟨hC1, World.ownsRow_nil _ _ _ _, hC2, hC3, by omega, hB0⟩
  rw [hW0]
  clear hW0 hC1 hC2 hB0
  have h55 : Fence.wide.fn 42 := trivial
  have hPo : ∀ {β : Type} {I : β → World → Prop}, OwnFrom (w.heap.size + 3) I → OwnFrom W0.heap.size I := fun h => by rw [hsz]; exact h
  refine wpIn_rangeFunc_ownH hro (by decide) (gf := 42) (lb := #[.pointer (some ⟨w.heap.size + 1 + 1, 0, none⟩)]) rfl h55 (enters_of Try.func42 (by kernel_rfl) rfl)
    (frames1_o (10 - 1) (by decide) (w.heap.size + 1 + 1) s hs W0 hC3.cell hC3.lt) kpCell_t (fun W l o o' _ h hc _ => kpCell_b W l o o' h hc) (Below.refl _ _) (fun _ => rfl)
    (IS w s) (IX w s) (hPo (iS_own w s)) (fun c => hPo (iX_own w s c)) ⟨fun f hf => by (simp [vals] at hf), _, hS0⟩ (AX w s) (fun x a' => hPo (aX_own w s x a')) ?assign ?body ?done ?stop
  case assign =>
    intro l pre x W K hI hK
    dsimp only [fEncO, fEncF]
    gi_wp2
    obtain ⟨hg, v, hS⟩ := hI
    have hb := (Below.refl W.heap.size W).alloc (Nat.le_refl _) (.cells #[.string ⟨#[]⟩, .int .i64 (x.1.1 : Nat), .int .i64 (x.1.2.1 : Nat)] 30)
    refine hK _ _ ((keepsB hb).from _) (kpB hS.str.lt hb) ⟨hg, v, hS.step hb⟩ ⟨W.heap.size, rfl, heap_alloc_new _ _, hS.size, fun v' hv' => ?_⟩
    have hvv : v' = v := by
      have h1 := hS.box.alloc (.cells #[.string ⟨#[]⟩, .int .i64 (x.1.1 : Nat), .int .i64 (x.1.2.1 : Nat)] 30)
      unfold Boxed at h1 hv'
      rw [h1] at hv'
      simpa using hv'.symm
    subst hvv
    intro e
    have := (hS.own.lt _ e).2
    omega
  case body =>
    intro l pre x a' W hl hrec hI hA hlen
    obtain ⟨hg, v, hS⟩ := hI
    obtain ⟨B4, rfl, h4, hB4, hne⟩ := hA
    have hnb := hne v hS.box
    obtain ⟨c0, c1, c2, cf⟩ := slt_cells h4
    have HS := Lib.hid hS
    have HG := Lib.hid hg
    have H4 := Lib.hid h4
    have hx1 := x.2.1
    have hx2 := x.2.2
    have HSP := Lib.hid (fun w => split_any x.1.2.2 (by omega) w)
    obtain ⟨at0, hat⟩ : ∃ at0, at0 = x.1.1 := ⟨_, rfl⟩
    obtain ⟨sz0, hsz0⟩ : ∃ sz0, sz0 = x.1.2.1 := ⟨_, rfl⟩
    obtain ⟨t0, ht0⟩ : ∃ t0, t0 = x.1.2.2 := ⟨_, rfl⟩
    rw [← hat, ← hsz0] at hx1
    rw [← ht0] at hx2 HSP
    rw [← hat, ← hsz0] at H4
    rw [← hat] at c1
    rw [← hsz0] at c2
    rw [← hat, ← hsz0, ← ht0]
    have HAT := Lib.hid hat
    have HSZ := Lib.hid hsz0
    have HT0 := Lib.hid ht0
    clear hne hS hg h4 hrec hat hsz0 ht0
    by_cases hgood : goodT t0 = true
    · have hlong : ¬ t0.size < 32 := by
        intro h
        unfold goodT at hgood
        rw [decide_eq_false (by omega)] at hgood
        cases hgood
      rw [if_neg hlong, if_pos hgood] at HSP
      have HGD := Lib.hid hgood
      clear hgood
      gi_wp2_with fail
      refine ⟨trivial, (cIn (HSP.out _)).mono ?_⟩
      rintro e W1 ⟨rfl, b1⟩
      have HS1 := Lib.hid (HS.out.step b1)
      have H41 := Lib.hid ((b1.block B4 (Array.getElem?_eq_some_iff.1 H4.out).1).trans H4.out)
      have HK1 := Lib.hid (keepsB b1)
      have HP1 := Lib.hid (kpB (v := .string s) HS.out.str.lt b1)
      obtain ⟨k0, k1, k2, kf⟩ := slt_cells H41.out
      have hn4 : ¬ w.heap.size = B4 := by omega
      have hn5 : ¬ B4 = w.heap.size := by omega
      have hn6 : ¬ B4 = w.heap.size + 1 := by omega
      have hn7 : ¬ w.heap.size + 1 = B4 := by omega
      have hS1 := HS1.out
      have hcase : ∃ A n c, v = .slice A n c := by
        rcases hS1.own.2 with ⟨e, _⟩ | ⟨g, cap, cur, e, _⟩
        · exact ⟨_, _, _, e⟩
        · exact ⟨_, _, _, e⟩
      obtain ⟨Av, nv, cv, rfl⟩ := hcase
      have d0 := hS1.box.cell
      have d0f := hS1.box.frozen
      have d1 := hS1.fin.cell
      have d1f := hS1.fin.frozen
      clear b1 HSP HS H4 c0 c1 c2 cf hS1
      gi_wp2_with fail
      obtain ⟨KEY, hKEY⟩ : ∃ KEY, KEY = t0.extract 0 32 := ⟨_, rfl⟩
      obtain ⟨W2, hW2⟩ : ∃ W2, W2 = W1.setCell ⟨B4, 0, none⟩ (.string KEY) := ⟨_, rfl⟩
      rw [← hKEY]
      rw [← hW2]
      have HS2 : Hid (SS w s (.slice Av nv cv) (foldS (vals pre)) W2) := by unfold Hid; rw [hW2]; exact HS1.out.setOther B4 0 _ hB4 hnb
      have H42 : Hid (W2.heap[B4]? = some (.cells #[.string KEY, .int .i64 (at0 : Nat), .int .i64 (sz0 : Nat)] 30 (0, 0))) := by unfold Hid; rw [hW2]; exact slt_set0 H41.out _
      have HK2 : Hid (KeepsOthers W W2) := by unfold Hid; rw [hW2]; exact HK1.out.trans (KeepsOthers.setCell _ _ _)
      have HP2 : Hid (KpCell (w.heap.size + 1 + 1) (.string s) W W2) := by unfold Hid; rw [hW2]; exact kpCell_t HP1.out (kpCell_set _ _ _ (by omega))
      have HKEY := Lib.hid hKEY
      clear hW2 hKEY HS1 H41 HK1 HP1 k0 k1 k2 kf d0 d0f d1 d1f
      have hfl : (foldS (vals pre)).1.length ≤ 1000000000 := by
        have h1 := foldS_len (vals pre)
        have h2 : (vals pre).length = pre.length := by simp [vals]
        omega
      refine ⟨trivial, (cIn (bs_any _ (foldS (vals pre)).1 KEY W2 (SlotsB.of_owns HS2.out.own) (foldS_ris _) hfl)).mono ?_⟩
      rintro e W3 ⟨rfl, b3⟩
      have HS3 := Lib.hid (HS2.out.step b3)
      have H43 := Lib.hid ((b3.block B4 (Array.getElem?_eq_some_iff.1 H42.out).1).trans H42.out)
      have HK3 := Lib.hid (HK2.out.trans (keepsB b3))
      have HP3 := Lib.hid (kpCell_t HP2.out (kpB (v := .string s) HS2.out.str.lt b3))
      have HST : Hid (foldS (vals (pre ++ [x])) = (addS (foldS (vals pre)).1 (KEY, (at0 : Int), (sz0 : Int)), at0 + sz0)) := by
        unfold Hid
        rw [show vals (pre ++ [x]) = vals pre ++ [x.1] by simp [vals], foldS_snoc]
        unfold stepS
        rw [HKEY.out, HAT.out, HSZ.out, HT0.out]
      have HGN : Hid (∀ f ∈ vals (pre ++ [x]), goodT f.2.2 = true) := by
        intro f hf
        rw [show vals (pre ++ [x]) = vals pre ++ [x.1] by simp [vals]] at hf
        rcases List.mem_append.1 hf with h | h
        · exact HG.out f h
        · rw [List.mem_singleton.1 h, ← HT0.out]; exact HGD.out
      obtain ⟨k0, k1, k2, kf⟩ := slt_cells H43.out
      have hS3 := HS3.out
      have d0 := hS3.box.cell
      have d0f := hS3.box.frozen
      have d1 := hS3.fin.cell
      have d1f := hS3.fin.frozen
      clear hS3 b3 HS2 H42 HK2 HP2
      obtain ⟨L0, e0, hL⟩ : ∃ L0 e0, foldS (vals pre) = (L0, e0) := ⟨_, _, rfl⟩
      rw [hL] at HS3 HST hfl d1 ⊢
      dsimp only at HS3 HST hfl d1 ⊢
      clear hL
      have hsb : (at0 : Int) + (sz0 : Int) ≤ 1000000000 := by omega
      have hsb0 : (0 : Int) ≤ (at0 : Int) + (sz0 : Int) := by omega
      cases hh : hasAt L0 KEY with
      | true =>
        have HAD : Hid (addS L0 (KEY, (at0 : Int), (sz0 : Int)) = L0) := by unfold Hid addS; rw [if_pos hh]
        have HSF : Hid (SS w s (.slice Av nv cv) (foldS (vals (pre ++ [x]))) (W3.setCell ⟨w.heap.size + 1, 0, none⟩ (.int .i64 ((at0 : Int) + (sz0 : Int))))) := by
          unfold Hid
          rw [HST.out, HAD.out, ← Int.natCast_add]
          exact HS3.out.setFin (at0 + sz0)
        have HKF : Hid (KeepsOthers W (W3.setCell ⟨w.heap.size + 1, 0, none⟩ (.int .i64 ((at0 : Int) + (sz0 : Int))))) := HK3.out.trans (KeepsOthers.setCell _ _ _)
        have HPF : Hid (KpCell (w.heap.size + 1 + 1) (.string s) W (W3.setCell ⟨w.heap.size + 1, 0, none⟩ (.int .i64 ((at0 : Int) + (sz0 : Int))))) := kpCell_t HP3.out (kpCell_set _ _ _ (by omega))
        clear hh HAD HST HS3 HK3 HP3
        gi_wp2_with fail
        exact ⟨HKF.out.from _, HPF.out, HGN.out, _, HSF.out⟩
      | false =>
        have HAD : Hid (addS L0 (KEY, (at0 : Int), (sz0 : Int)) = L0.take (place L0 KEY) ++ [(KEY, (at0 : Int), (sz0 : Int))] ++ L0.drop (place L0 KEY)) := by unfold Hid addS; rw [if_neg (by rw [hh]; decide)]
        clear hh
        gi_wp2_with fail
        have hnl : L0.length = nv := by
          rcases HS3.out.own.2 with ⟨e, h0⟩ | ⟨g, cap, cur, e, _⟩
          · simp only [Value.slice.injEq] at e
            have h0' : L0.length = 0 := h0
            omega
          · simp only [Value.slice.injEq] at e
            exact e.2.1.symm
        have hi3 := heap_alloc_new W3 (.cells #[.string KEY, .int .i64 (at0 : Int), .int .i64 (sz0 : Int)] 30)
        refine ⟨trivial, (cIn (insert_own (w.heap.size + 3) L0.length (place L0 KEY) W3.heap.size 1 (.slice Av nv cv) (slts L0) [.string KEY, .int .i64 (at0 : Int), .int .i64 (sz0 : Int)] _ (place_le _ _) hfl (HS3.out.own.alloc _) (by rw [World.size_alloc]; have := HS3.out.size; omega) hi3 ?hne rfl slts_one (fun v hv => by simp at hv; rcases hv with rfl | rfl | rfl <;> rfl))).mono ?_⟩
        case hne =>
          intro e
          have := (HS3.out.own.lt _ e).2
          omega
        rintro e W5 ⟨v', rfl, o5, g5⟩
        have o5' : W5.ownsRow (w.heap.size + 3) 30 3 v' (addS L0 (KEY, (at0 : Int), (sz0 : Int))).length (slts (addS L0 (KEY, (at0 : Int), (sz0 : Int)))) := by
          rw [HAD.out, slts_append, slts_append, ← slts_take, ← slts_drop]
          have hl' : (L0.take (place L0 KEY) ++ [(KEY, (at0 : Int), (sz0 : Int))] ++ L0.drop (place L0 KEY)).length = L0.length + 1 := by
            have := place_le L0 KEY
            simp; omega
          rw [hl']
          exact o5
        obtain ⟨hb5, hf5, hs5, hS6, hK6⟩ := HS3.out.ins o5' g5
        obtain ⟨g6, cap6, rfl⟩ := ownsRow_succ o5
        have h45 : W5.heap[B4]? = some (.cells #[.string KEY, .int .i64 (at0 : Nat), .int .i64 (sz0 : Nat)] 30 (0, 0)) := by
          have hlt := (Array.getElem?_eq_some_iff.1 H43.out).1
          exact (g5.block B4 (by rw [World.size_alloc]; omega) (fun e => hnb e.symm)).trans ((heap_alloc_old W3 _ hlt).trans H43.out)
        have HSF : Hid (SS w s (.slice (some ⟨g6, 0, none⟩) (L0.length + 1) cap6) (foldS (vals (pre ++ [x]))) ((W5.setCell ⟨w.heap.size, 0, none⟩ (.slice (some ⟨g6, 0, none⟩) (L0.length + 1) cap6)).setCell ⟨w.heap.size + 1, 0, none⟩ (.int .i64 ((at0 : Int) + (sz0 : Int))))) := by
          unfold Hid
          rw [HST.out, ← Int.natCast_add]
          exact hS6.setFin (at0 + sz0)
        have HKF : Hid (KeepsOthers W ((W5.setCell ⟨w.heap.size, 0, none⟩ (.slice (some ⟨g6, 0, none⟩) (L0.length + 1) cap6)).setCell ⟨w.heap.size + 1, 0, none⟩ (.int .i64 ((at0 : Int) + (sz0 : Int))))) := (HK3.out.trans hK6).trans (KeepsOthers.setCell _ _ _)
        have HPF : Hid (KpCell (w.heap.size + 1 + 1) (.string s) W ((W5.setCell ⟨w.heap.size, 0, none⟩ (.slice (some ⟨g6, 0, none⟩) (L0.length + 1) cap6)).setCell ⟨w.heap.size + 1, 0, none⟩ (.int .i64 ((at0 : Int) + (sz0 : Int))))) := fun _ => kpCell_set _ _ _ (by omega) (kpCell_set _ _ _ (by omega) hs5.cell)
        obtain ⟨k0, k1, k2, kf⟩ := slt_cells h45
        have d0 := hb5.cell
        have d0f := hb5.frozen
        have d1 := hf5.cell
        have d1f := hf5.frozen
        clear hb5 hf5 hs5 hS6 hK6 o5 o5' g5 h45 hi3 HAD HST HS3 HK3 HP3 H43 hnl
        gi_wp2_with fail
        exact ⟨HKF.out.from _, HPF.out, HGN.out, _, HSF.out⟩
    · have hgb : goodT t0 = false := by simpa using hgood
      have HIX : Hid (∀ W1, Below W.heap.size W W1 → KeepsFrom W0.heap.size W W1 ∧ IX w s (.exit 0) (pre ++ [x]) W1) := fun W1 b1 => ⟨(keepsB b1).from _, rfl, pre, x, rfl, by rw [← HT0.out]; exact hgb, HG.out, _, HS.out.step b1⟩
      by_cases hsh : t0.size < 32
      · rw [if_pos hsh] at HSP
        clear hgood hgb
        gi_wp2_with fail
        refine ⟨trivial, (cIn (HSP.out _)).mono ?_⟩
        rintro e W1 ⟨rfl, b1⟩
        have HF := Lib.hid (HIX.out W1 b1)
        clear b1 HSP HS H4 c0 c1 c2 cf HIX
        gi_wp2_with fail
        exact HF.out
      · rw [if_neg hsh, if_neg hgood] at HSP
        clear hgood hgb
        gi_wp2_with fail
        refine ⟨trivial, (cIn (HSP.out _)).mono ?_⟩
        rintro e W1 ⟨rfl, b1⟩
        have HF := Lib.hid (HIX.out W1 b1)
        clear b1 HSP HS H4 c0 c1 c2 cf HIX
        gi_wp2_with fail
        exact HF.out
  case done =>
    intro D xs W hD hxs hI hKD
    obtain ⟨hg, v, hS⟩ := hI
    have hsc : foldS (vals xs) = scanP s.data.toList := by
      unfold scanP goods
      rw [← hxs, takeWhile_all _ hg]
    rw [hsc] at hS
    clear hg hsc hxs hS0
    obtain ⟨A, n, c, rfl⟩ : ∃ A n c, v = .slice A n c := by
      rcases hS.own.2 with ⟨e, _⟩ | ⟨g, cap, cur, e, _⟩
      · exact ⟨_, _, _, e⟩
      · exact ⟨_, _, _, e⟩
    have d0 := hS.box.cell; have f0 := hS.box.frozen
    have d1 := hS.fin.cell; have f1 := hS.fin.frozen
    have hmix : Try.prog.follows Departure.mixedOrders = true := by kernel_rfl
    have hE : ScE w D (.slice A n c) (scanP s.data.toList) W := ⟨hS.box, hS.fin, hS.own, hKD, hS.b⟩
    have hE1 := Lib.hid hE.set0.set1.drew
    have hE2 := Lib.hid hE.set1.set0.drew
    clear hE hS hKD
    gi_wp2
    gi_region_with_o (fail)
    all_goals
      gi_wp2
    all_goals
      refine ⟨by simp, .inl ⟨_, _, rfl, run_takeDeferred (by first | exact hE1.out.k | exact hE2.out.k), ?_⟩⟩
      first
        | (obtain ⟨c0, c1, c2, c3⟩ := hE1.out.shut (by omega); have e0 := c0.cell; have e1 := c1.cell; refine ⟨.tuple #[.slice A n c, .int .i64 ((scanP s.data.toList).2 : Nat)], ?_, ⟨_, rfl, owns_leP c2 (by omega), c3⟩⟩; simp [results, Try.f10, go_sem, e0, e1]; done)
        | (obtain ⟨c0, c1, c2, c3⟩ := hE2.out.shut (by omega); have e0 := c0.cell; have e1 := c1.cell; refine ⟨.tuple #[.slice A n c, .int .i64 ((scanP s.data.toList).2 : Nat)], ?_, ⟨_, rfl, owns_leP c2 (by omega), c3⟩⟩; simp [results, Try.f10, go_sem, e0, e1]; done)
  case stop =>
    intro D c pre W hD hpre hI hKD
    obtain ⟨rfl, pre0, x, rfl, hbad, hg, v, hS⟩ := hI
    obtain ⟨rest, hrest⟩ := hpre
    have hsc : foldS (vals pre0) = scanP s.data.toList := by
      unfold scanP goods
      rw [hrest, show vals (pre0 ++ [x]) ++ rest = vals pre0 ++ (x.1 :: rest) by simp [vals], takeWhile_stop _ hg hbad]
    rw [hsc] at hS
    clear hg hsc hbad hrest hS0
    obtain ⟨A, n, c, rfl⟩ : ∃ A n c, v = .slice A n c := by
      rcases hS.own.2 with ⟨e, _⟩ | ⟨g, cap, cur, e, _⟩
      · exact ⟨_, _, _, e⟩
      · exact ⟨_, _, _, e⟩
    have d0 := hS.box.cell; have f0 := hS.box.frozen
    have d1 := hS.fin.cell; have f1 := hS.fin.frozen
    have hmix : Try.prog.follows Departure.mixedOrders = true := by kernel_rfl
    have hE : ScE w D (.slice A n c) (scanP s.data.toList) W := ⟨hS.box, hS.fin, hS.own, hKD, hS.b⟩
    have hE1 := Lib.hid hE.set0.set1.drew
    have hE2 := Lib.hid hE.set1.set0.drew
    clear hE hS hKD
    gi_wp2
    gi_region_with_o (fail)
    all_goals
      gi_wp2
    all_goals
      refine ⟨by simp, .inl ⟨_, _, rfl, run_takeDeferred (by first | exact hE1.out.k | exact hE2.out.k), ?_⟩⟩
      first
        | (obtain ⟨c0, c1, c2, c3⟩ := hE1.out.shut (by omega); have e0 := c0.cell; have e1 := c1.cell; refine ⟨.tuple #[.slice A n c, .int .i64 ((scanP s.data.toList).2 : Nat)], ?_, ⟨_, rfl, owns_leP c2 (by omega), c3⟩⟩; simp [results, Try.f10, go_sem, e0, e1]; done)
        | (obtain ⟨c0, c1, c2, c3⟩ := hE2.out.shut (by omega); have e0 := c0.cell; have e1 := c1.cell; refine ⟨.tuple #[.slice A n c, .int .i64 ((scanP s.data.toList).2 : Nat)], ?_, ⟨_, rfl, owns_leP c2 (by omega), c3⟩⟩; simp [results, Try.f10, go_sem, e0, e1]; done)
theorem scan_any (s : ByteArray) (hs : s.size ≤ 1000000000) (w : World) :
    Calls Try.prog 10 #[.string s] w fun e W' => ∃ v, e = .returned (.tuple #[v, .int .i64 ((scanP s.data.toList).2 : Nat)]) ∧ W'.ownsRow w.heap.size 30 3 v (scanP s.data.toList).1.length (slts (scanP s.data.toList).1) ∧ Below w.heap.size w W' := callsIn_wide.1 (scan_in s hs w)
end Go.Proofs.Ytkbpkodakfknoaa
