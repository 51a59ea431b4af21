/- Walks: chapter 33's maker: number, flush. -/
import Derived.Test.YtlkpgefapcfdbaaDeltaMa
namespace Go.Proofs.Ytlkpgefapcfdbaa
open Go.RowKit Go.Maps
set_option linter.unusedVariables false
set_option linter.unusedSimpArgs false
set_option maxHeartbeats 1000000 in
theorem number_any (n : Nat) (hn : n < 9223372036854775808) (w : World) :
    Calls Try.prog 16 #[.int .i64 n] w fun e w' => e = .returned (.string ⟨(vPut n).toArray⟩) ∧ Below w.heap.size w w' := by
  have HP := Lib.hid (fun w => put_any n (by omega) w)
  generalize (⟨(vPut n).toArray⟩ : ByteArray) = p at *
  go_enter Try.func16, Try.ntmps16
  go_wp2_with fail
  refine (HP.out _).mono ?_
  rintro e w1 ⟨rfl, b1⟩
  go_wp2
  go_ret
  exact ⟨rfl, b1⟩
theorem bldLies45 (x : Value) : liesAt Try.prog Try.prog.depth 45 ((([x] : List Value).length + 2) / Try.prog.cellsOf 45) 0 43 1 = true := by
  show liesAt Try.prog Try.prog.depth 45 (3 / Try.prog.cellsOf 45) 0 43 1 = true
  kernel_rfl
/-- what is put in and not yet written: a row above the builder's -/
def InR (w : World) (mb : Nat) (v inn : Value) (ys : List UInt8) : Prop := (ys = [] → inn = .slice none 0 0) ∧ ∃ B1, (∀ g, v.ownBlock = some g → g < B1) ∧ mb < B1 ∧ B1 ≤ w.heap.size ∧ w.ownsRow B1 5 1 inn ys.length (Lib.byteCells ys)
theorem EB.c2 {T : TypeId} {x : Value} {B : Nat} {w : World} {b : Nat} {p v : Value} {l : List UInt8} (h : EB T [x] B w b p v l) : w.cell? ⟨b, 2, none⟩ = some x := by rw [Lib.cell_of_heap h.blk]; rfl
theorem EB.set2 {T : TypeId} {x : Value} {B : Nat} {w : World} {b : Nat} {p v : Value} {l : List UInt8} (h : EB T [x] B w b p v l) (y : Value) : EB T [y] B (w.setCell ⟨b, 2, none⟩ y) b p v l := by
  have hb := h.blk
  exact ⟨by simp [World.setCell, Array.getElem?_modify, hb], h.own.kept (two_set w b 2 _) (Or.inr h.ne), h.ne, h.self, h.nil⟩
theorem flushB_nil : flushB [] = [] := rfl
theorem flushB_some (ys : List UInt8) (h : ys ≠ []) : flushB ys = vPut (2 * ys.length) ++ ys := by
  unfold flushB flushP
  rw [if_neg h]
  simp [encP]
theorem own_two {w w' : World} {b B n c g : Nat} {ob : Option Nat} {xs : List Value} (h : w.ownsRow B 5 1 (.slice (some ⟨g, 0, none⟩) n c) n xs) (t : Two w w' b ob) (hb : g ≠ b) (ho : ob ≠ some g) : w'.ownsRow B 5 1 (.slice (some ⟨g, 0, none⟩) n c) n xs := by
  refine ⟨h.1, ?_⟩
  rcases h.2 with ⟨hv, _⟩ | ⟨g', cap, cur, hv, h1, h2, h3⟩
  · cases hv
  · cases hv
    exact Or.inr ⟨g, c, cur, rfl, h1, (t.block g (by
      rcases Nat.lt_or_ge g w.heap.size with h' | h'
      · exact h'
      · simp [Array.getElem?_eq_none h'] at h2) hb (fun e => ho e.symm)).trans h2, h3⟩
set_option maxRecDepth 20000 in
set_option maxHeartbeats 2000000 in
theorem flush_any (B mb : Nat) (p v inn : Value) (l ys : List UInt8) (w : World) (h : EB 45 [inn] B w mb p v l) (hB : B ≤ mb) (hi : InR w mb v inn ys) (hl : l.length ≤ 100000000) (hy : ys.length ≤ 1000000) :
    Calls Try.prog 20 #[.pointer (some ⟨mb, 0, none⟩)] w fun e w' => e = .returned (.tuple #[]) ∧ (∃ p' v', EB 45 [.slice none 0 0] B w' mb p' v' (l ++ flushB ys)) ∧ Below B w w' := by
  have c2 := h.c2
  by_cases h0 : ys = []
  · subst h0
    have hin := hi.1 rfl
    subst hin
    have H := Lib.hid h
    clear h hi
    go_enter Try.func20, Try.ntmps20
    go_wp2_with fail
    go_end0
    exact ⟨rfl, ⟨p, v, by rw [flushB_nil, List.append_nil]; exact H.out⟩, Below.refl _ _⟩
  · obtain ⟨_, B1, hv1, hm1, _, hown⟩ := hi
    obtain ⟨g, cap, rfl, hg⟩ : ∃ g cap, inn = .slice (some ⟨g, 0, none⟩) ys.length cap ∧ B1 ≤ g := by
      rcases hown.2 with ⟨_, hz⟩ | ⟨g, cap, cur, hv, hg, _⟩
      · exact absurd (List.eq_nil_of_length_eq_zero hz) h0
      · exact ⟨g, cap, hv, hg⟩
    have hne0 : ys.length ≠ 0 := fun e => h0 (List.eq_nil_of_length_eq_zero e)
    have hpos : (0 : Int) < (ys.length : Int) := by omega
    have HN := Lib.hid (fun w => number_any (2 * ys.length) (by omega) w)
    have hnl : (⟨(vPut (2 * ys.length)).toArray⟩ : ByteArray).size ≤ 10 := vPut_len10 _ (by omega)
    have hnd : (⟨(vPut (2 * ys.length)).toArray⟩ : ByteArray).data.toList = vPut (2 * ys.length) := rfl
    have HF : Hid (flushB ys = (⟨(vPut (2 * ys.length)).toArray⟩ : ByteArray).data.toList ++ ys) := flushB_some ys h0
    generalize (⟨(vPut (2 * ys.length)).toArray⟩ : ByteArray) = nb at *
    have hy' : (ys.length : Int) * 2 ≤ 9223372036854775807 := by omega
    have e2 : ((2 * ys.length : Nat) : Int) = (ys.length : Int) * 2 := by omega
    rw [e2] at HN
    have H := Lib.hid h
    clear h hnd e2
    go_enter Try.func20, Try.ntmps20
    go_wp2_with fail
    refine wp_region_held_drew (S := fun _ => True) (by kernel_rfl) trivial (fun hHeld => ?_)
    refine' wpAnyH_take (i := 0) (v := ?v1) rfl (by kernel_rfl) (by kernel_rfl) (by kernel_rfl) (fun _ _ _ h => h) (Or.inl ⟨by kernel_rfl, ?hy1⟩) (by assumption) ?rest1
    case hy1 => (intro w hSw; (try dsimp only at hSw); go_simp; try with_reducible rfl)
    try simp only [Act.put, List.setIfInBounds_toArray, List.set_cons_zero, List.set_cons_succ]
    refine' wpAnyH_take (i := 1) (v := ?v2) rfl (by kernel_rfl) (by kernel_rfl) (by kernel_rfl) (fun _ _ _ h => h) (Or.inl ⟨by kernel_rfl, ?hy2⟩) (by assumption) ?rest2
    case hy2 => (intro w hSw; (try dsimp only at hSw); go_simp; try with_reducible rfl)
    try simp only [Act.put, List.setIfInBounds_toArray, List.set_cons_zero, List.set_cons_succ]
    refine' wpAnyH_take (i := 2) (v := ?v3) rfl (by kernel_rfl) (by kernel_rfl) (by kernel_rfl) (fun _ _ _ h => h) (Or.inl ⟨by kernel_rfl, ?hy3⟩) (by assumption) ?rest3
    case hy3 => (intro w hSw; (try dsimp only at hSw); go_simp; try with_reducible rfl)
    try simp only [Act.put, List.setIfInBounds_toArray, List.set_cons_zero, List.set_cons_succ]
    refine' wpAnyH_take (i := 3) (v := ?v4) rfl (by kernel_rfl) (by kernel_rfl) (by kernel_rfl) (fun _ _ _ h => h) (Or.inl ⟨by kernel_rfl, ?hy4⟩) (by assumption) ?rest4
    case hy4 => (intro w hSw; (try dsimp only at hSw); go_simp; try with_reducible rfl)
    try simp only [Act.put, List.setIfInBounds_toArray, List.set_cons_zero, List.set_cons_succ]
    refine wpAnyH_take (i := 4) (v := (.int .i64 ((ys.length : Int) * 2))) rfl (by kernel_rfl) (by kernel_rfl) (by kernel_rfl) (fun _ _ _ h => h) (Or.inl ⟨by kernel_rfl, ?_⟩) hHeld ?_
    · intro w hSw
      go_simp
      first | done | ((try rw [Int.tdiv_eq_ediv_of_nonneg (by omega)]); (try rw [Int.tmod_eq_emod_of_nonneg (by omega)]); (try rw [IntKind.wrap_i64]); (try omega))
    try simp only [Act.put, List.setIfInBounds_toArray, List.set_cons_zero, List.set_cons_succ]
    refine wpAnyH_ready (rs := [5]) (by kernel_rfl) (by simp) ?_
    refine AllReadyH.cons rfl (fun K hK => ?_) AllReadyH.nil
    go_simp
    go_at_call 16
    refine (HN.out _).mono ?_
    rintro er w1 ⟨rfl, b1⟩
    have H1 := Lib.hid (H.out.drew.below b1)
    have HB1 := Lib.hid ((Below.refl w.heap.size w).drew.trans b1)
    clear b1 hHeld
    go_wp2_with fail
    refine hK.out _ _ trivial (fun hHeld => ?_)
    clear hK K
    try simp only [Act.put, List.setIfInBounds_toArray, List.set_cons_zero, List.set_cons_succ]
    refine wpAnyH_ready (rs := [6]) (by kernel_rfl) (by simp) ?_
    refine AllReadyH.cons rfl (fun K hK => ?_) AllReadyH.nil
    go_simp
    go_at_call 15
    have hBw1 : B ≤ w1.heap.size := by have := HB1.out.size; have := H.out.lt; omega
    refine (eText _ _ _ (bldLies45 _) (by decide) _ _ _ _ nb _ H1.out (by omega) hBw1).mono ?_
    rintro er w2 ⟨rfl, ⟨v2, he2⟩, two⟩
    have H2 := Lib.hid he2
    have T2 := Lib.hid two
    clear he2 two hHeld
    go_wp2_with fail
    refine hK.out _ _ trivial (fun hHeld => ?_)
    clear hK K
    try simp only [Act.put, List.setIfInBounds_toArray, List.set_cons_zero, List.set_cons_succ]
    refine wpAnyH_done (by kernel_rfl) ?_ _
    have hown2 : w2.ownsRow B1 5 1 (.slice (some ⟨g, 0, none⟩) ys.length cap) ys.length (Lib.byteCells ys) := by
      have hw1 := hown.kept (gr_below HB1.out (some mb)) (Or.inr (by simp [Value.ownBlock]; omega))
      have hg1 : g < w1.heap.size := (hw1.lt g rfl).2
      refine own_two hw1 T2.out (by omega) (fun e => ?_)
      have := hv1 g e
      omega
    have c22 := H2.out.c2
    clear hown c2 hHeld
    go_wp2_with fail
    have c23 : w2.drew.cell? ⟨mb, 2, none⟩ = some (.slice (some ⟨g, 0, none⟩) ys.length cap) := c22
    have hndl : nb.data.toList.length = nb.size := by simp
    have hB2 : B ≤ w2.heap.size := by have := T2.out.size; have := HB1.out.size; have := H.out.lt; omega
    have HW := Lib.hid (eWrite _ _ _ (bldLies45 _) (by decide) _ _ _ _ ⟨g, 0, none⟩ cap ys _ H2.out.drew (fun j u hj => hown2.drew.cells (g := g) rfl j u hj) (by show g ≠ mb; omega) h0 (by rw [List.length_append, hndl]; omega) hB2)
    have HB2 : Hid (Below B w w2.drew) := by
      have q1 := (HB1.out.mono (show B ≤ w.heap.size by have := H.out.lt; omega))
      have q2 := (T2.out.below hB (fun g' hg' => (H.out.own.lt g' hg').1) (by have := HB1.out.size; have := H.out.lt; omega))
      exact (q1.trans q2).drew
    clear hown2 c22
    refine wp_region_still_tail 7 (by kernel_rfl) (by kernel_rfl) ?_
    simp only [List.take_succ_cons, List.take_zero, List.drop_succ_cons, List.drop_zero]
    change wpStill _ _ w2.drew _ _ _
    obtain ⟨w3, hw3⟩ : ∃ w3, w3 = w2.drew := ⟨_, rfl⟩
    rw [← hw3] at c23 HW HB2 ⊢
    have HW3 := Lib.hid hw3
    clear hw3
    iterate 7 still_step
    refine wpStill_nil ?_
    have hw3 := HW3.out
    clear HW3
    subst hw3
    change wpList _ _ _ _ _ w2.drew
    generalize w2.drew = w3 at *
    go_wp2_with fail
    refine HW.out.mono ?_
    rintro er w4 ⟨rfl, ⟨v4, he4⟩, two⟩
    have H4 := Lib.hid he4
    have HB4 : Hid (Below B w w4) := HB2.out.trans (two.below hB (fun g' hg' => (H2.out.own.lt g' hg').1) (by have := HB2.out.size; have := H.out.lt; omega))
    have c4 := he4.c2
    have f4 : w4.frozen? ⟨mb, 2, none⟩ = false := Lib.frozen_of_heap he4.blk 2
    clear he4 two c23
    go_wp2_with fail
    go_end0
    exact ⟨rfl, ⟨_, v4, by rw [HF.out, ← List.append_assoc]; exact H4.out.set2 _⟩, HB4.out.setCell (p := ⟨mb, 2, none⟩) hB _⟩
end Go.Proofs.Ytlkpgefapcfdbaa
