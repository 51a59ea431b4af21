/- Walks: chapter 33's Apply. -/
import Derived.Test.YtlkpgefapcfdbaaDeltaM5
namespace Go.Proofs.Ytlkpgefapcfdbaa
open Go.RowKit
set_option linter.unusedVariables false
set_option linter.unusedSimpArgs false
theorem apP_err (base : List UInt8) (b : Nat) (sum : List UInt8) : ∀ (f : Nat) (rest out : List UInt8), (apP base b sum f rest out).2 ≠ 0 → (apP base b sum f rest out).1 = []
  | 0, _, _, h => rfl
  | f + 1, rest, out, h => by
    unfold apP at h ⊢
    split
    · rename_i h0
      rw [if_pos h0] at h
      split
      · rfl
      · rename_i h1
        rw [if_neg h1] at h
        split
        · rfl
        · rename_i h2
          rw [if_neg h2] at h
          exact absurd rfl h
    · rename_i h0
      rw [if_neg h0] at h
      split
      · rfl
      · rename_i n k more hr
        rw [hr] at h
        dsimp only at h
        split
        · rfl
        · rename_i h1
          rw [if_neg h1] at h
          exact apP_err base b sum f _ _ h
      · rename_i s more hr
        rw [hr] at h
        dsimp only at h
        split
        · rfl
        · rename_i h1
          rw [if_neg h1] at h
          exact apP_err base b sum f _ _ h
theorem apD_err (base d : List UInt8) (h : (apD base d).2 ≠ 0) : (apD base d).1 = [] := by
  unfold apD at h ⊢
  split
  · rfl
  · rename_i a b sum rest hr
    rw [hr] at h
    dsimp only at h
    split
    · rfl
    · rename_i h1
      rw [if_neg h1] at h
      split
      · rfl
      · rename_i h2
        rw [if_neg h2] at h
        exact apP_err _ _ _ _ _ _ h
set_option maxHeartbeats 1000000 in
theorem apply1_ret (N0 N1 N2 N3 : Nat) (base s : ByteArray) (w : World) (h0 : w.cell? ⟨N0, 0, none⟩ = some (.string base)) (h1 : w.heap[N1]? = some (.cells #[.string ⟨#[]⟩] 9 (0, 0))) (h2 : RdAt w N2 s) (h3 : w.cell? ⟨N3, 0, none⟩ = some (.pointer (some ⟨N2, 0, none⟩))) (h12 : N1 ≠ N2)
    (hb : base.size ≤ 1000000) (hs : s.size ≤ 1000000) (he : (apD base.data.toList s.data.toList).2 = 0) :
    Calls Try.prog 28 #[.pointer (some ⟨N3, 0, none⟩), .pointer (some ⟨N0, 0, none⟩), .pointer (some ⟨N1, 0, none⟩)] w fun e w' => e = .returned (.tuple #[]) ∧ ∃ w1, w.grownBy w1 (some N2) ∧ w' = w1.setCell ⟨N1, 0, none⟩ (.string ⟨(apD base.data.toList s.data.toList).1.toArray⟩) := by
  have HA := Lib.hid (rApply_any N2 base s w h2 hb hs)
  have H1 := Lib.hid h1
  clear h2 h1
  unfold outE at HA
  rw [if_pos he] at HA
  clear he
  generalize (⟨(apD base.data.toList s.data.toList).1.toArray⟩ : ByteArray) = o at *
  go_enter Try.func28, Try.ntmps28
  go_wp2_with fail
  refine HA.out.mono ?_
  rintro e w1 ⟨rfl, g1⟩
  have hlt : N1 < w.heap.size := by
    rcases Nat.lt_or_ge N1 w.heap.size with h' | h'
    · exact h'
    · have := H1.out; simp [Array.getElem?_eq_none h'] at this
  have hb1 := (g1.block N1 hlt (by simpa using h12)).trans H1.out
  have c1 : w1.cell? ⟨N1, 0, none⟩ = some (.string ⟨#[]⟩) := by rw [Lib.cell_of_heap hb1]; rfl
  have f1 : w1.frozen? ⟨N1, 0, none⟩ = false := Lib.frozen_of_heap hb1 0
  have G1 := Lib.hid g1
  clear g1 hb1
  go_wp2_with fail
  go_end0
  exact ⟨rfl, w1, G1.out, rfl⟩
set_option maxHeartbeats 1000000 in
theorem apply1_bad (N0 N1 N2 N3 : Nat) (base s : ByteArray) (w : World) (h0 : w.cell? ⟨N0, 0, none⟩ = some (.string base)) (h2 : RdAt w N2 s) (h3 : w.cell? ⟨N3, 0, none⟩ = some (.pointer (some ⟨N2, 0, none⟩)))
    (hb : base.size ≤ 1000000) (hs : s.size ≤ 1000000) (he : (apD base.data.toList s.data.toList).2 ≠ 0) :
    Calls Try.prog 28 #[.pointer (some ⟨N3, 0, none⟩), .pointer (some ⟨N0, 0, none⟩), .pointer (some ⟨N1, 0, none⟩)] w fun e w' => e = thrownE (apD base.data.toList s.data.toList).2 ∧ w.grownBy w' (some N2) := by
  have HA := Lib.hid (rApply_any N2 base s w h2 hb hs)
  clear h2
  unfold outE at HA
  rw [if_neg he] at HA
  clear he
  go_enter Try.func28, Try.ntmps28
  go_wp2_with fail
  refine HA.out.mono ?_
  rintro e w1 ⟨rfl, g1⟩
  unfold thrownE
  go_wp2_with fail
  exact ⟨rfl, rfl, g1⟩
theorem blocks4 (w : World) (o0 o1 o2 o3 o4 : Obj) :
    (((((w.alloc o0).alloc o1).alloc o2).alloc o3).alloc o4).heap[w.heap.size]? = some o0 ∧ (((((w.alloc o0).alloc o1).alloc o2).alloc o3).alloc o4).heap[w.heap.size + 1]? = some o1 ∧
    (((((w.alloc o0).alloc o1).alloc o2).alloc o3).alloc o4).heap[w.heap.size + 1 + 1]? = some o2 ∧ (((((w.alloc o0).alloc o1).alloc o2).alloc o3).alloc o4).heap[w.heap.size + 1 + 1 + 1]? = some o3 ∧
    (((((w.alloc o0).alloc o1).alloc o2).alloc o3).alloc o4).heap[w.heap.size + 1 + 1 + 1 + 1]? = some o4 := by
  have s1 : (w.alloc o0).heap.size = w.heap.size + 1 := by simp
  have s2 : ((w.alloc o0).alloc o1).heap.size = w.heap.size + 1 + 1 := by simp
  have s3 : (((w.alloc o0).alloc o1).alloc o2).heap.size = w.heap.size + 1 + 1 + 1 := by simp
  have s4 : ((((w.alloc o0).alloc o1).alloc o2).alloc o3).heap.size = w.heap.size + 1 + 1 + 1 + 1 := by simp
  have n0 := (MapKept.heap_alloc w o0).1
  have n1 := (MapKept.heap_alloc (w.alloc o0) o1).1
  have n2 := (MapKept.heap_alloc ((w.alloc o0).alloc o1) o2).1
  have n3 := (MapKept.heap_alloc (((w.alloc o0).alloc o1).alloc o2) o3).1
  have n4 := (MapKept.heap_alloc ((((w.alloc o0).alloc o1).alloc o2).alloc o3) o4).1
  rw [s1] at n1
  rw [s2] at n2
  rw [s3] at n3
  rw [s4] at n4
  refine ⟨?_, ?_, ?_, ?_, n4⟩
  · rw [Lib.alloc_old _ _ _ (by omega), Lib.alloc_old _ _ _ (by omega), Lib.alloc_old _ _ _ (by omega), Lib.alloc_old _ _ _ (by omega)]; exact n0
  · rw [Lib.alloc_old _ _ _ (by omega), Lib.alloc_old _ _ _ (by omega), Lib.alloc_old _ _ _ (by omega)]; exact n1
  · rw [Lib.alloc_old _ _ _ (by omega), Lib.alloc_old _ _ _ (by omega)]; exact n2
  · rw [Lib.alloc_old _ _ _ (by omega)]; exact n3
theorem bodyPost_cellE {P : Program} {fn : Func} {R : Ending → World → Prop} {a : Act} {w : World} {V : Value} {a1 u : Tmp} {t1 : TypeId} {ad : Addr} (h : fn.results = #[.cell a1 t1, .tmp u]) (hp : a.tmps.getD a1 undef = .pointer (some ad)) (hl : (loadVar t1 ad).run P w = .ok V w) (hd : a.defers = [])
    (hR : R (.returned (.tuple #[V, a.tmps.getD u undef])) w) : bodyPost P fn R .ret a w :=
  ⟨hd, _, by simp only [results, h, List.mapM_toArray, List.mapM_cons, List.mapM_nil, hp, asAddr]; simp [hl], hR⟩
theorem below_gr {w W w1 : World} {n : Nat} (hW : Below w.heap.size w W) (h : W.grownBy w1 (some n)) (hn : w.heap.size ≤ n) : Below w.heap.size w w1 :=
  ⟨h.os.trans hW.os, h.tape.trans hW.tape, h.output.trans hW.output, Nat.le_trans hW.size h.size, fun k hk => (h.block k (Nat.lt_of_lt_of_le hk hW.size) (by simp; omega)).trans (hW.block k hk)⟩
set_option maxHeartbeats 2000000 in
theorem apply_any (base s : ByteArray) (w : World) (hb : base.size ≤ 1000000) (hs : s.size ≤ 1000000) :
    Calls Try.prog 10 #[.string base, .string s] w fun e w' => e = .returned (applyV (apD base.data.toList s.data.toList)) ∧ Below w.heap.size w w' := by
  have hmf : ∀ (fn : Fn) (first cap : Array Value) (w : World), (Instr.makeFunc fn first cap).run Try.prog w = .ok (.func fn first cap) w := fun _ _ _ _ => rfl
  obtain ⟨k0, k1, k2, k3, k4⟩ := blocks4 w (.cells #[.string base] 9) (.cells #[.string ⟨#[]⟩] 9) (.cells #[.string s] 62) (.cells #[.pointer (some ⟨w.heap.size + 1 + 1, 0, none⟩)] 60) (.cells #[.int .i64 0] 25)
  have hBW : Below w.heap.size w (((((w.alloc (.cells #[.string base] 9)).alloc (.cells #[.string ⟨#[]⟩] 9)).alloc (.cells #[.string s] 62)).alloc (.cells #[.pointer (some ⟨w.heap.size + 1 + 1, 0, none⟩)] 60)).alloc (.cells #[.int .i64 0] 25)) :=
    (((((Below.refl _ _).alloc (Nat.le_refl _) _).alloc (by simp) _).alloc (by simp; omega) _).alloc (by simp; omega) _).alloc (by simp; omega) _
  have hsW : (((((w.alloc (.cells #[.string base] 9)).alloc (.cells #[.string ⟨#[]⟩] 9)).alloc (.cells #[.string s] 62)).alloc (.cells #[.pointer (some ⟨w.heap.size + 1 + 1, 0, none⟩)] 60)).alloc (.cells #[.int .i64 0] 25)).heap.size = w.heap.size + 5 := by simp
  have HBW := Lib.hid hBW
  have HSW := Lib.hid hsW
  have h0 := (Lib.cell_of_heap k0 0).trans (show _ = some (Value.string base) from rfl)
  have h3 := (Lib.cell_of_heap k3 0).trans (show _ = some (Value.pointer (some ⟨w.heap.size + 1 + 1, 0, none⟩)) from rfl)
  have hsz4 : ((((w.alloc (.cells #[.string base] 9)).alloc (.cells #[.string ⟨#[]⟩] 9)).alloc (.cells #[.string s] 62)).alloc (.cells #[.pointer (some ⟨w.heap.size + 1 + 1, 0, none⟩)] 60)).heap.size = w.heap.size + 1 + 1 + 1 + 1 := by simp
  by_cases he : (apD base.data.toList s.data.toList).2 = 0
  · have HC := Lib.hid (apply1_ret _ _ _ _ base s _ h0 k1 k2 h3 (by omega) hb hs he)
    have HV : Hid (applyV (apD base.data.toList s.data.toList) = .tuple #[.string ⟨(apD base.data.toList s.data.toList).1.toArray⟩, .int .i64 0]) := by unfold Hid applyV; rw [he]; rfl
    rw [HV.out]
    clear HV he
    generalize (⟨(apD base.data.toList s.data.toList).1.toArray⟩ : ByteArray) = o at *
    have HR := Lib.hid (caughtA_ret _ _ _ _ (fun w' => ∃ w1, (((((w.alloc (.cells #[.string base] 9)).alloc (.cells #[.string ⟨#[]⟩] 9)).alloc (.cells #[.string s] 62)).alloc (.cells #[.pointer (some ⟨w.heap.size + 1 + 1, 0, none⟩)] 60)).alloc (.cells #[.int .i64 0] 25)).grownBy w1 (some (w.heap.size + 1 + 1)) ∧ w' = w1.setCell ⟨w.heap.size + 1, 0, none⟩ (.string o)) (HC.out.mono (fun e w' h => by
      obtain ⟨h1, w1, h2, h3⟩ := h
      refine ⟨h1, ?_, w1, h2, h3⟩
      rw [h3, Below.heap_setCell _ _ _ _ (by rw [hsz4]; show _ ≠ w.heap.size + 1; omega), hsz4, h2.block _ (by rw [HSW.out]; omega) (by simp only [ne_eq, Option.some.injEq]; omega)]
      exact k4)))
    clear HC k4
    have K1 := Lib.hid k1
    clear k0 k1 k2 k3 h0 h3 hsW hBW
    go_enter Try.func10, Try.ntmps10
    go_wp2_with fail
    refine HR.out.mono ?_
    rintro e w' ⟨rfl, w0, ⟨w1, g1, rfl⟩, rfl⟩
    rw [hsz4]
    have hb1 := (g1.block (w.heap.size + 1) (by rw [HSW.out]; omega) (by simp only [ne_eq, Option.some.injEq]; omega)).trans K1.out
    have c1 : w1.cell? ⟨w.heap.size + 1, 0, none⟩ = some (.string ⟨#[]⟩) := by rw [Lib.cell_of_heap hb1]; rfl
    have f1 : w1.frozen? ⟨w.heap.size + 1, 0, none⟩ = false := Lib.frozen_of_heap hb1 0
    have HB1 := Lib.hid (below_gr HBW.out g1 (by omega))
    clear g1 hb1
    go_wp2_with fail
    refine bodyPost_cellE (V := .string o) rfl rfl ?_ rfl ?_
    · go_simp
    · exact ⟨rfl, ((HB1.out.setCell (p := ⟨w.heap.size + 1, 0, none⟩) (by show _ ≤ w.heap.size + 1; omega) _).setCell (p := ⟨w.heap.size + 1 + 1 + 1 + 1, 0, none⟩) (by show _ ≤ w.heap.size + 1 + 1 + 1 + 1; omega) _).setCell (p := ⟨w.heap.size + 1, 0, none⟩) (by show _ ≤ w.heap.size + 1; omega) _⟩
  · have HC := Lib.hid (apply1_bad _ (w.heap.size + 1) _ _ base s _ h0 k2 h3 hb hs he)
    have HV : Hid (applyV (apD base.data.toList s.data.toList) = .tuple #[.string ⟨#[]⟩, .int .i64 ((apD base.data.toList s.data.toList).2 : Nat)]) := by unfold Hid applyV; rw [apD_err _ _ he]
    rw [HV.out]
    clear HV he
    generalize (apD base.data.toList s.data.toList).2 = n at *
    have HR := Lib.hid (caughtA_thrown _ _ _ _ (fun w' => (((((w.alloc (.cells #[.string base] 9)).alloc (.cells #[.string ⟨#[]⟩] 9)).alloc (.cells #[.string s] 62)).alloc (.cells #[.pointer (some ⟨w.heap.size + 1 + 1, 0, none⟩)] 60)).alloc (.cells #[.int .i64 0] 25)).grownBy w' (some (w.heap.size + 1 + 1))) n (HC.out.mono (fun e w' h => by
      refine ⟨h.1, ?_, h.2⟩
      rw [hsz4, h.2.block _ (by rw [HSW.out]; omega) (by simp only [ne_eq, Option.some.injEq]; omega)]
      exact k4)))
    clear HC k4
    have K1 := Lib.hid k1
    clear k0 k1 k2 k3 h0 h3 hsW hBW
    go_enter Try.func10, Try.ntmps10
    go_wp2_with fail
    refine HR.out.mono ?_
    rintro e w' ⟨rfl, w1, g1, rfl⟩
    rw [hsz4]
    have hb1 := (g1.block (w.heap.size + 1) (by rw [HSW.out]; omega) (by simp only [ne_eq, Option.some.injEq]; omega)).trans K1.out
    have hb2 := (Lib.alloc_old w1 (.cells #[.int .i64 (n : Nat)] 84) (w.heap.size + 1) (by have := g1.size; rw [HSW.out] at this; omega)).trans hb1
    have c1 : (w1.alloc (.cells #[.int .i64 (n : Nat)] 84)).cell? ⟨w.heap.size + 1, 0, none⟩ = some (.string ⟨#[]⟩) := by rw [Lib.cell_of_heap hb2]; rfl
    have f1 : (w1.alloc (.cells #[.int .i64 (n : Nat)] 84)).frozen? ⟨w.heap.size + 1, 0, none⟩ = false := Lib.frozen_of_heap hb2 0
    have HB1 : Hid (Below w.heap.size w (w1.alloc (.cells #[.int .i64 (n : Nat)] 84))) := (below_gr HBW.out g1 (by omega)).alloc (by have := g1.size; rw [HSW.out] at this; omega) _
    clear g1 hb1 hb2
    generalize w1.alloc (.cells #[.int .i64 (n : Nat)] 84) = w2 at *
    go_wp2_with fail
    refine bodyPost_cellE (V := .string ⟨#[]⟩) rfl rfl ?_ rfl ?_
    · go_simp
    · exact ⟨rfl, (HB1.out.setCell (p := ⟨w.heap.size + 1 + 1 + 1 + 1, 0, none⟩) (by show _ ≤ w.heap.size + 1 + 1 + 1 + 1; omega) _).setCell (p := ⟨w.heap.size + 1, 0, none⟩) (by show _ ≤ w.heap.size + 1; omega) _⟩
end Go.Proofs.Ytlkpgefapcfdbaa
