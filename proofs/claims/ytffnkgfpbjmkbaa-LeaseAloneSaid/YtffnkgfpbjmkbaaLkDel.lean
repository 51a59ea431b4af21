/- slices.Delete and slices.DeleteFunc in a row of locks of the call's own. -/
import Derived.Test.YtffnkgfpbjmkbaaLkFit2
import Derived.Lib.SliceRun
import Derived.Lib.AppendZeros
namespace Go.Proofs.Ytffnkgfpbjmkbaa
open Go.RowKit Go.Lib
set_option linter.unusedVariables false
set_option linter.unusedSimpArgs false
theorem step_append_runI {P : Program} {ops : Array Oper} {o : Oper} {a : Act} {w : World} {K : Act → World → Prop} {Q : Exit → Act → World → Prop} {E : Prop}
    (hg : o.guard = none) (s x : Operand) (t : TypeId) (hop : o.op = Op.call { callee := Callee.builtin Builtin.append, args := #[s, x], argTypes := #[t, t] })
    (v u : Value) (hs : a.eval s = v) (hx : a.eval x = u) {v' : Value} {w' : World} (hr : (Builtin.append_ #[t, t] o.type #[v, u]).run P w = .ok v' w') (hK : K (a.put o.dst v') w') :
    if Region.wanted o (yielded ops a.tmps) = true then Oper.wp P o a w K Q else E := by
  have hw : Region.wanted o (yielded ops a.tmps) = true := by simp [Region.wanted, hg]
  rw [if_pos hw]
  exact wp_append_run w s x t t hop v u hs hx v' w' hr hK
theorem mem_zeroCells {z : Array Value} {n : Nat} (hz : 0 < z.size) (h : ∀ v ∈ z, v.oneCell' = true) : ∀ v ∈ (Builtin.zeroCells z n).toList, v.oneCell' = true := by
  intro v hv
  unfold Builtin.zeroCells at hv
  rw [Array.mem_toList_iff, Array.mem_map] at hv
  obtain ⟨i, _, rfl⟩ := hv
  have hlt : i % z.size < z.size := Nat.mod_lt _ hz
  rw [getElem!_pos z _ hlt]
  exact h _ (Array.getElem_mem hlt)
theorem run_clear_lkN (w : World) (ty : TypeId) (g i k c : Nat) (cur : Array Value) (hg : w.heap[g]? = some (.cells cur 62 (0, 0))) (hfit : i * 3 + k * 3 ≤ cur.size) :
    ∃ cur' : Array Value, cur'.size = cur.size ∧ cur'.toList.take (i * 3) = cur.toList.take (i * 3) ∧ (Builtin.clear_ #[25] ty #[.slice (some ⟨g, i * 3, none⟩) k c]).run Try.prog w = .ok (.tuple #[]) (w.setRow g cur') := by
  cases k with
  | zero =>
    refine ⟨cur, rfl, rfl, ?_⟩
    rw [setRow_self w g cur 62 (0, 0) hg]
    simp [Builtin.clear_, run_underlying Try.underlying25]
  | succ k =>
    have hv : ∀ w, (zeroValue 62).run Try.prog w = .ok (.agg #[.int .u64 0, .bool false, .int .i64 0]) w := fun w => by kernel_rfl
    obtain ⟨zs, hzs⟩ : ∃ zs, zs = (Builtin.zeroCells (Value.agg #[.int .u64 0, .bool false, .int .i64 0]).cells (k + 1)).toList := ⟨_, rfl⟩
    have hzl : zs.length = (k + 1) * 3 := by rw [hzs, Array.length_toList, size_zeroCells]; rfl
    have hz1 : ∀ v ∈ zs, v.oneCell' = true := by
      rw [hzs]
      refine mem_zeroCells (by decide) ?_
      intro v hv
      have : v ∈ #[Value.int .u64 0, .bool false, .int .i64 0] := hv
      simp at this
      rcases this with rfl | rfl | rfl <;> rfl
    have hst := run_storeCells_at (P := Try.prog) g (i * 3) 62 zs 0 cur w hg (by omega) hz1
    simp only [Nat.add_zero] at hst
    refine ⟨(cur.toList.take (i * 3) ++ zs ++ cur.toList.drop (i * 3 + zs.length)).toArray, ?_, ?_, ?_⟩
    · simp; omega
    · have : (cur.toList.take (i * 3)).length = i * 3 := by simp; omega
      simp only [List.append_assoc]
      rw [List.take_append_of_le_length (by omega), List.take_of_length_le (by omega)]
    · simp [Builtin.clear_, run_underlying Try.underlying25, hv, ← hzs, hst]
/-- a row of the call's own, in the block g -/
def RowL (w : World) (g n c : Nat) (l : List Lk) : Prop := n = l.length ∧ n ≤ c ∧ c ≤ maxLen ∧ ∃ cur : Array Value, w.heap[g]? = some (.cells cur 62 (0, 0)) ∧ cur.size = c * 3 ∧ cur.toList.take (n * 3) = lkC l
theorem RowL.own {w : World} {g n c B : Nat} {l : List Lk} (h : RowL w g n c l) (hB : B ≤ g) : OwnL w B (.slice (some ⟨g, 0, none⟩) l.length c) l.length (lkC l) := by
  obtain ⟨rfl, h1, h2, cur, h3, h4, h5⟩ := h
  exact ⟨lkC_len l, .inr ⟨g, c, cur, rfl, hB, h3, h1, h2, h4, h5⟩⟩
theorem OwnL.row {w : World} {B : Nat} {v : Value} {l : List Lk} (h : OwnL w B v l.length (lkC l)) : (v = .slice none 0 0 ∧ l = []) ∨ ∃ g c, v = .slice (some ⟨g, 0, none⟩) l.length c ∧ B ≤ g ∧ RowL w g l.length c l := by
  rcases h.2 with ⟨hv, h0⟩ | ⟨g, cap, cur, hv, hb, hg, h1, h2, h3, h4⟩
  · exact .inl ⟨hv, List.eq_nil_of_length_eq_zero h0⟩
  · exact .inr ⟨g, cap, hv, hb, rfl, h1, h2, cur, hg, h3, h4⟩
set_option maxRecDepth 20000 in
set_option maxHeartbeats 4000000 in
theorem delete_any (g n c i : Nat) (l : List Lk) (w : World) (h : RowL w g n c l) (hi : i < n) :
    Calls Try.prog 40 #[.slice (some ⟨g, 0, none⟩) n c, .int .i64 i, .int .i64 ((i : Int) + 1)] w fun e w' =>
      e = .returned (.slice (some ⟨g, 0, none⟩) (n - 1) c) ∧ RowL w' g (n - 1) c (l.eraseIdx i) ∧ w.grownBy w' (some g) := by
  obtain ⟨hn, hnc, hcm, cur, hg, hcs, hx⟩ := h
  have hc9 : c ≤ 9223372036854775807 := by unfold maxLen at hcm; omega
  have hT := Try.underlying25
  obtain ⟨i0, hi0, hz0, hzs, hzb⟩ := info_parts lockInfo
  have hcl : cur.toList.length = c * 3 := by rw [Array.length_toList, hcs]
  have hxl := lkC_len l
  have hcell : ∀ j v, (lkC l)[j]? = some v → w.cell? ⟨g, j, none⟩ = some v := fun j v hj => by
    rw [← hx] at hj
    have hlt : j < n * 3 := by
      refine Decidable.byContradiction fun hh => ?_
      rw [List.getElem?_eq_none (by rw [List.length_take]; omega)] at hj
      cases hj
    rw [List.getElem?_take_of_lt hlt] at hj
    simp only [World.cell?, hg]
    simpa using hj
  obtain ⟨mid, hmid⟩ : ∃ mid : List Value, mid = cur.toList.take (i * 3) ++ lkC (l.drop (i + 1)) ++ cur.toList.drop (i * 3 + (lkC (l.drop (i + 1))).length) := ⟨_, rfl⟩
  have hml : mid.length = c * 3 := by rw [hmid]; simp [lkC_len]; omega
  have hmt : mid.take ((n - 1) * 3) = lkC (l.eraseIdx i) := by
    rw [hmid, List.eraseIdx_eq_take_drop_succ, lkC_append, ← lkC_take, ← hx, List.take_take]
    have e1 : (cur.toList.take (i * 3) ++ lkC (l.drop (i + 1))).length = (n - 1) * 3 := by simp [lkC_len]; omega
    rw [List.take_append_of_le_length (by omega), List.take_of_length_le (by omega)]
    congr 2
    omega
  have hap : ∀ (ad : Addr), ((n - (i + 1) = 0) ∨ ad = ⟨g, (i + 1) * 3, none⟩) → ∀ ty sc, (Builtin.append_ #[25, 25] ty #[.slice (some ⟨g, 0, none⟩) i c, .slice (some ad) (n - (i + 1)) sc]).run Try.prog w.drew = .ok (.slice (some ⟨g, 0, none⟩) (n - 1) c) (w.drew.setRow g mid.toArray) := fun ad had ty sc => by
    have := run_append_room (P := Try.prog) w.drew 25 ty 62 i0 hT hi0 g i c cur hg ad (n - (i + 1)) sc (lkC (l.drop (i + 1))) (by rw [lkC_len, hzs, List.length_drop]; omega) (fun j u hj => ?_) (lkC_one _) (by omega) (by rw [hzs, lkC_len, List.length_drop]; omega)
    · rw [hzs, ← hmid, show i + (n - (i + 1)) = n - 1 by omega] at this
      exact this
    · rcases had with h0 | rfl
      · rw [List.getElem?_eq_none (by rw [lkC_len, List.length_drop]; omega)] at hj
        cases hj
      · rw [← lkC_drop, List.getElem?_drop] at hj
        rw [Addr.add_lit]
        exact hcell _ _ hj
  obtain ⟨cur2, k1, k2, k3⟩ : ∃ cur2 : Array Value, cur2.size = c * 3 ∧ cur2.toList.take ((n - 1) * 3) = lkC (l.eraseIdx i) ∧ ∀ ty sc, (Builtin.clear_ #[25] ty #[.slice (some ⟨g, (n - 1) * 3, none⟩) (n - (n - 1)) sc]).run Try.prog (w.drew.setRow g mid.toArray) = .ok (.tuple #[]) ((w.drew.setRow g mid.toArray).setRow g cur2) := by
    obtain ⟨cur2, k1, k2, k3⟩ := run_clear_lkN (w.drew.setRow g mid.toArray) 0 g (n - 1) 1 0 mid.toArray (setRow_heap w.drew g cur _ _ _ hg) (by simp; omega)
    refine ⟨cur2, by rw [k1]; simpa using hml, by rw [k2]; simpa using hmt, fun ty sc => ?_⟩
    rw [show n - (n - 1) = 1 by omega]
    simpa [Builtin.clear_] using k3
  rw [setRow_setRow] at k3
  have HEND : Hid (RowL (w.drew.setRow g cur2) g (n - 1) c (l.eraseIdx i) ∧ w.grownBy (w.drew.setRow g cur2) (some g)) := by
    refine ⟨⟨by rw [List.length_eraseIdx, if_pos (by omega)]; omega, by omega, hcm, cur2, setRow_heap w.drew g cur _ _ _ hg, k1, k2⟩, rfl, rfl, rfl, by simp [World.setRow], fun k hk hne => setRow_other w.drew g k _ (fun e => hne (by rw [e]))⟩
  have h1 : IntKind.i64.wrap ((i : Int) + 1) = (i : Int) + 1 := by rw [IntKind.wrap_i64]; omega
  have h2 : ¬ ((i : Int) = (i : Int) + 1) := by omega
  have h3 : (i : Int) + 1 ≤ (n : Int) := by omega
  have h4 : (i : Int) ≤ (n : Int) := by omega
  have h5 : ((i : Int) + 1).toNat = i + 1 := by omega
  have h6 : (0 : Int) ≤ (i : Int) + 1 := by omega
  have h7 : i ≤ n := by omega
  have hic : i ≤ c := by omega
  have hcn : ¬ (c = n - 1) := by omega
  have hn1 : n - 1 ≤ n := by omega
  have h8 : i + 1 ≤ n := by omega
  have h9 : (n : Int) ≤ (c : Int) := by omega
  have mixed : Try.prog.follows .mixedOrders = true := by kernel_rfl
  by_cases hci : c = i + 1
  · have hni : n = i + 1 := by omega
    have hap1 := hap ⟨g, 0, none⟩ (Or.inl (by omega))
    clear hap hmid hml hmt hcell hxl hcl hx hcs hg k1 k2 hi0 hz0 hzs hzb hT hn
    subst hni
    subst hci
    simp only [Nat.sub_self, Nat.add_sub_cancel] at hap1 k3 HEND ⊢
    rw [show i + 1 - i = 1 by omega] at k3
    clear h7 h8 h3 h4 hic hnc hi hn1 hcn
    have hii : ¬ (i + 1 = i) := by omega
    have hle1 : (i : Int) ≤ (i : Int) + 1 := by omega
    have hi1 : i + 1 - i = 1 := by omega
    have hc0 : ((i + 1 : Nat) : Int) = (i : Int) + 1 := by omega
    go_enter Try.func40, Try.ntmps40
    go_wp2_with fail
    go_region_law_o (refine step_append_runI rfl _ _ 25 rfl _ _ rfl rfl (hap1 _ _) ?_)
    clear hap1
    go_wp2_with fail
    go_ret
    exact ⟨rfl, HEND.out⟩
  · have hap1 := hap ⟨g, (i + 1) * 3, none⟩ (Or.inr rfl)
    clear hap hmid hml hmt hcell hxl hcl hx hcs hg k1 k2 hi0 hz0 hzs hzb hT hn
    go_enter Try.func40, Try.ntmps40
    go_wp2_with fail
    go_region_law_o (refine step_append_runI rfl _ _ 25 rfl _ _ rfl rfl (hap1 _ _) ?_)
    clear hap1
    go_wp2_with fail
    go_ret
    exact ⟨rfl, HEND.out⟩
end Go.Proofs.Ytffnkgfpbjmkbaa
