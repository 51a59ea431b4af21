/- Fit of both; keys.Has; few: walks. -/
import Derived.Test.YtjbnkheghafgoaaKeysRefHas
import Derived.Test.YtjbnkheghafgoaaKeysOf
import Derived.Deep.QuietTactic
import Derived.BigQuiet
namespace Go.Proofs.Ytjbnkheghafgoaa
open Go.RowKit
set_option linter.unusedVariables false
theorem fit_step (l : List ByteArray) (k : Nat) (hk : k < l.length) : fitL (l.take (k + 1)) = (fitL (l.take k) && (decide (l[k].size = 32) && (decide (k = 0) || bl (l.getD (k - 1) ⟨#[]⟩) l[k]))) := by
  rw [Bool.eq_iff_iff]
  unfold fitL
  simp only [Bool.and_eq_true, Bool.or_eq_true, decide_eq_true_iff]
  rw [take_succ_list l k hk]
  have hp : Ris (l.take k ++ [l[k]]) ↔ Ris (l.take k) ∧ ∀ y ∈ l.take k, bl y l[k] = true := by
    unfold Ris; rw [List.pairwise_append]; simp
  rw [hp]
  constructor
  · rintro ⟨h1, h2, h3⟩
    refine ⟨⟨fun x hx => h1 x (List.mem_append.2 (.inl hx)), h2⟩, h1 _ (List.mem_append.2 (.inr (List.mem_singleton.2 rfl))), ?_⟩
    rcases Nat.eq_zero_or_pos k with e | e
    · exact .inl e
    · right
      rw [List.getD_eq_getElem?_getD, List.getElem?_eq_getElem (by omega)]
      exact h3 _ (List.mem_take_iff_getElem.2 ⟨k - 1, by omega, rfl⟩)
  · rintro ⟨⟨h1, h2⟩, h3, h4⟩
    refine ⟨fun x hx => ?_, h2, fun y hy => ?_⟩
    · rcases List.mem_append.1 hx with h | h
      · exact h1 x h
      · simp at h; rw [h]; exact h3
    · obtain ⟨j, hj, rfl⟩ := List.mem_take_iff_getElem.1 hy
      have hj' : j < k := by omega
      rcases h4 with e | h4
      · omega
      · rw [List.getD_eq_getElem?_getD, List.getElem?_eq_getElem (by omega)] at h4
        by_cases e : j = k - 1
        · subst e; exact h4
        · refine bl_trans ?_ h4
          have := List.pairwise_iff_getElem.1 h2 j (k - 1) (by simp; omega) (by simp; omega) (by omega)
          simpa using this
theorem fit_pre {l : List ByteArray} (k : Nat) (h : fitL (l.take k) = false) : fitL l = false := by
  unfold fitL at h ⊢
  rw [decide_eq_false_iff_not] at h ⊢
  rintro ⟨h1, h2⟩
  exact h ⟨fun x hx => h1 x (List.mem_of_mem_take hx), h2.sublist (List.take_sublist k l)⟩
theorem fitL_nil : fitL [] = true := by simp [fitL, Ris]
set_option maxRecDepth 20000 in
set_option maxHeartbeats 2000000 in
theorem kFit_any (w : World) (va : Value) (l : List ByteArray) (ha : StrsB w va l) :
    Calls Try.prog 21 #[va] w fun e w' => e = .returned (.bool (fitL l)) ∧ w = w' := by
  obtain ⟨A, c, rfl, h1, h2⟩ := ha.len
  have HC := Lib.hid ha.cells; clear ha
  have hm : l.length ≤ 9223372036854775807 := by unfold maxLen at h2; omega
  clear h1 h2
  go_enter Try.func21, Try.ntmps21
  go_wp2
  go_loop [7] (fun i => ∃ j : Nat, j ≤ l.length ∧ i = .int .i64 j ∧ Hid (fitL (l.take j) = true)) (fun i => l.length - (intOf i).toNat)
  case atStart => exact ⟨0, Nat.zero_le _, rfl, fitL_nil⟩
  case round =>
    obtain ⟨j, hj, rfl, HT⟩ := hrel
    by_cases hlt : j < l.length
    · obtain ⟨b, off, rfl, hblt, hcell⟩ := HC.out (by omega)
      have e1 := hcell j hlt
      have hlt' : (j : Int) < (l.length : Int) := by omega
      have hst := fit_step l j hlt
      rw [HT.out, Bool.true_and] at hst
      by_cases hs : l[j].size = 32
      · have hs' : ((l[j].size : Int) != 32) = false := by rw [bne_eq_false_iff_eq]; omega
        rw [decide_eq_true hs, Bool.true_and] at hst
        clear hs
        by_cases h0 : j = 0
        · have hd : decide ((0 : Int) < (j : Int)) = false := by rw [decide_eq_false_iff_not]; omega
          have hd' : decide (0 < j) = false := by rw [decide_eq_false_iff_not]; omega
          rw [decide_eq_true h0, Bool.true_or] at hst
          have HS := Lib.hid hst; clear hst hcell
          have hj0 : j ≤ 0 := by omega
          clear h0
          generalize l[j] = x at *
          go_wp2
          go_round
          case rel => exact ⟨j + 1, by omega, by go_num, HS.out⟩
          case measure => simp [intOf]; omega
        · have hd : decide ((0 : Int) < (j : Int)) = true := by rw [decide_eq_true_iff]; omega
          have hd' : decide (0 < j) = true := by rw [decide_eq_true_iff]; omega
          have e2 := hcell (j - 1) (by omega)
          have hg : l.getD (j - 1) ⟨#[]⟩ = l[j - 1] := by rw [List.getD_eq_getElem?_getD, List.getElem?_eq_getElem (by omega)]; rfl
          rw [decide_eq_false h0, Bool.false_or, hg] at hst
          have hp : Op.bytesLess l[j - 1].toList l[j].toList = bl l[j - 1] l[j] := by rw [ByteArray.toList_eq, ByteArray.toList_eq]; rfl
          have hj1 : 1 ≤ j := by omega
          have hj2 : (1 : Int) ≤ (j : Int) := by omega
          have hj3 : (0 : Int) ≤ (j : Int) - 1 := by omega
          have hj4 : (j : Int) - 1 < (l.length : Int) := by omega
          have hj5 : ((j : Int) - 1).toNat = j - 1 := by omega
          clear hg hcell h0
          generalize l[j] = x at *
          generalize l[j - 1] = y at *
          cases hb : bl y x
          · rw [hb] at hst hp
            have HF := Lib.hid (fit_pre (j + 1) hst)
            clear hst hb
            go_wp2
            go_ret
            exact ⟨by rw [HF.out]; rfl, rfl⟩
          · rw [hb] at hst hp
            have HS := Lib.hid hst; clear hst hb
            go_wp2
            go_round
            case rel => exact ⟨j + 1, by omega, by go_num, HS.out⟩
            case measure => simp [intOf]; omega
      · have hs' : ((l[j].size : Int) != 32) = true := by rw [bne_iff_ne]; omega
        rw [decide_eq_false hs, Bool.false_and] at hst
        have HF := Lib.hid (fit_pre (j + 1) hst)
        clear hs hst hcell
        generalize l[j] = x at *
        go_wp2
        go_ret
        exact ⟨by rw [HF.out]; rfl, rfl⟩
    · obtain rfl : j = l.length := by omega
      rw [List.take_length] at HT
      go_wp2
      go_ret
      exact ⟨by rw [HT.out]; rfl, rfl⟩
set_option maxRecDepth 20000 in
set_option maxHeartbeats 2000000 in
theorem rFit_any (w : World) (va : Value) (l : List ByteArray) (ha : StrsB w va l) :
    Calls Try.prog 20 #[va] w fun e w' => e = .returned (.bool (fitL l)) ∧ ∃ n, w' = w.drewN n := by
  obtain ⟨A, c, rfl, h1, h2⟩ := ha.len
  have HC := Lib.hid ha.cells; clear ha
  have hm : l.length ≤ 9223372036854775807 := by unfold maxLen at h2; omega
  clear h1 h2
  go_enter Try.func20, Try.ntmps20
  go_wp2
  go_loopw [3] (fun i wr => ∃ j : Nat, j ≤ l.length ∧ i = .int .i64 j ∧ Hid (fitL (l.take j) = true) ∧ Hid (∃ m, wr = w.drewN m)) (fun i _ => l.length - (intOf i).toNat)
  case atStart => exact ⟨0, Nat.zero_le _, rfl, fitL_nil, 0, rfl⟩
  case round =>
    obtain ⟨j, hj, rfl, HT, HW⟩ := hrel
    by_cases hlt : j < l.length
    · obtain ⟨b, off, rfl, hblt, hcell⟩ := HC.out (by omega)
      have e1 : wr.cell? ⟨b, off + j, none⟩ = some (.string l[j]) := by obtain ⟨m, rfl⟩ := HW.out; exact hcell j hlt
      have hlt' : (j : Int) < (l.length : Int) := by omega
      have hst := fit_step l j hlt
      rw [HT.out, Bool.true_and] at hst
      by_cases hs : l[j].size = 32
      · have hs' : ((l[j].size : Int) != 32) = false := by rw [bne_eq_false_iff_eq]; omega
        rw [decide_eq_true hs, Bool.true_and] at hst
        clear hs
        by_cases h0 : j = 0
        · have hd : decide ((0 : Int) < (j : Int)) = false := by rw [decide_eq_false_iff_not]; omega
          have hd' : decide (0 < j) = false := by rw [decide_eq_false_iff_not]; omega
          rw [decide_eq_true h0, Bool.true_or] at hst
          have HS := Lib.hid hst; clear hst hcell
          have hj0 : j ≤ 0 := by omega
          clear h0
          generalize l[j] = x at *
          go_wp2_with fail
          go_quiet (fail)
          go_wp2_with fail
          go_roundw
          case rel => exact ⟨j + 1, by omega, by go_num, HS.out, by obtain ⟨m, rfl⟩ := HW.out; exact ⟨_, World.drewN_drewN _ _ _⟩⟩
          case measure => simp [intOf]; omega
        · have hd : decide ((0 : Int) < (j : Int)) = true := by rw [decide_eq_true_iff]; omega
          have hd' : decide (0 < j) = true := by rw [decide_eq_true_iff]; omega
          have e2 : wr.cell? ⟨b, off + (j - 1), none⟩ = some (.string l[j - 1]) := by obtain ⟨m, rfl⟩ := HW.out; exact hcell (j - 1) (by omega)
          have hg : l.getD (j - 1) ⟨#[]⟩ = l[j - 1] := by rw [List.getD_eq_getElem?_getD, List.getElem?_eq_getElem (by omega)]; rfl
          rw [decide_eq_false h0, Bool.false_or, hg] at hst
          have hp : Op.bytesLess l[j - 1].toList l[j].toList = bl l[j - 1] l[j] := by rw [ByteArray.toList_eq, ByteArray.toList_eq]; rfl
          have hj1 : 1 ≤ j := by omega
          have hj2 : (1 : Int) ≤ (j : Int) := by omega
          have hj3 : (0 : Int) ≤ (j : Int) - 1 := by omega
          have hj4 : (j : Int) - 1 < (l.length : Int) := by omega
          have hj5 : ((j : Int) - 1).toNat = j - 1 := by omega
          clear hg hcell h0
          generalize l[j] = x at *
          generalize l[j - 1] = y at *
          cases hb : bl y x
          · rw [hb] at hst hp
            have HF := Lib.hid (fit_pre (j + 1) hst)
            clear hst hb
            go_wp2_with fail
            go_quiet (fail)
            go_wp2_with fail
            go_ret
            exact ⟨by rw [HF.out]; rfl, by obtain ⟨m, rfl⟩ := HW.out; exact ⟨_, World.drewN_drewN _ _ _⟩⟩
          · rw [hb] at hst hp
            have HS := Lib.hid hst; clear hst hb
            go_wp2_with fail
            go_quiet (fail)
            go_wp2_with fail
            go_roundw
            case rel => exact ⟨j + 1, by omega, by go_num, HS.out, by obtain ⟨m, rfl⟩ := HW.out; exact ⟨_, World.drewN_drewN _ _ _⟩⟩
            case measure => simp [intOf]; omega
      · have hs' : ((l[j].size : Int) != 32) = true := by rw [bne_iff_ne]; omega
        rw [decide_eq_false hs, Bool.false_and] at hst
        have HF := Lib.hid (fit_pre (j + 1) hst)
        clear hs hst hcell
        generalize l[j] = x at *
        go_wp2_with fail
        go_quiet (fail)
        go_wp2_with fail
        go_ret
        exact ⟨by rw [HF.out]; rfl, by obtain ⟨m, rfl⟩ := HW.out; exact ⟨_, World.drewN_drewN _ _ _⟩⟩
    · obtain rfl : j = l.length := by omega
      rw [List.take_length] at HT
      go_wp2
      go_ret
      exact ⟨by rw [HT.out]; rfl, HW.out⟩
theorem split_at (k : ByteArray) : ∀ l : List ByteArray, Ris l → ∃ p, p ≤ l.length ∧ (∀ t (h : t < l.length), t < p → bl l[t] k = true) ∧ (∀ t (h : t < l.length), p ≤ t → bl l[t] k = false)
  | [], _ => ⟨0, by simp, fun t h => absurd h (by simp), fun t h => absurd h (by simp)⟩
  | x :: xs, hr => by
    obtain ⟨h1, h2⟩ := ris_cons.1 hr
    by_cases hx : bl x k = true
    · obtain ⟨p, hp, ha, hb⟩ := split_at k xs h2
      refine ⟨p + 1, by simpa using hp, fun t h ht => ?_, fun t h ht => ?_⟩
      · cases t with
        | zero => exact hx
        | succ t => exact ha t (by simpa using h) (by omega)
      · cases t with
        | zero => omega
        | succ t => exact hb t (by simpa using h) (by omega)
    · refine ⟨0, by simp, fun t h ht => by omega, fun t h ht => ?_⟩
      cases t with
      | zero => simpa using hx
      | succ t =>
        have ht' : t < xs.length := by simpa using h
        have hm := h1 (xs[t]'ht') (List.getElem_mem _)
        cases hq : bl xs[t] k
        · exact hq
        · exact absurd (bl_trans hm hq) hx
theorem bs_has (l : List ByteArray) (k : ByteArray) (hr : Ris l) :
    decide (Lib.bsGo (fun t => Op.bytesLess (l.getD t k).toList k.toList) l.length 0 l.length < l.length ∧ l.getD (Lib.bsGo (fun t => Op.bytesLess (l.getD t k).toList k.toList) l.length 0 l.length) k = k) = decide (k ∈ l) := by
  obtain ⟨p, hp, ha, hb⟩ := split_at k l hr
  have hg : ∀ t (h : t < l.length), l.getD t k = l[t] := fun t h => by rw [List.getD_eq_getElem?_getD, List.getElem?_eq_getElem h]; rfl
  have hs := Lib.bsGo_spec (fun t => Op.bytesLess (l.getD t k).toList k.toList) p (fun t ht => by
    show Op.bytesLess _ _ = true
    rw [hg t (by omega), ByteArray.toList_eq, ByteArray.toList_eq]; exact ha t (by omega) ht) (fun t ht => by
    show Op.bytesLess _ _ = false
    rw [ByteArray.toList_eq, ByteArray.toList_eq]
    by_cases h : t < l.length
    · rw [hg t h]; exact hb t h ht
    · rw [List.getD_eq_getElem?_getD, List.getElem?_eq_none (by omega)]; exact less_irrefl _) l.length 0 l.length (by omega) (by omega) hp
  rw [hs, Bool.eq_iff_iff, decide_eq_true_iff, decide_eq_true_iff]
  constructor
  · rintro ⟨h1, h2⟩
    rw [hg p h1] at h2
    rw [← h2]; exact List.getElem_mem _
  · intro h
    obtain ⟨j, hj, rfl⟩ := List.getElem_of_mem h
    have h1 : p ≤ j := by
      rcases Nat.lt_or_ge j p with h | h
      · have := ha j hj h; rw [bl_irrefl] at this; exact absurd this (by decide)
      · exact h
    have h2 : j = p := by
      rcases Nat.lt_or_ge p j with h | h
      · have := List.pairwise_iff_getElem.1 hr p j (by omega) hj h
        rw [hb p (by omega) (Nat.le_refl _)] at this
        exact absurd this (by decide)
      · omega
    subst h2
    exact ⟨hj, hg _ hj⟩
set_option maxHeartbeats 1000000 in
theorem kHas_any (w : World) (va : Value) (l : List ByteArray) (k : ByteArray) (ha : StrsB w va l) (hr : Ris l) (hl : l.length ≤ 1000000) :
    Calls Try.prog 19 #[va, .string k] w fun e w' => e = .returned (.bool (decide (k ∈ l))) ∧ ∃ n, w' = w.drewN n := by
  have hc : Calls Try.prog 40 #[va, .string k] w fun e w' => ∃ i : Nat, e = .returned (.tuple #[.int .i64 i, .bool (decide (k ∈ l))]) ∧ ∃ n, w' = w.drewN n := by
    by_cases h0 : l.length = 0
    · have e := List.length_eq_zero_iff.1 h0
      subst e
      obtain ⟨A, c, rfl, _⟩ := ha.nil
      have := Any2.slices_BinarySearch_string_empty Try.lays226 A c k w
      change Calls Try.prog 40 _ _ _ at this
      refine this.mono ?_
      rintro e w' ⟨rfl, rfl⟩
      exact ⟨0, by simp, 0, rfl⟩
    · obtain ⟨b, off, c, rfl, h1, h2, h3, h4⟩ := ha.at (by omega)
      have := Any2.slices_BinarySearch_string Try.lays226 b off l.length c (fun t => l.getD t k) k w (by omega) (fun j hj => by rw [h4 j hj, List.getD_eq_getElem?_getD, List.getElem?_eq_getElem hj]; rfl)
      change Calls Try.prog 40 _ _ _ at this
      rw [bs_has l k hr] at this
      refine this.mono ?_
      rintro e w' ⟨rfl, h⟩
      exact ⟨_, rfl, h⟩
  have HC := Lib.hid hc; clear hc ha
  go_enter Try.func19, Try.ntmps19
  go_wp2_with fail
  refine HC.out.mono ?_
  rintro e w1 ⟨i, rfl, n, rfl⟩
  generalize hd : decide (k ∈ l) = d at *
  have HD := Lib.hid hd; clear hd
  go_wp2
  go_ret
  exact ⟨by rw [HD.out]; rfl, n, rfl⟩
/-- lists of texts, few of them and short -/
def fewL (ls : List (List ByteArray)) : Bool := ls.all fun l => decide (l.length ≤ 200) && l.all fun x => decide (x.size ≤ 200)
/-- a row of lists of texts -/
structure Lists (w : World) (g : Nat) (vs : List Value) (ls : List (List ByteArray)) : Prop where
  len : vs.length = ls.length
  cells : ∀ (j : Nat) (v : Value), vs[j]? = some v → w.cell? ⟨g, j, none⟩ = some v
  strs : ∀ (j : Nat) (v : Value) (l : List ByteArray), vs[j]? = some v → ls[j]? = some l → StrsB w v l
set_option maxRecDepth 20000 in
set_option maxHeartbeats 1000000 in
theorem few_any (w : World) (g : Nat) (vs : List Value) (ls : List (List ByteArray)) (h : Lists w g vs ls) (hm : ls.length ≤ 100) :
    Calls Try.prog 13 #[.slice (some ⟨g, 0, none⟩) ls.length ls.length] w fun e w' => e = .returned (.bool (fewL ls)) ∧ w = w' := by
  have HL := Lib.hid h; clear h
  go_enter Try.func13, Try.ntmps13
  go_wp2
  go_loop [9] (fun i => ∃ j : Nat, j ≤ ls.length ∧ i = .int .i64 j ∧ Hid (fewL (ls.take j) = true)) (fun i => ls.length - (intOf i).toNat)
  case atStart => exact ⟨0, Nat.zero_le _, rfl, rfl⟩
  case round =>
    obtain ⟨j, hj, rfl, HT⟩ := hrel
    by_cases hlt : j < ls.length
    · obtain ⟨v, hv⟩ : ∃ v, vs[j]? = some v := ⟨_, List.getElem?_eq_getElem (by rw [HL.out.len]; exact hlt)⟩
      have e1 : w.cell? ⟨g, j, none⟩ = some v := HL.out.cells j v hv
      have hsb := HL.out.strs j v ls[j] hv (List.getElem?_eq_getElem hlt)
      have hT := take_succ_list ls j hlt
      have hF : fewL (ls.take (j + 1)) = (decide (ls[j].length ≤ 200) && ls[j].all fun x => decide (x.size ≤ 200)) := by
        rw [hT]; have := HT.out; unfold fewL at this ⊢; rw [List.all_append, this]; simp
      have hFn : (decide (ls[j].length ≤ 200) && ls[j].all fun x => decide (x.size ≤ 200)) = false → fewL ls = false := by
        intro h; unfold fewL
        rw [List.all_eq_false]
        exact ⟨ls[j], List.getElem_mem _, by rw [h]; decide⟩
      have HF := Lib.hid hF; clear hF hT
      have HFN := Lib.hid hFn; clear hFn
      have hlt' : (j : Int) < (ls.length : Int) := by omega
      generalize ls[j] = l at *
      clear hv
      obtain ⟨A, c, rfl, h1, h2⟩ := hsb.len
      have HC := Lib.hid hsb.cells; clear hsb
      have hll : l.length ≤ 9223372036854775807 := by unfold maxLen at h2; omega
      clear h1 h2
      by_cases hs : 200 < l.length
      · have HD := Lib.hid (HFN.out (by rw [decide_eq_false (by omega)]; rfl))
        go_wp2
        go_ret
        exact ⟨by rw [HD.out]; rfl, rfl⟩
      · go_wp2_with fail
        go_loop [18] (fun i => ∃ q : Nat, q ≤ l.length ∧ i = .int .i64 q ∧ Hid ((l.take q).all (fun x => decide (x.size ≤ 200)) = true)) (fun i => l.length - (intOf i).toNat)
        case atStart => exact ⟨0, Nat.zero_le _, rfl, rfl⟩
        case round =>
          obtain ⟨q, hq, rfl, HQ⟩ := hrel
          by_cases hql : q < l.length
          · obtain ⟨b, off, rfl, hb, hcell⟩ := HC.out (by omega)
            have e2 := hcell q hql
            have hq' : (q : Int) < (l.length : Int) := by omega
            have hTq := take_succ_list l q hql
            by_cases hsz : 200 < l[q].size
            · have HD := Lib.hid (HFN.out (by
                rw [Bool.and_eq_false_iff]; right
                rw [List.all_eq_false]
                exact ⟨l[q], List.getElem_mem _, by rw [decide_eq_true_iff]; omega⟩))
              generalize l[q] = x at *
              clear hcell hTq
              go_wp2
              go_ret
              exact ⟨by rw [HD.out]; rfl, rfl⟩
            · have HQ2 : Hid ((l.take (q + 1)).all (fun x => decide (x.size ≤ 200)) = true) := by
                unfold Hid; rw [hTq, List.all_append, HQ.out]
                simp; omega
              generalize l[q] = x at *
              clear hcell hTq
              go_wp2
              go_round
              case rel => exact ⟨q + 1, by omega, by go_num, HQ2.out⟩
              case measure => simp [intOf]; omega
          · have HQ2 : Hid (fewL (ls.take (j + 1)) = true) := by
              unfold Hid; rw [HF.out, decide_eq_true (by omega), Bool.true_and]
              have := HQ.out
              rwa [List.take_of_length_le (by omega)] at this
            go_wp2
            go_round
            case rel => exact ⟨j + 1, by omega, by go_num, HQ2.out⟩
            case measure => simp [intOf]; omega
    · obtain rfl : j = ls.length := by omega
      rw [List.take_length] at HT
      go_wp2
      go_ret
      exact ⟨by rw [HT.out]; rfl, rfl⟩
end Go.Proofs.Ytjbnkheghafgoaa
