/- siloref03.Scan, siloref03.Same: their walks. -/
import Derived.Test.YtbamekfebfcleaaFrameScan
import Derived.Deep.QuietTactic
import Derived.BigQuiet
namespace Go.Proofs.Ytbamekfebfcleaa
open Go.RowKit
set_option linter.unusedVariables false
theorem owns_below {w w' : World} {B t k n : Nat} {v : Value} {l : List Value} (h : w.ownsRow B t k v n l) (hb : Below w.heap.size w w') : w'.ownsRow B t k v n l := by
  refine h.kept (only_of_below hb none) ?_
  rcases h.2 with ⟨rfl, _⟩ | ⟨g, cap, cur, rfl, _⟩
  · exact .inl rfl
  · exact .inr (by simp [Value.ownBlock])
def sameB (a b : List ByteArray) : Bool := decide (a = b)
theorem sameB_self (a : List ByteArray) : sameB a a = true := by simp [sameB]
theorem str_beq_ne {a b : ByteArray} (h : a ≠ b) : (a.toList == b.toList) = false := by
  rw [beq_eq_false_iff_ne, ByteArray.toList_eq, ByteArray.toList_eq]
  intro e
  exact h (ByteArray.ext (Array.toList_inj.1 e))
theorem str_beq_self (a : ByteArray) : (a.toList == a.toList) = true := by simp
set_option maxRecDepth 20000 in
set_option maxHeartbeats 1000000 in
theorem same_any (w : World) (va vb : Value) (la lb : List ByteArray) (ha : StrsB w va la) (hb : StrsB w vb lb) :
    Calls Try.prog 45 #[va, vb] w fun e w' => e = .returned (.bool (sameB la lb)) ∧ ∃ n, w' = w.drewN n := by
  by_cases hl : la.length = lb.length
  · by_cases h0 : la.length = 0
    · have h0' : lb.length = 0 := by omega
      have ea := List.length_eq_zero_iff.1 h0
      have eb := List.length_eq_zero_iff.1 h0'
      subst ea; subst eb
      have HS : Hid (sameB [] [] = true) := sameB_self _
      obtain ⟨A, c, rfl, hc⟩ := ha.nil
      obtain ⟨A', c', rfl, hc'⟩ := hb.nil
      clear hl h0 h0' ha hb
      go_enter Try.func45, Try.ntmps45
      go_wp2
      refine wp_loop_rounds 1 ?_
      rw [rounds_succ]
      go_wp2
      go_ret
      exact ⟨by rw [HS.out]; rfl, 0, rfl⟩
    · obtain ⟨b, off, c, rfl, hc1, hc2, hlt, hca⟩ := ha.at (by omega)
      obtain ⟨b', off', c', rfl, hc1', hc2', hlt', hcb⟩ := hb.at (by omega)
      have HA := Lib.hid hca; clear hca
      have HB := Lib.hid hcb; clear hcb
      have hz : ((la.length : Int) != (lb.length : Int)) = false := by rw [bne_eq_false_iff_eq]; omega
      have HL := Lib.hid hl
      have hl1 : la.length ≤ lb.length := by omega
      have hl2 : lb.length ≤ la.length := by omega
      clear ha hb h0 hl
      have hm : la.length ≤ 9223372036854775807 := by unfold maxLen at hc2; omega
      clear hc1 hc2 hc1' hc2'
      go_enter Try.func45, Try.ntmps45
      go_wp2
      go_loopw [5] (fun i wr => ∃ k : Nat, k ≤ la.length ∧ i = .int .i64 k ∧ Hid (la.take k = lb.take k) ∧ Hid (∃ m, wr = w.drewN m)) (fun i _ => la.length - (intOf i).toNat)
      case atStart => exact ⟨0, Nat.zero_le _, rfl, rfl, 0, rfl⟩
      case round =>
        obtain ⟨k, hk, rfl, HT, HW⟩ := hrel
        by_cases hlt2 : k < la.length
        · have hlt3 : k < lb.length := by omega
          have e1 : wr.cell? ⟨b, off + k, none⟩ = some (.string la[k]) := by obtain ⟨m, rfl⟩ := HW.out; exact HA.out k hlt2
          have e2 : wr.cell? ⟨b', off' + k, none⟩ = some (.string lb[k]) := by obtain ⟨m, rfl⟩ := HW.out; exact HB.out k hlt3
          by_cases hq : la[k] = lb[k]
          · have HT2 : Hid (la.take (k + 1) = lb.take (k + 1)) := by
              unfold Hid; rw [take_succ_list _ _ hlt2, take_succ_list _ _ hlt3, HT.out, hq]
            rw [← hq] at e2
            have hs := str_beq_self la[k]
            generalize la[k] = x at *
            clear hq
            go_wp2_with fail
            go_quiet (fail)
            go_wp2_with fail
            go_roundw
            case rel => exact ⟨k + 1, by omega, by go_num, HT2, by obtain ⟨m, rfl⟩ := HW.out; exact ⟨_, World.drewN_drewN _ _ _⟩⟩
            case measure => simp [intOf]; omega
          · have HS : Hid (sameB la lb = false) := by
              unfold Hid sameB; rw [decide_eq_false_iff_not]; intro e; exact hq (by subst e; rfl)
            have hs := str_beq_ne hq
            generalize la[k] = x at *
            generalize lb[k] = y at *
            clear hq
            go_wp2_with fail
            go_quiet (fail)
            go_wp2_with fail
            go_ret
            exact ⟨by rw [HS.out]; rfl, by obtain ⟨m, rfl⟩ := HW.out; exact ⟨_, World.drewN_drewN _ _ _⟩⟩
        · have HS : Hid (sameB la lb = true) := by
            unfold Hid sameB
            rw [decide_eq_true_iff]
            have h := HT.out
            rw [List.take_of_length_le (by omega), List.take_of_length_le (by omega)] at h
            exact h
          go_wp2_with fail
          go_ret
          exact ⟨by rw [HS.out]; rfl, HW.out⟩
  · have HS : Hid (sameB la lb = false) := by
      unfold Hid sameB; rw [decide_eq_false_iff_not]; intro e; exact hl (by rw [e])
    obtain ⟨A, c, rfl, hc1, hc2⟩ := ha.len
    obtain ⟨A', c', rfl, hc1', hc2'⟩ := hb.len
    have hz : ((la.length : Int) != (lb.length : Int)) = true := by rw [bne_iff_ne]; omega
    clear ha hb hl
    go_enter Try.func45, Try.ntmps45
    go_wp2
    go_ret
    exact ⟨by rw [HS.out]; rfl, 0, rfl⟩
set_option maxRecDepth 20000 in
set_option maxHeartbeats 2000000 in
theorem refScan_any (s : ByteArray) (hs : s.size ≤ 1000000000) (w : World) :
    Calls Try.prog 42 #[.string s] w fun e W' => ∃ v, e = .returned (.tuple #[v, .int .i64 (fEnd (fPairs s.data.toList) : Nat)]) ∧ W'.ownsRow w.heap.size 9 1 v (fPairs s.data.toList).length ((fTexts (fPairs s.data.toList)).map .string) ∧ Below w.heap.size w W' := by
  obtain ⟨i0, hi, hz0, hz1, hz2⟩ := info_parts strInfo
  go_enter Try.func42, Try.ntmps42
  go_wp2
  go_loopw [4, 5] (fun v i wr => ∃ (k m : Nat) (ds : List (ByteArray × Nat)), (k ≤ s.size ∧ s.size ≤ k + m ∧ ds.length ≤ k) ∧ i = .int .i64 k ∧ Hid (fPairs s.data.toList = ds ++ fRest m k s.data.toList) ∧ Hid (fEnd ds = k) ∧ wr.ownsRow w.heap.size 9 1 v ds.length ((fTexts ds).map .string) ∧ Hid (Below w.heap.size w wr)) (fun _ i _ => s.size - (intOf i).toNat)
  case atStart => exact ⟨0, s.size, [], ⟨Nat.zero_le _, by omega, Nat.le_refl _⟩, rfl, by unfold Hid fPairs; simp, rfl, World.ownsRow_nil _ _ _ _, Below.refl _ _⟩
  case round =>
    obtain ⟨k, m, ds, ⟨hk, hm, hd⟩, rfl, HV, HE0, hown, HW⟩ := hrel
    have hlen : s.data.toList.length = s.size := by simp
    by_cases hks : k < s.size
    · obtain ⟨m, rfl⟩ : ∃ q, m = q + 1 := ⟨m - 1, by omega⟩
      have ho := fun w => refOpen_any (s.extract k s.size) (by simp; omega) w
      rw [extract_to] at ho
      obtain ⟨hle, hle2⟩ := fOpen_le (s.data.toList.drop k)
      have HR : Hid (fRest (m + 1) k s.data.toList = if (fOpen (s.data.toList.drop k)).2.2 ≠ 0 then [] else (⟨(fOpen (s.data.toList.drop k)).1.toArray⟩, k + (fOpen (s.data.toList.drop k)).2.1) :: fRest m (k + (fOpen (s.data.toList.drop k)).2.1) s.data.toList) := by
        unfold Hid; rw [fRest, if_neg (by omega)]
      rw [List.length_drop, hlen] at hle
      generalize fOpen (s.data.toList.drop k) = r at *
      obtain ⟨t, n', e'⟩ := r
      dsimp only at *
      have HO := Lib.hid ho; clear ho hlen
      by_cases he : e' = 0
      · subst he
        obtain ⟨hn1, hn2⟩ := hle rfl
        have HE : Hid (fPairs s.data.toList = (ds ++ [((⟨t.toArray⟩ : ByteArray), k + n')]) ++ fRest m (k + n') s.data.toList) := by
          unfold Hid; rw [HV.out, HR.out]; simp
        have HE1 : Hid (fEnd (ds ++ [((⟨t.toArray⟩ : ByteArray), k + n')]) = k + n') := fEnd_snoc _ _
        have HT : Hid ((fTexts (ds ++ [((⟨t.toArray⟩ : ByteArray), k + n')])).map Value.string = (fTexts ds).map Value.string ++ [Value.string ⟨t.toArray⟩]) := by simp [Hid, fTexts]
        clear hle hle2 HR
        go_wp2_with fail
        refine (HO.out _).mono ?_
        rintro e W1 ⟨rfl, b1⟩
        have hown1 := owns_below hown b1
        have HW1 := Lib.hid (HW.out.trans (b1.mono HW.out.size))
        have hsz := HW1.out.size
        clear hown b1
        go_wp2_with (at_builtin; refine wpList_append_own _ rfl _ _ 57 rfl w.heap.size 9 i0 (.string ByteArray.empty) 1 16 Try.underlying57 hi hz0 hz1 hz2 rfl (by decide) _ _ _ rfl (hown1.alloc _) ⟨W1.heap.size, 0, none⟩ 1 1 [.string ⟨t.toArray⟩] rfl rfl ?c1 ?c2 ?c3 ?c4 ?c5 ?_)
        case c1 =>
          intro j u hj
          match j, hj with
          | 0, hj => simp at hj; subst hj; simp [Addr.add]
        case c2 => intro u hu; simp at hu; subst hu; rfl
        case c3 => unfold maxLen; omega
        case c4 => omega
        case c5 => simp; omega
        intro v' w2 hown2 hgrow2 _
        have HW2 : Hid (Below w.heap.size w w2) := (HW1.out.alloc hsz _).grown hgrow2 (by simp; omega) (fun k hk => (hown1.lt k hk).1)
        clear hown1 hgrow2
        go_wp2
        go_roundw
        case rel => exact ⟨k + n', m, _, ⟨by omega, by omega, by simp; omega⟩, by go_num, HE, HE1, by rw [HT.out]; simpa using hown2, HW2⟩
        case measure => simp [intOf]; omega
      · have HE : Hid (fPairs s.data.toList = ds) := by unfold Hid; rw [HV.out, HR.out, if_pos he]; simp
        have he' : ((e' : Int) != 0) = true := by simp; omega
        obtain ⟨rfl, rfl⟩ := hle2 he
        clear hle HR
        go_wp2_with fail
        refine (HO.out _).mono ?_
        rintro e W1 ⟨rfl, b1⟩
        have hown1 := owns_below hown b1
        have HW1 := Lib.hid (HW.out.trans (b1.mono HW.out.size))
        clear hown b1
        go_wp2
        go_ret2
        exact ⟨_, by rw [HE.out, HE0.out]; rfl, by rw [HE.out]; exact hown1, HW1.out⟩
    · have HE : Hid (fPairs s.data.toList = ds) := by
        unfold Hid; rw [HV.out]
        cases m with
        | zero => simp [fRest]
        | succ m => rw [fRest, if_pos (by omega)]; simp
      go_wp2
      go_ret2
      exact ⟨_, by rw [HE.out, HE0.out]; rfl, by rw [HE.out]; exact hown, HW.out⟩
end Go.Proofs.Ytbamekfebfcleaa
