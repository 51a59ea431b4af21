/- varint.groups: its iterator's contract. -/
import Derived.RangeFuncFrom
import Derived.RangeFuncNested
import Derived.RangeFuncBound
import Derived.RangeFuncCalls
import Derived.RangeFuncLeaves
import Derived.Shelf.Abstract
import Derived.Shelf.RegionOpen
import Derived.WalkKit
import Derived.OwnWalkIn
import Derived.TacticsInMore
import Derived.LoopNIn
import Derived.LoopIn
import Derived.Lib.Hide
import Derived.IntWalk
import Derived.Test.YtjgjhjecgdndjaaWords
import Derived.Test.YtjgjhjecgdndjaaVarintSpec
import Derived.Test.YtjgjhjecgdndjaaProg
namespace Go.Proofs.Ytjgjhjecgdndjaa
open Go.RowKit Go.Shelf
attribute [local go_sem] Oper.semAt_some
theorem groups_in (F : Fence) (n : Nat) (h51 : F.fn 41) (hro : F.round = none) (s : ByteArray) (w : World) :
    CallsIn F n Try.prog 41 #[.string s] w fun e w' => e = .returned (.func (.func 59) #[] #[.pointer (some ⟨w.heap.size, 0, none⟩)]) ∧ w.alloc (.cells #[.string s] 9) = w' := by
  refine callsIn_of_wp Try.func41 rfl h51 ?_ hro
  simp only [Try.ntmps41, List.size_toArray, List.length_cons, List.length_nil, Nat.reduceAdd, Nat.reduceSub, Array.replicate_succ, Array.replicate_zero, List.push_toArray, List.append_toArray, List.nil_append, List.cons_append]
  gi_wp2
  go_ret
  exact ⟨rfl, rfl⟩
/-- what a round keeps: a box's cell -/
def KpCell (b : Nat) (v : Value) (W W' : World) : Prop := W.cell? ⟨b, 0, none⟩ = some v → W'.cell? ⟨b, 0, none⟩ = some v
theorem kpCell_t {b : Nat} {v : Value} {A B C : World} (h : KpCell b v A B) (k : KpCell b v B C) : KpCell b v A C := fun x => k (h x)
theorem kpCell_b {b : Nat} {v : Value} (W : World) (l : Nat) (o o' : Obj) (h : W.heap[l]? = some o) (hc : o.isCells = false) : KpCell b v W (W.putObj l o') := fun hcell => by
  exact cell_kept hcell (grownBy_putObj' W l o') (fun r e => by cases e; exact ⟨o, h, hc⟩)
theorem kpCell_set {b : Nat} {v : Value} (W : World) (b' : Nat) (u : Value) (hne : b ≠ b') : KpCell b v W (W.setCell ⟨b', 0, none⟩ u) := fun h => by
  rw [World.cell?_setCell_other W ⟨b', 0, none⟩ ⟨b, 0, none⟩ u (by intro e; injection e with e; exact hne (by omega))]; exact h
def gEnc (c : UInt8) : Array Value := #[.int .u64 ((c.toNat : Int) % 128), .bool (decide ((c.toNat : Int) < 128))]
theorem u8_and127 (c : UInt8) : bits .and .u8 (c.toNat : Int) (127 : Int) = (c.toNat : Int) % 128 := by
  rw [u8_and _ _ (by omega) (by have := c.toNat_lt; omega) (by decide) (by decide)]
  simp [nat_mask7]
theorem drop_cons (s : ByteArray) (k : Nat) (h : k < s.size) : s.data.toList.drop k = s[k] :: s.data.toList.drop (k + 1) := by
  rw [List.drop_eq_getElem_cons (by simpa using h)]; rfl
set_option maxRecDepth 100000 in
set_option maxHeartbeats 2000000 in
theorem groups1_stops (F : Fence) (n : Nat) (h54 : F.fn 59) (hro : F.round = none) (hn : 1 ≤ n) (Bn : Nat) (s : ByteArray) (hs : s.size ≤ maxLen) (w : World) (hBn : w.cell? ⟨Bn, 0, none⟩ = some (.string s)) (hlt : Bn < w.heap.size) :
    SeqStopsK F n Try.prog 59 #[.pointer (some ⟨Bn, 0, none⟩)] gEnc (KpCell Bn (.string s)) (fun xs => xs = vAll 10 s.data.toList) (fun pre => pre <+: vAll 10 s.data.toList) 10 w := fun l J Jx W hW hJ hJx hY h0 => by
  have hcW : W.cell? ⟨Bn, 0, none⟩ = some (.string s) := (hW.cell (p := ⟨Bn, 0, none⟩) (by simpa using hlt)).trans hBn
  unfold maxLen at hs
  by_cases h10 : s.size ≤ 10
  all_goals
    refine callsIn_of_wp Try.func59 rfl h54 ?_ hro
    simp only [Try.ntmps59, List.size_toArray, List.length_cons, List.length_nil, Nat.reduceAdd, Nat.reduceSub, Array.replicate_succ, Array.replicate_zero, List.push_toArray, List.append_toArray, List.nil_append, List.cons_append]
    gi_wp2
    gi_loopw [3, 4, 8] (fun _ _ i wr => ∃ k : Nat, (k ≤ s.size ∧ k ≤ 10) ∧ i = .int .i64 k ∧ Hid (vAll 10 s.data.toList = s.data.toList.take k ++ vAll (10 - k) (s.data.toList.drop k)) ∧ J (s.data.toList.take k) wr ∧ wr.cell? ⟨Bn, 0, none⟩ = some (.string s)) (fun _ _ i _ => 10 - (intOf i).toNat)
    case atStart => exact ⟨0, ⟨Nat.zero_le _, Nat.zero_le _⟩, rfl, by simp [Hid], by simpa using h0, hcW⟩
    case round =>
      obtain ⟨k, ⟨hk, hk10⟩, rfl, HV, hJs, hcell⟩ := hrel
      by_cases hlt2 : k < s.size ∧ k < 10
      · obtain ⟨hks, hk1⟩ := hlt2
        have HT := Lib.hid (take_snoc s k hks)
        have HD := Lib.hid (drop_cons s k hks)
        have hb := u8_and127 s[k]
        have hc8 := s[k].toNat_lt
        have hlen : (s.data.toList.take k).length < 10 := by rw [List.length_take]; omega
        obtain ⟨fn, tmps, assign, body, hy, hR⟩ := hY (s.data.toList.take k) s[k] wr hJs hlen
        dsimp only [gEnc] at hy
        have HP : Hid (s.data.toList.take k ++ [s[k]] <+: vAll 10 s.data.toList) := by
          unfold Hid
          rw [HV.out, HD.out]
          obtain ⟨m, hm⟩ : ∃ m, 10 - k = m + 1 := ⟨9 - k, by omega⟩
          rw [hm, vAll]
          split
          · exact List.prefix_refl _
          · exact ⟨vAll m (List.drop (k + 1) s.data.toList), by simp⟩
        by_cases hc : s[k].toNat < 128
        · have HE : Hid (s.data.toList.take k ++ [s[k]] = vAll 10 s.data.toList) := by
            unfold Hid
            rw [HV.out, HD.out]
            obtain ⟨m, hm⟩ : ∃ m, 10 - k = m + 1 := ⟨9 - k, by omega⟩
            rw [hm, vAll, if_pos hc]
          gi_wp2
          refine hR.mono ?_
          rintro e W3 (⟨rfl, hJ3, hk3⟩ | ⟨rfl, hJx3⟩)
          · have hcell3 : W3.cell? ⟨Bn, 0, none⟩ = some (.string s) := hk3 hcell
            gi_wp2
            refine bodyPost_ret (results_none rfl _ _ _) rfl ?_
            exact ⟨⟨_, rfl⟩, .inl ⟨_, HE.out, hJ3⟩⟩
          · gi_wp2
            refine bodyPost_ret (results_none rfl _ _ _) rfl ?_
            exact ⟨⟨_, rfl⟩, .inr ⟨_, HP.out, hJx3⟩⟩
        · have HE : Hid (vAll 10 s.data.toList = s.data.toList.take (k + 1) ++ vAll (10 - (k + 1)) (s.data.toList.drop (k + 1))) := by
            unfold Hid
            rw [HT.out]
            rw [HV.out, HD.out]
            obtain ⟨m, hm⟩ : ∃ m, 10 - k = m + 1 := ⟨9 - k, by omega⟩
            rw [hm, show 10 - (k + 1) = m by omega]
            exact vAll_step _ _ _ (by omega) _
          gi_wp2
          refine hR.mono ?_
          rintro e W3 (⟨rfl, hJ3, hk3⟩ | ⟨rfl, hJx3⟩)
          · have hcell3 : W3.cell? ⟨Bn, 0, none⟩ = some (.string s) := hk3 hcell
            gi_wp2
            go_roundw
            case rel => exact ⟨k + 1, by omega, by go_num, HE, by rw [HT.out]; exact hJ3, hcell3⟩
            case measure => simp [intOf]; omega
          · gi_wp2
            refine bodyPost_ret (results_none rfl _ _ _) rfl ?_
            exact ⟨⟨_, rfl⟩, .inr ⟨_, HP.out, hJx3⟩⟩
      · have HE : Hid (vAll 10 s.data.toList = s.data.toList.take k) := by
          unfold Hid
          rw [HV.out]
          by_cases hks : k < s.size
          · rw [show 10 - k = 0 by omega]; simp [vAll]
          · rw [List.drop_of_length_le (by simp; omega)]
            cases 10 - k <;> simp [vAll]
        gi_wp2
        go_end0
        exact ⟨⟨_, rfl⟩, .inl ⟨_, rfl, by rw [HE.out]; exact hJs⟩⟩
end Go.Proofs.Ytjgjhjecgdndjaa
