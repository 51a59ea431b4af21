/- frame.Open, frame.all: the iterator's contract. -/
import Derived.Test.YteidlngffikboaaFrameOpen
import Derived.Test.YteidlngffikboaaVarintIter
import Derived.Test.YteidlngffikboaaStrs
import Derived.RangeFuncBox
namespace Go.Proofs.Yteidlngffikboaa
open Go.RowKit Go.Shelf
attribute [local go_sem] Oper.semAt_some
set_option linter.unusedVariables false
/-- the frames that bytes have from a place on: texts, and where each one's frame ends -/
def fRest : Nat → Nat → List UInt8 → List (ByteArray × Nat)
  | 0, _, _ => []
  | n + 1, k, s => if s.length ≤ k then [] else if (fOpen (s.drop k)).2.2 ≠ 0 then [] else (⟨(fOpen (s.drop k)).1.toArray⟩, k + (fOpen (s.drop k)).2.1) :: fRest n (k + (fOpen (s.drop k)).2.1) s
theorem all_any (s : ByteArray) (w : World) : Calls Try.prog 55 #[.string s] w fun e w' => e = .returned (.func (.func 80) #[] #[.pointer (some ⟨w.heap.size, 0, none⟩)]) ∧ w.alloc (.cells #[.string s] 9) = w' := by
  go_enter Try.func55, Try.ntmps55
  go_wp2
  go_ret
  exact ⟨rfl, rfl⟩
def fPairs (s : List UInt8) : List (ByteArray × Nat) := fRest s.length 0 s
def fEnc (x : ByteArray × Nat) : Array Value := #[.string x.1, .int .i64 x.2]
theorem fOpen_le (s : List UInt8) : ((fOpen s).2.2 = 0 → (fOpen s).2.1 ≤ s.length ∧ 5 ≤ (fOpen s).2.1) ∧ ((fOpen s).2.2 ≠ 0 → (fOpen s).2.1 = 0 ∧ (fOpen s).1 = []) := by
  unfold fOpen
  split
  · rename_i h; exact ⟨fun h' => absurd h' h, fun _ => ⟨rfl, rfl⟩⟩
  · rename_i h
    have h0 : (vTakeText s).2.2 = 0 := by omega
    split
    · exact ⟨fun h' => absurd h' (by simp), fun _ => ⟨rfl, rfl⟩⟩
    · split
      · exact ⟨fun h' => absurd h' (by simp), fun _ => ⟨rfl, rfl⟩⟩
      · rename_i h1 h2
        refine ⟨fun _ => ⟨by show (vTakeText s).2.1 + 4 ≤ _; omega, ?_⟩, fun h' => absurd rfl h'⟩
        have := (vTakeText_pos s h0)
        show 5 ≤ (vTakeText s).2.1 + 4
        omega
theorem extract_to (s : ByteArray) (k : Nat) : (s.extract k s.size).data.toList = s.data.toList.drop k := by
  rw [Lib.extract_data]
  rw [List.take_of_length_le (by simp)]
theorem only_of_below {a w : World} (h : Below a.heap.size a w) (row : Option Nat) : a.grownBy w row := ⟨h.os, h.tape, h.output, h.size, fun i hi _ => h.block i hi⟩
set_option maxRecDepth 100000 in
set_option maxHeartbeats 2000000 in
theorem all1_stops (n : Nat) (hn : 1 ≤ n) (Bn : Nat) (s : ByteArray) (hs : s.size ≤ 140737488351232) (w : World) (hBn : w.cell? ⟨Bn, 0, none⟩ = some (.string s)) (hlt : Bn < w.heap.size) :
    SeqStopsK Fence.wide n Try.prog 80 #[.pointer (some ⟨Bn, 0, none⟩)] fEnc (KpCell Bn (.string s)) (fun xs => xs = fPairs s.data.toList) (fun pre => True) (s.size + 1) w := fun l J Jx W hW hJ hJx hY h0 => by
  have hcW : W.cell? ⟨Bn, 0, none⟩ = some (.string s) := (hW.cell (p := ⟨Bn, 0, none⟩) (by simpa using hlt)).trans hBn
  have hlW : Bn < W.heap.size := Nat.lt_of_lt_of_le hlt hW.size
  refine callsIn_of_wp Try.func80 rfl trivial ?_ rfl
  simp only [Try.ntmps80, List.size_toArray, List.length_cons, List.length_nil, Nat.reduceAdd, Nat.reduceSub, Array.replicate_succ, Array.replicate_zero, List.push_toArray, List.append_toArray, List.nil_append, List.cons_append]
  gi_wp2
  gi_loopw [3] (fun i wr => ∃ (k m : Nat) (ds : List (ByteArray × Nat)), (k ≤ s.size ∧ s.size ≤ k + m ∧ ds.length ≤ k) ∧ i = .int .i64 k ∧ Hid (fPairs s.data.toList = ds ++ fRest m k s.data.toList) ∧ J ds wr ∧ wr.cell? ⟨Bn, 0, none⟩ = some (.string s) ∧ Bn < wr.heap.size) (fun i _ => s.size - (intOf i).toNat)
  case atStart => exact ⟨0, s.size, [], ⟨Nat.zero_le _, by omega, Nat.le_refl _⟩, rfl, by unfold Hid fPairs; simp, h0, hcW, hlW⟩
  case round =>
    obtain ⟨k, m, ds, ⟨hk, hm, hd⟩, rfl, HV, hJs, hcell, hsz⟩ := hrel
    have hlen : s.data.toList.length = s.size := by simp
    by_cases hks : k < s.size
    · obtain ⟨m, rfl⟩ : ∃ q, m = q + 1 := ⟨m - 1, by omega⟩
      have ho := open_any (s.extract k s.size) (by simp; omega)
      rw [extract_to] at ho
      obtain ⟨hle, hle2⟩ := fOpen_le (s.data.toList.drop k)
      have HR : Hid (fRest (m + 1) k s.data.toList = if (fOpen (s.data.toList.drop k)).2.2 ≠ 0 then [] else (⟨(fOpen (s.data.toList.drop k)).1.toArray⟩, k + (fOpen (s.data.toList.drop k)).2.1) :: fRest m (k + (fOpen (s.data.toList.drop k)).2.1) s.data.toList) := by
        unfold Hid; rw [fRest, if_neg (by omega)]
      rw [List.length_drop, hlen] at hle
      generalize fOpen (s.data.toList.drop k) = r at *
      obtain ⟨t, n', e'⟩ := r
      dsimp only at *
      have HO := Lib.hid ho; clear ho hlen
      by_cases he : e' = 0
      · subst he
        obtain ⟨hn1, hn2⟩ := hle rfl
        have HE : Hid (fPairs s.data.toList = (ds ++ [((⟨t.toArray⟩ : ByteArray), k + n')]) ++ fRest m (k + n') s.data.toList) := by
          unfold Hid; rw [HV.out, HR.out]; simp
        clear hle hle2 HR
        gi_wp2_with fail
        refine ⟨trivial, (callsIn_wide.2 (HO.out _)).mono ?_⟩
        rintro e W1 ⟨rfl, b1⟩
        have hJ1 := hJ ds _ W1 none hJs (only_of_below b1 none) (fun r e => by cases e)
        have hc1 := (b1.cell (p := ⟨Bn, 0, none⟩) hsz).trans hcell
        have hz1 := Nat.lt_of_lt_of_le hsz b1.size
        obtain ⟨fn, tmps, assign, body, hy, hR⟩ := hY ds (⟨t.toArray⟩, k + n') W1 hJ1 (by omega)
        dsimp only [fEnc] at hy
        rw [Int.natCast_add] at hy
        gi_wp2
        refine hR.mono ?_
        rintro e W3 (⟨rfl, hJ3, hk3⟩ | ⟨rfl, hJx3⟩)
        · have hcell3 : W3.cell? ⟨Bn, 0, none⟩ = some (.string s) := hk3 hc1
          have hz3 : Bn < W3.heap.size := by
            refine Decidable.byContradiction fun hh => ?_
            simp [World.cell?, Array.getElem?_eq_none (Nat.le_of_not_lt hh)] at hcell3
          gi_wp2
          go_roundw
          case rel => exact ⟨k + n', m, _, ⟨by omega, by omega, by simp; omega⟩, by go_num, HE, hJ3, hcell3, hz3⟩
          case measure => simp [intOf]; omega
        · gi_wp2
          refine bodyPost_ret (results_none rfl _ _ _) rfl ?_
          exact ⟨⟨_, rfl⟩, .inr ⟨_, trivial, hJx3⟩⟩
      · have HE : Hid (fPairs s.data.toList = ds) := by unfold Hid; rw [HV.out, HR.out, if_pos he]; simp
        have he' : ((e' : Int) != 0) = true := by simp; omega
        obtain ⟨rfl, rfl⟩ := hle2 he
        clear hle HR
        gi_wp2_with fail
        refine ⟨trivial, (callsIn_wide.2 (HO.out _)).mono ?_⟩
        rintro e W1 ⟨rfl, b1⟩
        have hJ1 := hJ ds _ W1 none hJs (only_of_below b1 none) (fun r e => by cases e)
        have hc1 := (b1.cell (p := ⟨Bn, 0, none⟩) hsz).trans hcell
        gi_wp2
        refine ⟨fun f h => (by cases h), ?_⟩
        gi_wp2
        refine bodyPost_ret (results_none rfl _ _ _) rfl ?_
        exact ⟨⟨_, rfl⟩, .inl ⟨_, rfl, by rw [HE.out]; exact hJ1⟩⟩
    · have HE : Hid (fPairs s.data.toList = ds) := by
        unfold Hid; rw [HV.out]
        cases m with
        | zero => simp [fRest]
        | succ m => rw [fRest, if_pos (by omega)]; simp
      gi_wp2
      go_end0
      exact ⟨⟨_, rfl⟩, .inl ⟨_, rfl, by rw [HE.out]; exact hJs⟩⟩
end Go.Proofs.Yteidlngffikboaa
