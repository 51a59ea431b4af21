/- Join and Sum: their walks. -/
import Derived.Test.YtkbpkodakfknoaaShaSum
import Derived.Test.YtkbpkodakfknoaaArgs
namespace Go.Proofs.Ytkbpkodakfknoaa
open Go.RowKit
set_option linter.unusedVariables false
/-- the slice v holds the texts l -/
def Texts (w : World) (A : Option Addr) (l : List ByteArray) : Prop :=
  0 < l.length → ∃ b off, A = some ⟨b, off, none⟩ ∧ b < w.heap.size ∧ ∀ j, j < l.length → w.cell? ⟨b, off + j, none⟩ = (l[j]?).map .string
theorem Texts.below {w w' : World} {A : Option Addr} {l : List ByteArray} (h : Texts w A l) (hb : Below w.heap.size w w') : Texts w' A l := fun hl => by
  obtain ⟨b, off, e1, e2, e3⟩ := h hl
  exact ⟨b, off, e1, Nat.lt_of_lt_of_le e2 hb.size, fun j hj => (hb.cell (p := ⟨b, off + j, none⟩) e2).trans (e3 j hj)⟩
def S0 : St := ⟨fun i => shaFirst.getD i 0, 0, fun _ => 0⟩
def C73 : Array Value := cellsOf 8 (fun i => shaFirst.getD i 0) ++ #[.int .u64 0] ++ bytesOf 64 (fun _ => 0)
theorem C73_get (j : Nat) : C73[j]? = if j < 8 then (cellsOf 8 (fun i => shaFirst.getD i 0))[j]? else if j = 8 then some (.int .u64 0) else (bytesOf 64 (fun _ => 0))[j - 9]? := by
  unfold C73
  rw [Array.getElem?_append, Array.getElem?_append]
  simp only [Array.size_append, cellsOf_size, List.size_toArray, List.length_cons, List.length_nil]
  by_cases h1 : j < 8
  · rw [if_pos (by omega), if_pos h1, if_pos h1]
  · rw [if_neg h1, if_neg h1]
    by_cases h2 : j = 8
    · subst h2; rfl
    · rw [if_neg (by omega), if_neg h2]
theorem C73_size : C73.size = 73 := by simp [C73, cellsOf_size, bytesOf_size]
theorem feed_new (w : World) : FeedS (w.alloc (.cells C73 109)) w.heap.size S0 := by
  have hh : (w.alloc (.cells C73 109)).heap[w.heap.size]? = some (.cells C73 109 (0, 0)) := by
    show (w.heap.push _)[w.heap.size]? = _
    simp
  have hc : ∀ j, (w.alloc (.cells C73 109)).cell? ⟨w.heap.size, j, none⟩ = C73[j]? := fun j => Lib.cell_of_heap hh j
  refine ⟨fun j v hj => ?_, ?_, fun j v hj => ?_, fun j hj => ⟨?_, ?_⟩⟩
  · have h8 : j < 8 := by
      have := (List.getElem?_eq_some_iff.1 hj).1
      rw [Array.length_toList, cellsOf_size] at this; exact this
    rw [hc, Nat.zero_add, C73_get, if_pos h8]
    rw [← Array.getElem?_toList]; exact hj
  · rw [hc, C73_get]; rfl
  · rw [hc, C73_get, if_neg (by omega), if_neg (by omega), show 9 + j - 9 = j by omega]
    rw [← Array.getElem?_toList]; exact hj
  · rw [Nat.zero_add, hc, Array.getElem?_eq_getElem (by rw [C73_size]; exact hj)]; rfl
  · exact Lib.frozen_of_heap hh _
def allT (l : List ByteArray) : List UInt8 := l.flatMap (·.data.toList)
def shaSum (l : List UInt8) : ByteArray := ⟨(hUp (sumS (feedL S0 l)).f 8).toArray⟩
theorem below_grown {w wr w' : World} {p : Nat} (h : Below w.heap.size w wr) (g : wr.grownBy w' (some p)) (hp : w.heap.size ≤ p) : Below w.heap.size w w' :=
  ⟨g.os.trans h.os, g.tape.trans h.tape, g.output.trans h.output, Nat.le_trans h.size g.size, fun i hi => (g.block i (Nat.lt_of_lt_of_le hi h.size) (by simp; omega)).trans (h.block i hi)⟩
set_option maxRecDepth 20000 in
set_option maxHeartbeats 8000000 in
theorem join_any (A : Option Addr) (c : Nat) (l : List ByteArray) (w : World) (hA : Texts w A l) (hl : (allT l).length ≤ 100000000000) (hll : l.length ≤ 100000000000) :
    Calls Try.prog 59 #[.slice A l.length c] w fun e w' => e = .returned (.string (shaSum (allT l))) ∧ Below w.heap.size w w' := by
  have HA := Lib.hid hA; clear hA
  go_enter Try.func59, Try.ntmps59
  go_wp2_with fail
  refine (first_any _).mono ?_
  rintro e w1 ⟨rfl, b1⟩
  rw [← lit8]
  go_wp2_with (refine wpList_build_to rfl 109 _ rfl C73 (by kernel_rfl) ?_)
  have HF0 := Lib.hid (feed_new w1)
  have HB0 := Lib.hid (b1.alloc b1.size (.cells C73 109))
  have hpw : w.heap.size ≤ w1.heap.size := b1.size
  clear b1
  generalize (w1.alloc (.cells C73 109)) = w2 at *
  generalize w1.heap.size = p at *
  clear w1
  go_loopw [12] (fun i wr => ∃ k : Nat, k ≤ l.length ∧ i = .int .i64 k ∧ Hid (FeedS wr p (feedL S0 (allT (l.take k)))) ∧ Hid (Below w.heap.size w wr)) (fun i _ => l.length - (intOf i).toNat)
  case atStart => exact ⟨0, Nat.zero_le _, rfl, HF0.out, HB0.out⟩
  case round =>
    obtain ⟨k, hk, rfl, HR, HW⟩ := hrel
    by_cases hlt : k < l.length
    · obtain ⟨bb, off, rfl, h2, h3⟩ := HA.out (by omega)
      obtain ⟨x, hx⟩ : ∃ x, l[k]? = some x := ⟨l[k], List.getElem?_eq_getElem hlt⟩
      have ek : wr.cell? ⟨bb, off + k, none⟩ = some (.string x) := by
        have := (HW.out.cell (p := ⟨bb, off + k, none⟩) h2).trans (h3 k hlt)
        rw [this, hx]; rfl
      have hT : l.take (k + 1) = l.take k ++ [x] := by
        rw [List.take_add_one, hx]; rfl
      have hsz : (allT (l.take (k + 1))).length ≤ (allT l).length := by
        have : allT l = allT (l.take (k + 1)) ++ allT (l.drop (k + 1)) := by unfold allT; rw [← List.flatMap_append, List.take_append_drop]
        rw [this, List.length_append]; omega
      have hN : feedL S0 (allT (l.take (k + 1))) = feedL (feedL S0 (allT (l.take k))) x.data.toList := by
        rw [hT, ← feedL_append]; congr 1; simp [allT]
      have hnn : (feedL S0 (allT (l.take k))).n + x.size ≤ 1000000000000 := by
        have e1 : (feedL S0 (allT (l.take (k + 1)))).n ≤ (allT l).length := by rw [feedL_n]; show 0 + _ ≤ _; omega
        rw [hN, feedL_n] at e1
        have : x.data.toList.length = x.size := by simp
        omega
      have HN := Lib.hid hN
      have HNN := Lib.hid hnn
      clear hN hnn hsz hT hx h3 h2
      generalize feedL S0 (allT (l.take k)) = T at *
      have lk : (k : Int) < (l.length : Int) := by omega
      have pk : (0 : Int) ≤ (k : Int) := by omega
      go_wp2_with fail
      refine (feed_any p T x _ HR.out HNN.out).mono ?_
      rintro e w3 ⟨rfl, b3, g3⟩
      have HF3 : Hid (FeedS w3 p (feedL S0 (allT (l.take (k + 1))))) := by rw [HN.out]; exact b3
      have HW3 := Lib.hid (below_grown HW.out g3 hpw)
      clear b3 g3
      go_wp2
      go_roundw
      case rel => exact ⟨k + 1, hlt, by go_num, HF3, HW3⟩
      case measure => simp [intOf]; omega
    · obtain rfl : k = l.length := by omega
      have HT : Hid (feedL S0 (allT (l.take l.length)) = feedL S0 (allT l)) := by rw [List.take_length]; rfl
      have hTn : (feedL S0 (allT l)).n ≤ 100000000000 := by rw [feedL_n]; show 0 + _ ≤ _; omega
      have HR : Hid (FeedS wr p (feedL S0 (allT l))) := by rw [← HT.out]; exact HR.out
      clear HT
      have HV : Hid (shaSum (allT l) = ⟨(hUp (sumS (feedL S0 (allT l))).f 8).toArray⟩) := rfl
      generalize feedL S0 (allT l) = T at *
      go_wp2_with fail
      refine (sum_any p T _ HR.out hTn).mono ?_
      rintro e w3 ⟨rfl, g3⟩
      go_wp2
      go_ret
      exact ⟨by rw [HV.out]; rfl, below_grown HW.out g3 hpw⟩
theorem texts_one (w : World) (x : ByteArray) : Texts (w.alloc (.cells #[.string x] 9)) (some ⟨w.heap.size, 0, none⟩) [x] := fun _ => by
  have hh : (w.alloc (.cells #[.string x] 9)).heap[w.heap.size]? = some (.cells #[.string x] 9 (0, 0)) := by
    show (w.heap.push _)[w.heap.size]? = _
    simp
  refine ⟨_, 0, rfl, by simp, fun j hj => ?_⟩
  rw [Lib.cell_of_heap hh]
  simp at hj
  subst hj
  rfl
set_option maxRecDepth 20000 in
theorem shaSum_any (s : ByteArray) (w : World) (hs : s.size ≤ 100000000000) :
    Calls Try.prog 43 #[.string s] w fun e w' => e = .returned (.string (shaSum s.data.toList)) ∧ Below w.heap.size w w' := by
  have hl : allT [s] = s.data.toList := by simp [allT]
  have hn : s.data.toList.length = s.size := by simp
  have hJ := join_any (some ⟨w.heap.size, 0, none⟩) 1 [s] _ (texts_one w s) (by rw [hl, hn]; exact hs) (by show 1 ≤ _; omega)
  rw [hl] at hJ
  have HJ := Lib.hid hJ; clear hJ hl hn
  go_enter Try.func43, Try.ntmps43
  go_wp2_with fail
  refine HJ.out.mono ?_
  rintro e w1 ⟨rfl, b1⟩
  go_wp2
  go_ret
  exact ⟨rfl, ((Below.refl _ _).alloc (Nat.le_refl _) _).trans (b1.mono (by simp))⟩
end Go.Proofs.Ytkbpkodakfknoaa
