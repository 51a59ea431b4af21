/- keys.Of: its walk, over the library's Clone, DeleteFunc, Sort and Compact. -/
import Derived.Test.YteidlngffikboaaLsmKeysP
import Derived.Test.YteidlngffikboaaStrs
import Derived.Test.YteidlngffikboaaShelfOf
import Derived.Sort.OwnSorted
import Derived.Shelf.Abstract
namespace Go.Proofs.Yteidlngffikboaa
open Go.RowKit Go.Shelf Go.Sort
set_option linter.unusedVariables false
set_option linter.unusedSimpArgs false
/-- a row of the call's own that begins with the texts ss -/
structure RowS (w : World) (B g cap : Nat) (ss : List (List UInt8)) : Prop where
  base : B ≤ g
  le : ss.length ≤ cap
  max : cap ≤ maxLen
  cells : ∃ cur, w.heap[g]? = some (.cells cur 9 (0, 0)) ∧ cur.size = cap ∧ cur.toList.take ss.length = ss.map encStr
theorem RowS.lt {w : World} {B g cap : Nat} {ss : List (List UInt8)} (h : RowS w B g cap ss) : g < w.heap.size := by
  obtain ⟨cur, hb, _⟩ := h.cells
  exact (Array.getElem?_eq_some_iff.1 hb).1
theorem RowS.holds {w : World} {B g cap : Nat} {ss : List (List UInt8)} (h : RowS w B g cap ss) : Holds encStr w g 0 ss.toArray := by
  obtain ⟨cur, hb, hs, ht⟩ := h.cells
  exact holds_of_block hb ht
theorem RowS.put {w : World} {B g cap : Nat} {ss : List (List UInt8)} (h : RowS w B g cap ss) (us rest : List (List UInt8)) (hl : (us ++ rest).length = ss.length) (n : Nat) (os : Array Obj) :
    RowS (grow (putRow encStr (Sort.ahead w n) g 0 (us ++ rest).toArray) os) B g cap us := by
  obtain ⟨cur, hb, hs, ht⟩ := h.cells
  have hle := h.le
  refine ⟨h.base, by simp at hl; omega, h.max, _, heap_sorted _ hb, by simp [putCells, hs], ?_⟩
  have := take_putCells cur (us ++ rest) (by omega)
  rw [List.map_append] at this
  have h2 := congrArg (List.take us.length) this
  rw [List.take_take, Nat.min_eq_left (by simp)] at h2
  rw [h2, List.take_append_of_le_length (by simp), List.take_of_length_le (by simp)]
theorem RowS.put0 {w : World} {B g cap : Nat} {ss : List (List UInt8)} (h : RowS w B g cap ss) (us rest : List (List UInt8)) (hl : (us ++ rest).length = ss.length) (n : Nat) :
    RowS (putRow encStr (Sort.ahead w n) g 0 (us ++ rest).toArray) B g cap us := by
  have := h.put us rest hl n #[]
  rwa [grow_empty] at this
theorem RowS.keep {w : World} {B g : Nat} (w0 : World) (hb : Below B w0 w) (hg : B ≤ g) (hlt : g < w.heap.size) (d : Array (List UInt8)) (n : Nat) (os : Array Obj) : Below B w0 (grow (putRow encStr (Sort.ahead w n) g 0 d) os) :=
  hb.grown (grownBy_sorted d) (by omega) (fun j hj => by cases hj; exact hg)
theorem RowS.keep0 {w : World} {B g : Nat} (w0 : World) (hb : Below B w0 w) (hg : B ≤ g) (hlt : g < w.heap.size) (d : Array (List UInt8)) (n : Nat) : Below B w0 (putRow encStr (Sort.ahead w n) g 0 d) := by
  have := RowS.keep w0 hb hg hlt d n #[]
  rwa [grow_empty] at this
theorem RowS.strs {w : World} {B g cap : Nat} {ss : List (List UInt8)} (h : RowS w B g cap ss) : StrsB w (.slice (some ⟨g, 0, none⟩) ss.length cap) (ss.map bmk) := by
  have hh := h.holds
  refine ⟨_, cap, by simp, by simpa using h.le, h.max, fun _ => ⟨g, 0, rfl, h.lt, fun j hj => ?_⟩⟩
  have hj' : j < ss.length := by simpa using hj
  rw [(hh j (by simpa using hj')).1]
  simp [hj', bmk, encStr]
theorem RowS.of_owns {w : World} {B : Nat} {v : Value} {la : List ByteArray} (h : w.ownsRow B 9 1 v la.length (la.map .string)) (hv : v ≠ .slice none 0 0) :
    ∃ g cap, v = .slice (some ⟨g, 0, none⟩) la.length cap ∧ RowS w B g cap (la.map fun x => x.data.toList) := by
  rcases h.2 with ⟨h1, _⟩ | ⟨g, cap, cur, h1, hb, hg, hn, hm, hc, ht⟩
  · exact absurd h1 hv
  · refine ⟨g, cap, h1, hb, by simpa using hn, hm, cur, hg, by simpa using hc, ?_⟩
    rw [List.length_map]
    rw [Nat.mul_one] at ht
    rw [ht]
    simp [encStr, Function.comp_def]
theorem keepF_any (x : List UInt8) (W : World) : FnGives Try.prog 76 #[] #[encStr x] (.bool (x.length != 32)) W := by
  show Calls Try.prog 76 #[.string ⟨x.toArray⟩] W _
  have hx : ((x.length : Int) != 32) = (x.length != 32) := by
    rw [Bool.eq_iff_iff, bne_iff_ne, bne_iff_ne]; omega
  have HX := Lib.hid hx; clear hx
  go_enter Try.func76, Try.ntmps76
  go_wp2
  go_ret
  exact ⟨by rw [← HX.out]; rfl, 0, rfl⟩
theorem zeroStr (w : World) : (zeroValue 9).run Try.prog w = .ok (encStr []) w := by kernel_rfl
/-- behind the clone -/
theorem ofRest_any (g cap : Nat) (la : List ByteArray) (w0 w : World) (h : RowS w w0.heap.size g cap (la.map fun x => x.data.toList)) (hb : Below w0.heap.size w0 w) (hl : la.length ≤ 1000000) :
    (Calls Try.prog 74 #[.slice (some ⟨g, 0, none⟩) la.length cap, .func (.func 76) #[] #[]] w fun e w' => e = .returned (.slice (some ⟨g, 0, none⟩) (rawOf la).length cap) ∧ RowS w' w0.heap.size g cap (rawOf la) ∧ Below w0.heap.size w0 w') := by
  have hsz : (la.map fun x => x.data.toList).toArray.size = la.length := by simp
  have hc := Try.slices_DeleteFunc encStr (fun _ => rfl) (fun x => x.length != 32) 76 #[] (enters_of Try.func76 (by kernel_rfl) rfl) [] zeroStr g 0 cap (la.map fun x => x.data.toList).toArray w (fun W x _ => keepF_any x W) (fun n os dk x _ => keepF_any x _) h.holds (by rw [hsz]; omega) (by rw [hsz]; have := h.le; simpa using this)
  rw [hsz] at hc
  refine hc.mono ?_
  rintro e w' ⟨rfl, q, rfl⟩
  have hf : ((la.map fun x => x.data.toList).toArray.toList.filter fun x => !(x.length != 32)) = rawOf la := by simp [rawOf]
  rw [hf]
  have hle : (rawOf la).length ≤ la.length := by
    have := List.length_filter_le (fun x : List UInt8 => !(x.length != 32)) (la.map fun x => x.data.toList)
    simpa [rawOf] using this
  exact ⟨rfl, h.put0 _ _ (by simp; omega) q, RowS.keep0 w0 hb h.base h.lt _ q⟩
theorem ofSort_any (g cap : Nat) (ss : List (List UInt8)) (w0 w : World) (h : RowS w w0.heap.size g cap ss) (hb : Below w0.heap.size w0 w) (hl : ss.length ≤ 1000000) :
    (Calls Try.prog 77 #[.slice (some ⟨g, 0, none⟩) ss.length cap] w fun e w' => e = .returned (.tuple #[]) ∧ RowS w' w0.heap.size g cap (ss.mergeSort fun x y => decide (x ≤ y)) ∧ Below w0.heap.size w0 w') := by
  refine (Try.slices_Sort_string g 0 cap ss w h.holds h.lt (by omega)).mono ?_
  rintro e w' ⟨rfl, n, os, rfl⟩
  have := h.put (ss.mergeSort fun x y => decide (x ≤ y)) [] (by simp) n os
  rw [List.append_nil] at this
  exact ⟨rfl, this, RowS.keep w0 hb h.base h.lt _ n os⟩
theorem compact_le (zs : List (List UInt8)) : (Lib.compact zs).length ≤ zs.length := by
  unfold Lib.compact Lib.compactUpTo
  rw [List.length_map]
  exact Nat.le_trans (List.length_filter_le _ _) (by simp)
theorem ofCompact_any (g cap : Nat) (ss : List (List UInt8)) (w0 w : World) (h : RowS w w0.heap.size g cap ss) (hb : Below w0.heap.size w0 w) (hl : ss.length ≤ 1000000) :
    (Calls Try.prog 78 #[.slice (some ⟨g, 0, none⟩) ss.length cap] w fun e w' => e = .returned (.slice (some ⟨g, 0, none⟩) (Lib.compact ss).length cap) ∧ RowS w' w0.heap.size g cap (Lib.compact ss) ∧ Below w0.heap.size w0 w') := by
  refine (Try.slices_Compact_string g 0 cap ss w h.holds (by omega) h.le).mono ?_
  rintro e w' ⟨rfl, q, rfl⟩
  have := compact_le ss
  exact ⟨rfl, h.put0 _ _ (by simp; omega) q, RowS.keep0 w0 hb h.base h.lt _ q⟩
theorem kOf_nil : kOf [] = [] := by simp [kOf, rawOf, Lib.compact, Lib.compactUpTo]
theorem ofDel_nil (w : World) : Calls Try.prog 74 #[.slice none 0 0, .func (.func 76) #[] #[]] w fun e w' => e = .returned (.slice none 0 0) ∧ w = w' := by
  go_enter Try.func74, Try.ntmps74
  go_wp2_with fail
  refine (Try.slices_IndexFunc_empty (α := Nat) none 0 (.func (.func 76) #[] #[]) _).mono ?_
  rintro e w1 ⟨rfl, rfl⟩
  go_wp2
  go_ret
  exact ⟨rfl, rfl⟩
set_option maxHeartbeats 1000000 in
theorem kOf_any (w : World) (va : Value) (la : List ByteArray) (ha : StrsB w va la) (hl : la.length ≤ 1000000) :
    Calls Try.prog 53 #[va] w fun e w' => ∃ v, e = .returned v ∧ StrsB w' v (kOf la) ∧ Below w.heap.size w w' := by
  have hgen : ∀ v w1, w1.ownsRow w.heap.size 9 1 v la.length (la.map .string) → v ≠ .slice none 0 0 → Below w.heap.size w w1 → ∃ g cap, v = .slice (some ⟨g, 0, none⟩) la.length cap ∧ RowS w1 w.heap.size g cap (la.map fun x => x.data.toList) := fun v w1 h1 h2 _ => RowS.of_owns h1 h2
  have hraw : (rawOf la).length ≤ 1000000 := by
    have := List.length_filter_le (fun x : List UInt8 => !(x.length != 32)) (la.map fun x => x.data.toList)
    simp [rawOf] at this ⊢; omega
  have hclone : (∃ c, va = .slice none 0 c ∧ la = []) ∨ Calls Try.prog 75 #[va] w fun e w' => ∃ v', e = .returned v' ∧ w'.ownsRow w.heap.size 9 1 v' la.length (la.map .string) ∧ v' ≠ .slice none 0 0 ∧ Below w.heap.size w w' := by
    by_cases h0 : la.length = 0
    · have e := List.length_eq_zero_iff.1 h0
      subst e
      obtain ⟨A, c, rfl, hc⟩ := ha.nil
      cases A with
      | none => exact .inl ⟨c, rfl, rfl⟩
      | some a => exact .inr (Try.slices_Clone_string_zero a c w)
    · obtain ⟨b, off, c, rfl, h1, h2, h3, h4⟩ := ha.at (by omega)
      right
      have := Try.slices_Clone_string b off la.length c la w (Nat.le_refl _) (by omega) (fun j hj => by rw [h4 j hj]; simp [hj])
      rwa [List.take_length] at this
  rcases hclone with ⟨c, rfl, rfl⟩ | hclone
  · clear hgen hraw ha
    go_enter Try.func53, Try.ntmps53
    go_wp2_with fail
    refine (Try.slices_Clone_string_nil 0 c w).mono ?_
    rintro e w1 ⟨rfl, rfl⟩
    go_wp2_with fail
    refine (ofDel_nil _).mono ?_
    rintro e w1 ⟨rfl, rfl⟩
    go_wp2_with fail
    refine (Try.slices_Sort_string_none none 0 _).mono ?_
    rintro e w1 ⟨rfl, rfl⟩
    go_wp2_with fail
    refine (Try.slices_Compact_string_empty none 0 _).mono ?_
    rintro e w1 ⟨rfl, rfl⟩
    go_wp2
    go_ret
    exact ⟨_, rfl, by rw [kOf_nil]; exact strsB_nil _, Below.refl _ _⟩
  · have HG := Lib.hid hgen; clear hgen
    have HC := Lib.hid hclone; clear hclone ha
    have HR := Lib.hid hraw; clear hraw
    go_enter Try.func53, Try.ntmps53
    go_wp2_with fail
    refine HC.out.mono ?_
    rintro e w1 ⟨v, rfl, hown, hne, b1⟩
    obtain ⟨g, cap, rfl, hr⟩ := HG.out v w1 hown hne b1
    have H1 := Lib.hid (ofRest_any g cap la w w1 hr b1 hl)
    clear hown hne b1 hr HG HC
    go_wp2_with fail
    refine H1.out.mono ?_
    rintro e w2 ⟨rfl, hr, b2⟩
    have H2 := Lib.hid (ofSort_any g cap _ w w2 hr b2 HR.out)
    clear hr b2 H1
    go_wp2_with fail
    refine H2.out.mono ?_
    rintro e w3 ⟨rfl, hr, b3⟩
    have H3 := ofCompact_any g cap _ w w3 hr b3 (by rw [List.length_mergeSort]; exact HR.out)
    rw [List.length_mergeSort] at H3
    have H3 := Lib.hid H3
    clear hr b3 H2
    go_wp2_with fail
    refine H3.out.mono ?_
    rintro e w4 ⟨rfl, hr, b4⟩
    have HS := Lib.hid hr.strs
    have HB := Lib.hid b4
    clear hr b4 H3
    go_wp2
    go_ret
    exact ⟨_, rfl, HS.out, HB.out⟩
end Go.Proofs.Yteidlngffikboaa
