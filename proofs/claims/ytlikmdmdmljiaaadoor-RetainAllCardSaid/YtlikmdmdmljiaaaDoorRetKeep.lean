/- retain.Keep, Drop: their walks. -/
import Derived.Test.YtlikmdmdmljiaaaDoorRetWhy
namespace Go.Proofs.YtlikmdmdmljiaaaDoor
open Go.RowKit Go.Shelf Go.Lib Go.Sort
set_option linter.unusedVariables false
set_option linter.unusedSimpArgs false
theorem less_eq : ∀ (x y : List UInt8), Op.bytesLess x y = decide (x < y)
  | [], [] => by simp [Op.bytesLess]
  | _ :: _, [] => by simp [Op.bytesLess]
  | [], _ :: _ => by simp [Op.bytesLess]
  | a :: x, b :: y => by
    rw [Op.bytesLess, less_eq x y]
    simp only [List.cons_lt_cons_iff]
    by_cases h1 : a < b <;> by_cases h2 : a = b <;> by_cases h3 : x < y <;> simp [h1, h2, h3]
theorem sort_pair (l : List (List UInt8)) : (l.mergeSort fun x y => decide (x ≤ y)).Pairwise fun x y => Op.bytesLess y x = false := by
  have h := List.pairwise_mergeSort (le := fun x y : List UInt8 => decide (x ≤ y)) (fun a b c h1 h2 => decide_eq_true (List.le_trans (of_decide_eq_true h1) (of_decide_eq_true h2))) (fun a b => by
    rcases List.le_total a b with h | h
    · simp [h]
    · simp [h]) l
  refine h.imp ?_
  intro a b hab
  rw [less_eq, decide_eq_false_iff_not]
  exact List.not_lt.2 (of_decide_eq_true hab)
def bmk (l : List UInt8) : ByteArray := ⟨l.toArray⟩
theorem bmk_data (x : ByteArray) : bmk x.data.toList = x := by apply ByteArray.ext; simp [bmk]
theorem data_bmk (l : List UInt8) : (bmk l).data.toList = l := by simp [bmk]
/-- the set of a list of texts -/
def rawOf (l : List ByteArray) : List (List UInt8) := ((l.map fun x => x.data.toList).filter fun x => !(x.length != 32))

theorem sn_sort (l : List ByteArray) : ((l.map fun x => x.data.toList).mergeSort fun x y => decide (x ≤ y)).map bmk = sn bl l := by
  refine sn_of nord_bl _ _ ?_ ?_
  · have h := (List.mergeSort_perm (l.map fun x => x.data.toList) fun x y => decide (x ≤ y)).map bmk
    rw [List.map_map] at h
    have e : (bmk ∘ fun x : ByteArray => x.data.toList) = id := by funext x; exact bmk_data x
    rw [e, List.map_id] at h
    exact h
  · rw [List.pairwise_map]
    refine (sort_pair _).imp ?_
    intro x y h
    unfold bl
    rw [data_bmk, data_bmk, h]
    rfl
/-- a row of the call's own that begins with the texts ss -/
structure RowS (w : World) (B g cap : Nat) (ss : List (List UInt8)) : Prop where
  base : B ≤ g
  le : ss.length ≤ cap
  max : cap ≤ maxLen
  cells : ∃ cur, w.heap[g]? = some (.cells cur 9 (0, 0)) ∧ cur.size = cap ∧ cur.toList.take ss.length = ss.map encStr
theorem RowS.lt {w : World} {B g cap : Nat} {ss : List (List UInt8)} (h : RowS w B g cap ss) : g < w.heap.size := by
  obtain ⟨cur, hb, _⟩ := h.cells
  exact (Array.getElem?_eq_some_iff.1 hb).1
theorem RowS.holds {w : World} {B g cap : Nat} {ss : List (List UInt8)} (h : RowS w B g cap ss) : Holds encStr w g 0 ss.toArray := by
  obtain ⟨cur, hb, hs, ht⟩ := h.cells
  exact holds_of_block hb ht
theorem RowS.put {w : World} {B g cap : Nat} {ss : List (List UInt8)} (h : RowS w B g cap ss) (us rest : List (List UInt8)) (hl : (us ++ rest).length = ss.length) (n : Nat) (os : Array Obj) :
    RowS (grow (putRow encStr (Sort.ahead w n) g 0 (us ++ rest).toArray) os) B g cap us := by
  obtain ⟨cur, hb, hs, ht⟩ := h.cells
  have hle := h.le
  refine ⟨h.base, by simp at hl; omega, h.max, _, heap_sorted _ hb, by simp [putCells, hs], ?_⟩
  have := take_putCells cur (us ++ rest) (by omega)
  rw [List.map_append] at this
  have h2 := congrArg (List.take us.length) this
  rw [List.take_take, Nat.min_eq_left (by simp)] at h2
  rw [h2, List.take_append_of_le_length (by simp), List.take_of_length_le (by simp)]
theorem RowS.put0 {w : World} {B g cap : Nat} {ss : List (List UInt8)} (h : RowS w B g cap ss) (us rest : List (List UInt8)) (hl : (us ++ rest).length = ss.length) (n : Nat) :
    RowS (putRow encStr (Sort.ahead w n) g 0 (us ++ rest).toArray) B g cap us := by
  have := h.put us rest hl n #[]
  rwa [grow_empty] at this
theorem RowS.keep {w : World} {B g : Nat} (w0 : World) (hb : Below B w0 w) (hg : B ≤ g) (hlt : g < w.heap.size) (d : Array (List UInt8)) (n : Nat) (os : Array Obj) : Below B w0 (grow (putRow encStr (Sort.ahead w n) g 0 d) os) :=
  hb.grown (grownBy_sorted d) (by omega) (fun j hj => by cases hj; exact hg)
theorem RowS.keep0 {w : World} {B g : Nat} (w0 : World) (hb : Below B w0 w) (hg : B ≤ g) (hlt : g < w.heap.size) (d : Array (List UInt8)) (n : Nat) : Below B w0 (putRow encStr (Sort.ahead w n) g 0 d) := by
  have := RowS.keep w0 hb hg hlt d n #[]
  rwa [grow_empty] at this
theorem RowS.strs {w : World} {B g cap : Nat} {ss : List (List UInt8)} (h : RowS w B g cap ss) : StrsB w (.slice (some ⟨g, 0, none⟩) ss.length cap) (ss.map bmk) := by
  have hh := h.holds
  refine ⟨_, cap, by simp, by simpa using h.le, h.max, fun _ => ⟨g, 0, rfl, h.lt, fun j hj => ?_⟩⟩
  have hj' : j < ss.length := by simpa using hj
  rw [(hh j (by simpa using hj')).1]
  simp [hj', bmk, encStr]
theorem RowS.of_owns {w : World} {B : Nat} {v : Value} {la : List ByteArray} (h : w.ownsRow B 9 1 v la.length (la.map .string)) (hv : v ≠ .slice none 0 0) :
    ∃ g cap, v = .slice (some ⟨g, 0, none⟩) la.length cap ∧ RowS w B g cap (la.map fun x => x.data.toList) := by
  rcases h.2 with ⟨h1, _⟩ | ⟨g, cap, cur, h1, hb, hg, hn, hm, hc, ht⟩
  · exact absurd h1 hv
  · refine ⟨g, cap, h1, hb, by simpa using hn, hm, cur, hg, by simpa using hc, ?_⟩
    rw [List.length_map]
    rw [Nat.mul_one] at ht
    rw [ht]
    simp [encStr, Function.comp_def]
theorem ofSort_any (g cap : Nat) (ss : List (List UInt8)) (w0 w : World) (h : RowS w w0.heap.size g cap ss) (hb : Below w0.heap.size w0 w) (hl : ss.length ≤ 1000000) :
    (Calls Tryd.prog 21 #[.slice (some ⟨g, 0, none⟩) ss.length cap] w fun e w' => e = .returned (.tuple #[]) ∧ RowS w' w0.heap.size g cap (ss.mergeSort fun x y => decide (x ≤ y)) ∧ Below w0.heap.size w0 w') := by
  refine (Tryd.slices_Sort_string g 0 cap ss w h.holds h.lt (by omega)).mono ?_
  rintro e w' ⟨rfl, n, os, rfl⟩
  have := h.put (ss.mergeSort fun x y => decide (x ≤ y)) [] (by simp) n os
  rw [List.append_nil] at this
  exact ⟨rfl, this, RowS.keep w0 hb h.base h.lt _ n os⟩
theorem names_take (D : List Mk) (j : Nat) (h : j < D.length) : (D.map (·.1)).take (j + 1) = (D.map (·.1)).take j ++ [D[j].1] := by
  rw [List.take_succ_eq_append_getElem (by simpa using h)]
  simp
set_option maxRecDepth 20000 in
set_option maxHeartbeats 4000000 in
theorem keep_any (p : Pol) (l : List Mk) (v : Value) (w : World) (hp : PolI p) (hv : MkN w v l) (hU : Unl l) (hs : ∀ x ∈ l, x.1.size ≤ 100) (hl : l.length ≤ 1000000) :
    Calls Tryd.prog 8 #[polV p, v] w fun e w' => ∃ v', e = .returned v' ∧ StrsB w' v' (keepL bl partI p l) ∧ Below w.heap.size w w' := by
  obtain ⟨wE, hwE⟩ : ∃ wE, wE = w.alloc (polO p) := ⟨_, rfl⟩
  have HWE := Lib.hid hwE.symm
  have hb0 : Below w.heap.size w wE := by rw [hwE]; exact (Below.refl _ _).alloc (Nat.le_refl _) _
  have p0 : wE.heap[w.heap.size]? = some (polO p) := by rw [hwE]; exact heap_alloc_new _ _
  have HB0 := Lib.hid hb0
  obtain ⟨x0, x1, x2, x3, x4, x5⟩ := pol_cells p0
  have HWY := Lib.hid (why_any p l v wE hp (hv.below hb0 (Nat.le_refl _)) hU hs hl)
  have hkl : (keepL bl partI p l).length ≤ l.length := by
    have h := ret_len (nlt := bl) (fs := partI) p l
    have h2 : (l.filter okAt).length ≤ l.length := List.length_filter_le _ _
    omega
  obtain ⟨⟨A, c, rfl, h2, h3, _⟩, _⟩ := hv
  have hc9 : c ≤ 9223372036854775807 := by unfold maxLen at h3; omega
  generalize keepL bl partI p l = KL at *
  unfold polV at *
  clear hwE hb0 p0 hU hs h3 hp
  go_enter Tryd.func8, Tryd.ntmps8
  go_wp2_with fail
  rw [HWE.out]
  go_wp2_with fail
  refine HWY.out.mono ?_
  rintro e w2 ⟨v1, D, rfl, hm1, hD, _, b1⟩
  have HB2 : Hid (Below w.heap.size w w2) := HB0.out.trans (b1.mono HB0.out.size)
  have HM2 := Lib.hid hm1
  have HDN := Lib.hid hD
  obtain ⟨⟨A1, c1, rfl, y2, y3, y4⟩, _⟩ := hm1
  have hc91 : c1 ≤ 9223372036854775807 := by unfold maxLen at y3; omega
  obtain ⟨n, hn⟩ : ∃ n, n = D.length := ⟨_, rfl⟩
  have hnl : n ≤ 1000000 := by
    have : KL.length = D.length := by rw [← hD]; simp
    omega
  have HN := Lib.hid hn
  rw [← hn] at y2 HM2
  rw [← hn]
  clear b1 HWY x0 x1 x2 x3 x4 x5 y3 y4 hn hD HB0
  go_wp2_with fail
  go_loopw [5, 7, 12] (fun u b i wr => ∃ j : Nat, j ≤ n ∧ i = .int .i64 j ∧ Hid (wr.ownsRow w2.heap.size 9 1 u ((D.map (·.1)).take j).length (((D.map (·.1)).take j).map .string)) ∧ Hid (Below w2.heap.size w2 wr)) (fun _ _ i _ => n - (intOf i).toNat)
  case atStart => exact ⟨0, Nat.zero_le _, rfl, World.ownsRow_nil _ _ _ _, Below.refl _ _⟩
  case round =>
    obtain ⟨j, hj, rfl, HO, HW⟩ := hrel
    by_cases hlt : j < n
    · have hlt' : (j : Int) < (n : Int) := by omega
      have hjl : j < D.length := by rw [← HN.out]; exact hlt
      have HST := Lib.hid (names_take D j hjl)
      have hm := HM2.out.below HW.out (Nat.le_refl _)
      obtain ⟨⟨A9, c9, hv9, _, _, hz9⟩, _⟩ := hm
      injection hv9 with hv9a hv9b hv9c
      subst hv9a hv9c
      obtain ⟨b0, off, rfl, hb0, hc⟩ := hz9 (by omega)
      obtain ⟨e1, e2⟩ := hc j hjl
      have hlen : ((D.map (·.1)).take j).length ≤ j := by simp; omega
      clear hc hz9 hv9b
      generalize D[j].1 = k at *
      generalize D[j].2 = y at *
      generalize hR1 : (D.map (·.1)).take (j + 1) = R1 at *
      generalize (D.map (·.1)).take j = R at *
      have hws : w2.heap.size ≤ wr.heap.size := HW.out.size
      have HUO : Hid (∀ k, u5.ownBlock = some k → w2.heap.size ≤ k) := fun k hk => (HO.out.lt k hk).1
      go_wp2_with (at_builtin; refine wpList_push_str rfl _ _ 30 rfl Tryd.underlying30 w2.heap.size _ R rfl ((HO.out.alloc _).alloc _) _ _ k rfl (by simp) (by omega) (by simp; omega) ?_)
      intro u9 w9 ho9 hg9
      have HB9 : Hid (Below w2.heap.size w2 w9) := ((HW.out.alloc HW.out.size _).alloc (by simp; omega) _).grown hg9 (by simp; omega) HUO.out
      have HO9 : Hid (w9.ownsRow w2.heap.size 9 1 u9 R1.length (R1.map .string)) := by unfold Hid; rw [HST.out]; simpa using ho9
      clear ho9 hg9
      go_wp2_with fail
      go_roundw
      case rel => exact ⟨j + 1, by omega, by go_num, by rw [hR1]; exact HO9.out, HB9.out⟩
      case measure => simp [intOf]; omega
    · obtain rfl : j = n := by omega
      have HE : Hid ((D.map (·.1)).take j = KL) := by unfold Hid; rw [← HDN.out, HN.out, ← List.length_map (·.1), List.take_length]
      go_wp2_with fail
      go_ret
      exact ⟨_, rfl, by rw [← HE.out]; exact StrsB.of_owns HO.out, HB2.out.trans (HW.out.mono HB2.out.size)⟩
theorem owns_leP {w : World} {B B' t k n : Nat} {v : Value} {l : List Value} (h : w.ownsRow B t k v n l) (hB : B' ≤ B) : w.ownsRow B' t k v n l := by
  refine ⟨h.1, ?_⟩
  rcases h.2 with h | ⟨g, cap, cur, hv, hb, hr⟩
  · exact .inl h
  · exact .inr ⟨g, cap, cur, hv, Nat.le_trans hB hb, hr⟩
theorem sortS_any (w0 w : World) (B : Nat) (u : Value) (R : List ByteArray) (hB : w0.heap.size ≤ B) (hown : w.ownsRow B 9 1 u R.length (R.map .string)) (hb : Below w0.heap.size w0 w) (hl : R.length ≤ 1000000) :
    Calls Tryd.prog 21 #[u] w fun e w' => e = .returned (.tuple #[]) ∧ StrsB w' u (sn bl R) ∧ Below w0.heap.size w0 w' := by
  by_cases hne : u = .slice none 0 0
  · have e : R = [] := by
      rcases hown.2 with ⟨h1, h2⟩ | ⟨g, cap, cur, h1, _⟩
      · exact List.length_eq_zero_iff.1 h2
      · rw [h1] at hne; cases hne
    subst e; subst hne
    refine (Tryd.slices_Sort_string_none none 0 w).mono ?_
    rintro e w' ⟨rfl, rfl⟩
    exact ⟨rfl, by simpa [sn] using strsB_nil _, hb⟩
  · obtain ⟨g, cap, rfl, hr⟩ := RowS.of_owns (owns_leP hown hB) hne
    refine (Calls.mono (by have h := ofSort_any g cap _ w0 w hr hb (by simpa using hl); rw [List.length_map] at h; exact h) ?_)
    rintro e w' ⟨rfl, hr2, hb2⟩
    have h := hr2.strs
    rw [List.length_mergeSort, List.length_map, sn_sort] at h
    exact ⟨rfl, h, hb2⟩
set_option maxRecDepth 20000 in
set_option maxHeartbeats 4000000 in
theorem drop_any (p : Pol) (l : List Mk) (v : Value) (w : World) (hp : PolI p) (hv : MkN w v l) (hU : Unl l) (hs : ∀ x ∈ l, x.1.size ≤ 100) (hl : l.length ≤ 1000000) :
    Calls Tryd.prog 9 #[polV p, v] w fun e w' => ∃ v', e = .returned v' ∧ StrsB w' v' (dropL bl partI p l) ∧ Below w.heap.size w w' := by
  obtain ⟨wE, hwE⟩ : ∃ wE, wE = w.alloc (polO p) := ⟨_, rfl⟩
  have HWE := Lib.hid hwE.symm
  have hb0 : Below w.heap.size w wE := by rw [hwE]; exact (Below.refl _ _).alloc (Nat.le_refl _) _
  have p0 : wE.heap[w.heap.size]? = some (polO p) := by rw [hwE]; exact heap_alloc_new _ _
  have HB0 := Lib.hid hb0
  have HP0 := Lib.hid p0
  have HKN := Lib.hid (known_any wE v l (hv.below hb0 (Nat.le_refl _)) hU hs hl)
  have hkl : (kn bl l).length ≤ 1000000 := Nat.le_trans (kn_len l) hl
  have HKE : Hid (dropL bl partI p l = sn bl (zN (kn bl l) (whyW partI p (kn bl l)))) := rfl
  have HOK := Lib.hid (kn_ok l)
  have HWL := Lib.hid (whyW_len (fs := partI) p (kn bl l))
  have HW64 := Lib.hid (why_lt (fs := partI) p (kn bl l))
  have HPI := Lib.hid hp
  obtain ⟨⟨A, c, rfl, h2, h3, _⟩, _⟩ := hv
  have hc9 : c ≤ 9223372036854775807 := by unfold maxLen at h3; omega
  clear hwE hb0 p0 hU hs h3 hp
  generalize kn bl l = K at *
  unfold polV
  go_enter Tryd.func9, Tryd.ntmps9
  go_wp2_with fail
  rw [HWE.out]
  go_wp2_with fail
  refine HKN.out.mono ?_
  rintro e w1 ⟨v1, rfl, hm1, b1⟩
  have HB1 : Hid (Below w.heap.size w w1) := HB0.out.trans (b1.mono HB0.out.size)
  have hlt0 : w.heap.size < wE.heap.size := (Array.getElem?_eq_some_iff.1 HP0.out).1
  have hp1 : w1.heap[w.heap.size]? = some (polO p) := (b1.block _ hlt0).trans HP0.out
  have HWH := Lib.hid (whys_any p K v1 w1 hm1 hkl HOK.out HPI.out.q HPI.out.a)
  obtain ⟨x0, x1, x2, x3, x4, x5⟩ := pol_cells hp1
  have HM1 := Lib.hid hm1
  obtain ⟨⟨A1, c1, rfl, y2, y3, y4⟩, _⟩ := hm1
  have hc91 : c1 ≤ 9223372036854775807 := by unfold maxLen at y3; omega
  obtain ⟨n, hn⟩ : ∃ n, n = K.length := ⟨_, rfl⟩
  have HN := Lib.hid hn
  rw [← hn] at HWH y2 hkl HM1
  rw [← hn]
  clear b1 hlt0 hp1 HKN HP0 HB0 y3 y4 hn
  unfold polV at HWH
  go_wp2_with fail
  refine HWH.out.mono ?_
  rintro e w2 ⟨g, rfl, hr, b2⟩
  have HB2 : Hid (Below w.heap.size w w2) := HB1.out.trans (b2.mono HB1.out.size)
  have HM2 : Hid (MkN w2 (.slice A1 n c1) K) := HM1.out.below b2 (Nat.le_refl _)
  have HRW := Lib.hid hr
  clear b2 hr HWH HM1 HB1 x0 x1 x2 x3 x4 x5
  generalize whyW partI p K = W at *
  go_wp2_with fail
  go_loopw [5, 6, 7, 14] (fun u a b i wr => ∃ j : Nat, j ≤ n ∧ i = .int .i64 j ∧ Hid (wr.ownsRow w2.heap.size 9 1 u (zTo K W j).length ((zTo K W j).map .string)) ∧ Hid (Below w2.heap.size w2 wr)) (fun _ _ _ i _ => n - (intOf i).toNat)
  case atStart => exact ⟨0, Nat.zero_le _, rfl, World.ownsRow_nil _ _ _ _, Below.refl _ _⟩
  case round =>
    obtain ⟨j, hj, rfl, HO, HW⟩ := hrel
    by_cases hlt : j < n
    · have hlt' : (j : Int) < (n : Int) := by omega
      have hjl : j < K.length := by rw [← HN.out]; exact hlt
      have hjw : j < W.length := by rw [HWL.out]; exact hjl
      have hr := HRW.out.below HW.out
      have r0 := hr.cell j hjw
      have HST := Lib.hid (zTo_step K W j hjl HWL.out)
      have hm := HM2.out.below HW.out (Nat.le_refl _)
      obtain ⟨⟨A9, c9, hv9, _, _, hz9⟩, _⟩ := hm
      injection hv9 with hv9a hv9b hv9c
      subst hv9a hv9c
      obtain ⟨b0, off, rfl, hb0, hc⟩ := hz9 (by omega)
      obtain ⟨e1, e2⟩ := hc j hjl
      have hlen : (zTo K W j).length ≤ j := zTo_len K W j
      have hu64 : W.getD j 0 < 64 := by
        have e : W.getD j 0 = W[j]'hjw := by simp [List.getD, hjw]
        rw [e]
        exact HW64.out _ (List.getElem_mem _)
      clear hc hz9 hv9b hr
      generalize W.getD j 0 = u at *
      generalize K[j].1 = k at *
      have HK1 : Hid (zTo K W (j + 1) = zTo K W (j + 1)) := rfl
      generalize hR1 : zTo K W (j + 1) = R1 at *
      generalize zTo K W j = R at *
      by_cases hz : u = 0
      · have hz' : ((u : Int) == 0) = true := by simp [hz]
        rw [if_pos hz] at HST
        clear hz
        have hws : w2.heap.size ≤ wr.heap.size := HW.out.size
        have HUO : Hid (∀ k, u5.ownBlock = some k → w2.heap.size ≤ k) := fun k hk => (HO.out.lt k hk).1
        go_wp2_with (at_builtin; refine wpList_push_str rfl _ _ 30 rfl Tryd.underlying30 w2.heap.size _ R rfl (HO.out.alloc _) _ _ k rfl (by simp) (by omega) (by simp; omega) ?_)
        intro u9 w9 ho9 hg9
        have HB9 : Hid (Below w2.heap.size w2 w9) := (HW.out.alloc HW.out.size _).grown hg9 (by simp; omega) HUO.out
        have HO9 : Hid (w9.ownsRow w2.heap.size 9 1 u9 R1.length (R1.map .string)) := by unfold Hid; rw [HST.out]; simpa using ho9
        clear ho9 hg9
        go_wp2_with fail
        go_roundw
        case rel => exact ⟨j + 1, by omega, by go_num, by rw [hR1]; exact HO9.out, HB9.out⟩
        case measure => simp [intOf]; omega
      · have hz' : ((u : Int) == 0) = false := by simp [hz]
        rw [if_neg hz, List.append_nil] at HST
        clear hz
        go_wp2_with fail
        go_roundw
        case rel => exact ⟨j + 1, by omega, by go_num, by rw [hR1, HST.out]; exact HO.out, HW.out⟩
        case measure => simp [intOf]; omega
    · obtain rfl : j = n := by omega
      have HRE : Hid (zTo K W j = zN K W) := by unfold Hid; rw [HN.out]; exact zTo_all K W HWL.out
      rw [HRE.out] at HO
      have hrl : (zN K W).length ≤ 1000000 := by rw [← HRE.out]; exact Nat.le_trans (zTo_len K W j) hkl
      have HSF := Lib.hid (sortS_any w wr w2.heap.size u5 (zN K W) HB2.out.size HO.out (HB2.out.trans (HW.out.mono HB2.out.size)) hrl)
      go_wp2_with fail
      refine HSF.out.mono ?_
      rintro e w3 ⟨rfl, hm3, hb3⟩
      have HS3 := Lib.hid hm3
      have HB3 := Lib.hid hb3
      clear hm3 hb3
      go_wp2_with fail
      go_ret
      exact ⟨_, rfl, by rw [HKE.out]; exact HS3.out, HB3.out⟩
end Go.Proofs.YtlikmdmdmljiaaaDoor
