/- Walks: lsm.rows, lsm.Get. -/
import Derived.Test.YteidlngffikboaaLsmR1
import Derived.Test.YteidlngffikboaaLsmCat
import Derived.RangeFuncBox
namespace Go.Proofs.Yteidlngffikboaa
open Go.RowKit
set_option linter.unusedVariables false
set_option linter.unusedSimpArgs false
theorem toList_data (s : ByteArray) : s.toList = s.data.toList := ByteArray.toList_eq s
/-- where a key stands, or would stand -/
def place (l : List Cnt) (k : ByteArray) : Nat := (l.takeWhile fun x => bl x.1 k).length
theorem place_le (l : List Cnt) (k : ByteArray) : place l k ≤ l.length := by
  unfold place
  have := congrArg List.length (List.takeWhile_append_dropWhile (p := fun x : Cnt => bl x.1 k) (l := l))
  rw [List.length_append] at this
  omega
theorem place_lt : ∀ (l : List Cnt) (k : ByteArray), RisC l → ∀ (i : Nat) (h : i < l.length), bl l[i].1 k = decide (i < place l k)
  | [], k, _, i, h => absurd h (Nat.not_lt_zero _)
  | x :: l, k, hr, i, h => by
    obtain ⟨hx, hl⟩ := List.pairwise_cons.1 hr
    by_cases hk : bl x.1 k = true
    · have hp : place (x :: l) k = place l k + 1 := by simp [place, List.takeWhile_cons, hk]
      cases i with
      | zero => rw [hp]; simpa using hk
      | succ i =>
        have := place_lt l k hl i (by simpa using h)
        rw [hp]
        simp only [List.getElem_cons_succ, this]
        simp
    · have hk' : bl x.1 k = false := by simpa using hk
      have hp : place (x :: l) k = 0 := by simp [place, List.takeWhile_cons, hk']
      rw [hp]
      simp only [Nat.not_lt_zero, decide_false]
      cases i with
      | zero => simpa using hk'
      | succ i =>
        have hi' : i < l.length := by simpa using h
        simp only [List.getElem_cons_succ]
        cases hb : bl l[i].1 k with
        | false => rfl
        | true =>
          have := hx l[i] (List.getElem_mem _)
          exact absurd (bl_trans this hb) (by rw [hk']; decide)
def cmpS (a b : ByteArray) : Int := if bl a b = true then -1 else if bl b a = true then 1 else 0
theorem cmpS_zero {a b : ByteArray} : cmpS a b = 0 ↔ a = b := by
  unfold cmpS
  constructor
  · intro h
    cases h1 : bl a b with
    | true => rw [h1] at h; simp at h
    | false =>
      cases h2 : bl b a with
      | true => rw [h1, h2] at h; simp at h
      | false => exact bl_total h1 h2
  · rintro rfl; simp [bl_irrefl]
theorem cmpS_neg {a b : ByteArray} : decide (cmpS a b < 0) = bl a b := by
  unfold cmpS
  cases h1 : bl a b with
  | true => simp
  | false => cases h2 : bl b a <;> simp
/-- is the key there? -/
def hasAt (l : List Cnt) (k : ByteArray) : Bool := match l[place l k]? with | some x => decide (x.1 = k) | none => false
theorem hasAt_iff {l : List Cnt} (k : ByteArray) (hr : RisC l) : hasAt l k = true ↔ ∃ x ∈ l, x.1 = k := by
  constructor
  · intro h
    unfold hasAt at h
    cases hq : l[place l k]? with
    | none => rw [hq] at h; cases h
    | some x => rw [hq] at h; exact ⟨x, List.mem_of_getElem? hq, by simpa using h⟩
  · rintro ⟨x, hx, rfl⟩
    obtain ⟨i, hi, rfl⟩ := List.getElem_of_mem hx
    have h1 := place_lt l l[i].1 hr i hi
    rw [bl_irrefl] at h1
    have h2 : place l l[i].1 ≤ i := by simpa using h1.symm
    have h3 : place l l[i].1 = i := by
      rcases Nat.lt_or_ge (place l l[i].1) i with h4 | h4
      · have h5 := List.pairwise_iff_getElem.1 hr (place l l[i].1) i (by omega) hi h4
        rw [place_lt l l[i].1 hr _ (by omega)] at h5
        simp at h5
      · omega
    unfold hasAt
    rw [h3, List.getElem?_eq_getElem hi]
    simp
set_option maxRecDepth 20000 in
set_option maxHeartbeats 1000000 in
theorem order_any (x : Cnt) (k : ByteArray) (w : World) : Calls Try.prog 91 #[.agg #[.string x.1, .int .i64 x.2], .string k] w fun e w' => e = .returned (.int .i64 (cmpS x.1 k)) ∧ Below w.heap.size w w' := by
  obtain ⟨a, y⟩ := x
  unfold cmpS
  show Calls _ _ _ _ fun e w' => e = .returned (.int .i64 (if bl a k = true then -1 else if bl k a = true then 1 else 0)) ∧ _
  cases h1 : bl a k with
  | true =>
    have d1 : Op.bytesLess a.toList k.toList = true := by rw [toList_data, toList_data]; exact h1
    rw [if_pos rfl]
    clear h1
    go_enter Try.func91, Try.ntmps91
    go_wp2_with fail
    go_ret
    exact ⟨rfl, (Below.refl _ _).alloc (Nat.le_refl _) _⟩
  | false =>
    have d1 : Op.bytesLess a.toList k.toList = false := by rw [toList_data, toList_data]; exact h1
    rw [if_neg (by decide)]
    cases h2 : bl k a with
    | true =>
      have d2 : (a.toList == k.toList) = false := str_eq_f (fun e => by rw [e, bl_irrefl] at h2; cases h2)
      rw [if_pos rfl]
      clear h1 h2
      go_enter Try.func91, Try.ntmps91
      go_wp2_with fail
      go_ret
      exact ⟨rfl, (Below.refl _ _).alloc (Nat.le_refl _) _⟩
    | false =>
      have d2 : (a.toList == k.toList) = true := str_eq_t (bl_total h1 h2)
      rw [if_neg (by decide)]
      clear h1 h2
      go_enter Try.func91, Try.ntmps91
      go_wp2_with fail
      go_ret
      exact ⟨rfl, (Below.refl _ _).alloc (Nat.le_refl _) _⟩
set_option maxRecDepth 20000 in
set_option maxHeartbeats 2000000 in
theorem bs_any (v : Value) (l : List Cnt) (k : ByteArray) (w : World) (hv : CntB w v l) (hr : RisC l) (hl : l.length ≤ 1000000000) :
    Calls Try.prog 90 #[v, .string k, .func (.func 91) #[] #[]] w fun e w' => e = .returned (.tuple #[.int .i64 (place l k : Nat), .bool (hasAt l k)]) ∧ Below w.heap.size w w' := by
  have HP := Lib.hid (place_lt l k hr)
  have hpl := place_le l k
  have HOr := Lib.hid (fun x w => order_any x k w)
  have HV := Lib.hid hv
  obtain ⟨A, c, rfl, h2, h3, h4⟩ := hv
  have hc9 : c ≤ 9223372036854775807 := by unfold maxLen at h3; omega
  obtain ⟨b, off, hb⟩ : ∃ b off, 0 < l.length → A = some ⟨b, off, none⟩ ∧ b < w.heap.size ∧ ∀ i (h : i < l.length), w.cell? ⟨b, off + i * 2, none⟩ = some (.string l[i].1) ∧ w.cell? ⟨b, off + i * 2 + 1, none⟩ = some (.int .i64 l[i].2) := by
    by_cases h0 : 0 < l.length
    · obtain ⟨b, off, h⟩ := h4 h0; exact ⟨b, off, fun _ => h⟩
    · exact ⟨0, 0, fun h => absurd h h0⟩
  have HB := Lib.hid hb
  obtain ⟨p, hp⟩ : ∃ p, p = place l k := ⟨_, rfl⟩
  obtain ⟨q, hq⟩ : ∃ q, q = hasAt l k := ⟨_, rfl⟩
  have HQ := Lib.hid hq
  have HPE := Lib.hid hp
  rw [← hp] at hpl HP ⊢
  rw [← hq]
  obtain ⟨n, hn⟩ : ∃ n, n = l.length := ⟨_, rfl⟩
  have HN := Lib.hid hn
  rw [← hn] at hpl hl h2 ⊢
  clear hp hq hb h3 h4 hr hn
  go_enter Try.func90, Try.ntmps90
  go_wp2_with fail
  go_loopw [9, 10] (fun a b' wr => ∃ i j : Nat, i ≤ p ∧ p ≤ j ∧ j ≤ n ∧ a = .int .i64 i ∧ b' = .int .i64 j ∧ Hid (Below w.heap.size w wr)) (fun a b' _ => (intOf b' - intOf a).toNat)
  case atStart => exact ⟨0, n, Nat.zero_le _, hpl, Nat.le_refl _, rfl, rfl, Below.refl _ _⟩
  case round =>
    obtain ⟨i, j, hi, hj, hjn, rfl, rfl, HBr⟩ := hrel
    by_cases hlt : i < j
    · have hlt' : (i : Int) < (j : Int) := by omega
      have hij : (0 : Int) ≤ (i : Int) + (j : Int) := by omega
      have hij2 : (i : Int) + (j : Int) ≤ 4000000000 := by omega
      have hnn := HN.out
      obtain ⟨rfl, hblt, hcells⟩ := HB.out (by omega)
      obtain ⟨m, hm⟩ : ∃ m, m = (i + j) / 2 := ⟨_, rfl⟩
      have hmid : ((i : Int) + (j : Int)) / 2 = (m : Int) := by omega
      have hml : m < l.length := by omega
      have hmn : (m : Int) < (n : Int) := by omega
      have hmi : i ≤ m := by omega
      have hmj : m < j := by omega
      obtain ⟨x1, x2⟩ := hcells m hml
      have y1 := (HBr.out.cell (p := ⟨b, off + m * 2, none⟩) hblt).trans x1
      have y2 := (HBr.out.cell (p := ⟨b, off + m * 2 + 1, none⟩) hblt).trans x2
      have hpm := HP.out m hml
      rw [← cmpS_neg] at hpm
      have HOm := Lib.hid (HOr.out l[m])
      generalize l[m] = x at *
      have hm0 : (0 : Int) ≤ (m : Int) := by omega
      by_cases hmp : m < p
      · have hneg : decide (cmpS x.1 k < 0) = true := by rw [hpm]; simpa using hmp
        clear hpm x1 x2 hcells hm hnn hij2
        go_wp2_with fail
        refine (HOm.out _).mono ?_
        rintro e w2 ⟨rfl, b2⟩
        have HB2 := Lib.hid (HBr.out.trans (b2.mono HBr.out.size))
        clear b2 y1 y2
        go_wp2_with fail
        go_roundw
        case rel => exact ⟨m + 1, j, by omega, hj, hjn, by go_num, rfl, HB2⟩
        case measure => simp [intOf]; omega
      · have hneg : decide (cmpS x.1 k < 0) = false := by rw [hpm]; simpa using hmp
        clear hpm x1 x2 hcells hm hnn hij2
        go_wp2_with fail
        refine (HOm.out _).mono ?_
        rintro e w2 ⟨rfl, b2⟩
        have HB2 := Lib.hid (HBr.out.trans (b2.mono HBr.out.size))
        clear b2 y1 y2
        go_wp2_with fail
        go_roundw
        case rel => exact ⟨i, m, hi, by omega, by omega, rfl, rfl, HB2⟩
        case measure => simp [intOf]; omega
    · obtain rfl : i = j := by omega
      obtain rfl : i = p := by omega
      by_cases hin : i < n
      · have hin' : (i : Int) < (n : Int) := by omega
        have hnn := HN.out
        obtain ⟨rfl, hblt, hcells⟩ := HB.out (by omega)
        have hml : i < l.length := by omega
        obtain ⟨x1, x2⟩ := hcells i hml
        have y1 := (HBr.out.cell (p := ⟨b, off + i * 2, none⟩) hblt).trans x1
        have y2 := (HBr.out.cell (p := ⟨b, off + i * 2 + 1, none⟩) hblt).trans x2
        have hqe : q = decide (cmpS l[i].1 k = 0) := by
          rw [HQ.out]; unfold hasAt; rw [← HPE.out, List.getElem?_eq_getElem hml]
          simp only [cmpS_zero]
        have HOm := Lib.hid (HOr.out l[i])
        generalize l[i] = x at *
        have hqb : (cmpS x.1 k == 0) = q := by rw [hqe]; by_cases h0 : cmpS x.1 k = 0 <;> simp [h0]
        clear hqe x1 x2 hcells hnn
        go_wp2_with fail
        refine (HOm.out _).mono ?_
        rintro e w2 ⟨rfl, b2⟩
        have HB2 := Lib.hid (HBr.out.trans (b2.mono HBr.out.size))
        clear b2 y1 y2
        go_wp2_with fail
        go_ret2
        exact ⟨rfl, HB2.out⟩
      · have hin' : ¬ (i : Int) < (n : Int) := by omega
        have hnn := HN.out
        have hq0 : q = false := by
          rw [HQ.out]; unfold hasAt; rw [← HPE.out, List.getElem?_eq_none (by omega)]
        subst hq0
        clear hnn
        go_wp2_with fail
        go_ret2
        exact ⟨rfl, HBr.out⟩
set_option maxHeartbeats 1000000 in
theorem lat_any (v : Value) (l : List Cnt) (k : ByteArray) (w : World) (hv : CntB w v l) (hr : RisC l) (hl : l.length ≤ 1000000000) :
    Calls Try.prog 70 #[v, .string k] w fun e w' => e = .returned (.tuple #[.int .i64 (place l k : Nat), .bool (hasAt l k)]) ∧ Below w.heap.size w w' := by
  have HB := Lib.hid (bs_any v l k w hv hr hl)
  obtain ⟨A, c, rfl, hz⟩ := hv.shape
  clear hv hr hz
  generalize place l k = p at *
  generalize hasAt l k = q at *
  generalize l.length = n at *
  go_enter Try.func70, Try.ntmps70
  go_wp2_with fail
  refine HB.out.mono ?_
  rintro e w' ⟨rfl, b1⟩
  go_wp2_with fail
  go_ret2
  exact ⟨rfl, b1⟩
theorem inL_at {l : List Cnt} (k : ByteArray) (hr : RisC l) : (hasAt l k = true → ∃ h : place l k < l.length, l[place l k].2 = inL l k) ∧ (hasAt l k = false → inL l k = 0) := by
  constructor
  · intro h
    unfold hasAt at h
    cases hq : l[place l k]? with
    | none => rw [hq] at h; cases h
    | some x =>
      rw [hq] at h
      obtain ⟨hlt, he⟩ := List.getElem?_eq_some_iff.1 hq
      have hk : x.1 = k := by simpa using h
      refine ⟨hlt, ?_⟩
      rw [he, ← hk]
      exact (inL_mem hr x (List.mem_of_getElem? hq)).symm
  · intro h
    refine inL_none fun y hy e => ?_
    have := (hasAt_iff k hr).2 ⟨y, hy, e⟩
    rw [h] at this; cases this
set_option maxHeartbeats 1000000 in
theorem lin_any (w : World) (v : Value) (l : List Cnt) (k : ByteArray) (h : CntB w v l) (hr : RisC l) (hl : l.length ≤ 1000000) :
    Calls Try.prog 45 #[v, .string k] w fun e w' => e = .returned (.int .i64 (inL l k)) ∧ Below w.heap.size w w' := by
  have HA := Lib.hid (lat_any v l k w h hr (by omega))
  obtain ⟨hi1, hi2⟩ := inL_at k hr
  obtain ⟨A, c, rfl, hz⟩ := h.shape
  have hple := place_le l k
  have hc9 : c ≤ 9223372036854775807 := by obtain ⟨A', c', e1, _, e3, _⟩ := h; cases e1; unfold maxLen at e3; omega
  cases hq : hasAt l k with
  | true =>
    rw [hq] at HA
    obtain ⟨hlt, he⟩ := hi1 hq
    obtain ⟨b, off, rfl, hb, hc⟩ := hz (by omega)
    obtain ⟨c1, c2⟩ := hc _ hlt
    rw [he] at c2
    have HC := Lib.hid (fun w' (hb' : Below w.heap.size w w') => (hb'.cell (p := ⟨b, off + place l k * 2 + 1, none⟩) hb).trans c2)
    clear hi1 hi2 hq hz hc c1 c2 he h hr
    generalize inL l k = x at *
    generalize place l k = p at *
    generalize l.length = n at *
    go_enter Try.func45, Try.ntmps45
    go_wp2_with fail
    refine HA.out.mono ?_
    rintro e w' ⟨rfl, b1⟩
    have y1 := HC.out _ b1
    have HB1 := Lib.hid b1
    clear b1
    go_wp2_with fail
    go_ret
    exact ⟨rfl, HB1.out⟩
  | false =>
    rw [hq] at HA
    rw [hi2 hq]
    clear hi1 hi2 hq hz h hr
    generalize place l k = p at *
    generalize l.length = n at *
    go_enter Try.func45, Try.ntmps45
    go_wp2_with fail
    refine HA.out.mono ?_
    rintro e w' ⟨rfl, b1⟩
    have HB1 := Lib.hid b1
    clear b1
    go_wp2_with fail
    go_ret
    exact ⟨rfl, HB1.out⟩
end Go.Proofs.Yteidlngffikboaa

/- Here ends the text LsmCmp; here begins LsmRows. -/
namespace Go.Proofs.Yteidlngffikboaa
open Go.RowKit
set_option linter.unusedVariables false
set_option linter.unusedSimpArgs false
theorem inL_bound2 {l : List Cnt} (h : okR l) (k : ByteArray) : -bnd ≤ inL l k ∧ inL l k ≤ bnd := by
  by_cases h0 : inL l k = 0
  · rw [h0]; unfold bnd; omega
  · obtain ⟨x, h1, h2, h3⟩ := inL_some h0
    rw [← h3]; exact (h.2 x h1).2.2
theorem total_mem {r : List Cnt} : ∀ {rs : List (List Cnt)}, r ∈ rs → r.length ≤ total rs
  | s :: rs, h => by
    unfold total
    rcases List.mem_cons.1 h with rfl | h
    · simp
    · have := total_mem h; unfold total at this; simp; omega
/-- a slice that lies from block B on, or nowhere -/
def FreshV (B : Nat) (v : Value) : Prop := ∀ b off n c, v = .slice (some ⟨b, off, none⟩) n c → B ≤ b
theorem FreshV.mono {B C : Nat} {v : Value} (h : FreshV C v) (hB : B ≤ C) : FreshV B v := fun b off n c e => Nat.le_trans hB (h b off n c e)
theorem FreshV.of_owns {w : World} {B e k n : Nat} {v : Value} {xs : List Value} (h : w.ownsRow B e k v n xs) : FreshV B v := fun b off n c ev => (h.lt b (by rw [ev]; rfl)).1
/-- one row ahead of others, by slices.Concat -/
theorem cat_aheadF (w : World) (g : Nat) (hg : g = w.heap.size) (u v : Value) (q : List Cnt) (rs : List (List Cnt)) (hq : CntN w u q) (hv : RunsN w v rs) (hl : rs.length ≤ 100000) :
    Calls Try.prog 61 #[.slice (some ⟨g + 1, 0, none⟩) 2 2] ((w.alloc (.cells #[u] 22)).alloc (.cells #[.slice (some ⟨g, 0, none⟩) 1 1, v] 23))
      fun e w' => ∃ v', e = .returned v' ∧ RunsN w' v' (q :: rs) ∧ Below w.heap.size w w' ∧ FreshV w.heap.size v' := by
  subst hg
  obtain ⟨us, h1, h2⟩ := hv.vals
  have hlen := h2.len
  obtain ⟨w1, hw1⟩ : ∃ w1, w1 = (w.alloc (.cells #[u] 22)).alloc (.cells #[.slice (some ⟨w.heap.size, 0, none⟩) 1 1, v] 23) := ⟨_, rfl⟩
  have hB1 : Below w.heap.size w w1 := by rw [hw1]; exact ((Below.refl _ _).alloc (Nat.le_refl _) _).alloc (by simp) _
  have hn : w1.heap[w.heap.size + 1]? = some (.cells #[.slice (some ⟨w.heap.size, 0, none⟩) 1 1, v] 23) := by
    rw [hw1]
    have := World.alloc_heap_new (w.alloc (.cells #[u] 22)) (.cells #[.slice (some ⟨w.heap.size, 0, none⟩) 1 1, v] 23)
    rwa [World.size_alloc] at this
  have hn0 : w1.heap[w.heap.size]? = some (.cells #[u] 22) := by
    rw [hw1]
    exact (Below.heap_alloc _ _ _ (by simp)).trans (World.alloc_heap_new w _)
  have c0 : w1.cell? ⟨w.heap.size + 1, 0, none⟩ = some (.slice (some ⟨w.heap.size, 0, none⟩) 1 1) := by unfold World.cell?; rw [hn]; rfl
  have c1 : w1.cell? ⟨w.heap.size + 1, 1, none⟩ = some v := by unfold World.cell?; rw [hn]; rfl
  have k0 : w1.cell? ⟨w.heap.size, 0, none⟩ = some u := by unfold World.cell?; rw [hn0]; rfl
  have hz : w.heap.size + 1 < w1.heap.size := by rw [hw1]; simp
  have hR1 : RowV w1 (.slice (some ⟨w.heap.size, 0, none⟩) 1 1) [u] := by
    refine ⟨_, 1, rfl, Nat.le_refl _, by unfold maxLen; omega, by simp, fun z hz => ?_, fun _ => ⟨w.heap.size, 0, rfl, by omega, fun i hi => ?_⟩⟩
    · have : z = u := by simpa using hz
      rw [this]; exact hq.one
    · have : i = 0 := by simpa using hi
      subst this
      exact k0
  have hc := concatR2 w1 (w.heap.size + 1) _ _ [u] us c0 c1 hR1 (h1.below hB1 (Nat.le_refl _)) (by simp) (by omega) hz
  rw [← hw1]
  refine hc.mono ?_
  rintro e w2 ⟨v', rfl, ho, hb⟩
  have hB2 : Below w.heap.size w w2 := hB1.trans (hb.mono hB1.size)
  have hall : RowsV w ([u] ++ us) (q :: rs) := ⟨hq, h2⟩
  exact ⟨v', rfl, RunsN.of_vals (RowV.of_owns ho hall.one) (hall.below hB2 (Nat.le_refl _)), hB2, (FreshV.of_owns ho).mono hB1.size⟩
theorem cat_ahead (w : World) (g : Nat) (hg : g = w.heap.size) (u v : Value) (q : List Cnt) (rs : List (List Cnt)) (hq : CntN w u q) (hv : RunsN w v rs) (hl : rs.length ≤ 100000) :
    Calls Try.prog 61 #[.slice (some ⟨g + 1, 0, none⟩) 2 2] ((w.alloc (.cells #[u] 22)).alloc (.cells #[.slice (some ⟨g, 0, none⟩) 1 1, v] 23))
      fun e w' => ∃ v', e = .returned v' ∧ RunsN w' v' (q :: rs) ∧ Below w.heap.size w w' :=
  (cat_aheadF w g hg u v q rs hq hv hl).mono fun _ _ ⟨v', h1, h2, h3, _⟩ => ⟨v', h1, h2, h3⟩
set_option maxRecDepth 20000 in
set_option maxHeartbeats 1000000 in
theorem rows_any (w : World) (vm vr : Value) (m : List Cnt) (rs : List (List Cnt)) (hm : CntN w vm m) (hr : RunsN w vr rs) (hl : rs.length ≤ 100000) :
    Calls Try.prog 34 #[LsmV vm vr] w fun e w' => ∃ v', e = .returned v' ∧ RunsN w' v' (m :: rs) ∧ Below w.heap.size w w' := by
  obtain ⟨wE, hwE⟩ : ∃ wE, wE = w.alloc (.cells #[vm, vr] 25) := ⟨_, rfl⟩
  have HWE := Lib.hid hwE.symm
  have HBE : Hid (Below w.heap.size w wE) := by rw [hwE]; exact (Below.refl _ _).alloc (Nat.le_refl _) _
  have HC := Lib.hid (cat_ahead wE (w.heap.size + 1) (by rw [hwE]; simp) vm vr m rs (hm.below HBE.out (Nat.le_refl _)) (hr.below HBE.out (Nat.le_refl _)) hl)
  have q1 : wE.heap[w.heap.size]? = some (.cells #[vm, vr] 25) := by rw [hwE]; exact World.alloc_heap_new w _
  have x0 : wE.cell? ⟨w.heap.size, 0, none⟩ = some vm := by unfold World.cell?; rw [q1]; rfl
  have x1 : wE.cell? ⟨w.heap.size, 1, none⟩ = some vr := by unfold World.cell?; rw [q1]; rfl
  have hsz : w.heap.size < wE.heap.size := by rw [hwE]; simp
  obtain ⟨A0, c0, rfl, z0⟩ := hm.1.shape
  obtain ⟨A, c, rfl, z1, z2⟩ := hr.shape
  clear q1 hwE z0 hm hr
  unfold LsmV
  go_enter Try.func34, Try.ntmps34
  go_wp2_with fail
  rw [HWE.out]
  go_wp2_with fail
  refine HC.out.mono ?_
  rintro e w1 ⟨v1, rfl, hR, hB⟩
  have HR := Lib.hid hR
  have HB := Lib.hid (HBE.out.trans (hB.mono HBE.out.size))
  clear hR hB HC
  go_wp2_with fail
  go_ret
  exact ⟨_, rfl, HR.out, HB.out⟩
theorem getL_take (m : List Cnt) (rs : List (List Cnt)) (j : Nat) (k : ByteArray) : sumIn ((m :: rs).take (j + 1)) k = inL m k + sumIn (rs.take j) k := by
  unfold sumIn; simp
set_option maxRecDepth 20000 in
set_option maxHeartbeats 2000000 in
theorem pGet_any (w : World) (vm vr : Value) (m : List Cnt) (rs : List (List Cnt)) (k : ByteArray) (hm : CntN w vm m) (hr : RunsN w vr rs) (ok : ∀ r ∈ m :: rs, okR r) (l1 : m.length + total rs ≤ 1000000) (l2 : rs.length ≤ 100) :
    Calls Try.prog 22 #[LsmV vm vr, .string k] w fun e w' => e = .returned (.int .i64 (getL m rs k)) ∧ Below w.heap.size w w' := by
  obtain ⟨wE, hwE⟩ : ∃ wE, wE = w.alloc (.cells #[vm, vr] 25) := ⟨_, rfl⟩
  have HWE := Lib.hid hwE.symm
  have HBE : Hid (Below w.heap.size w wE) := by rw [hwE]; exact (Below.refl _ _).alloc (Nat.le_refl _) _
  have HC := Lib.hid (rows_any wE vm vr m rs (hm.below HBE.out (Nat.le_refl _)) (hr.below HBE.out (Nat.le_refl _)) (by omega))
  have q1 : wE.heap[w.heap.size]? = some (.cells #[vm, vr] 25) := by rw [hwE]; exact World.alloc_heap_new w _
  have x0 : wE.cell? ⟨w.heap.size, 0, none⟩ = some vm := by unfold World.cell?; rw [q1]; rfl
  have x1 : wE.cell? ⟨w.heap.size, 1, none⟩ = some vr := by unfold World.cell?; rw [q1]; rfl
  have hsz : w.heap.size < wE.heap.size := by rw [hwE]; simp
  have HLB : Hid (∀ j, -1000000000000 ≤ sumIn ((m :: rs).take j) k ∧ sumIn ((m :: rs).take j) k ≤ 1000000000000) := fun j => sumIn_small k (m :: rs) (fun r hr => inL_bound2 (ok r hr) k) (by simp; omega) j
  have HOK := Lib.hid ok
  have HLL : Hid (∀ r ∈ m :: rs, r.length ≤ 1000000) := fun r hr => by
    rcases List.mem_cons.1 hr with rfl | hr
    · omega
    · have := total_mem hr; omega
  have HGE : Hid (getL m rs k = sumIn (m :: rs) k) := by unfold Hid getL sumIn; simp
  obtain ⟨A0, c0, rfl, z0⟩ := hm.1.shape
  obtain ⟨A, c, rfl, z1, z2⟩ := hr.shape
  clear q1 hwE z0 hm hr z1 z2 ok l1
  unfold LsmV at HC
  unfold LsmV
  generalize hq : m :: rs = q at *
  have hql : q.length ≤ 101 := by rw [← hq]; simp; omega
  clear hq
  go_enter Try.func22, Try.ntmps22
  go_wp2_with fail
  rw [HWE.out]
  go_wp2_with fail
  refine HC.out.mono ?_
  rintro e w1 ⟨v1, rfl, hR, hB⟩
  have HR := Lib.hid hR
  have HB := Lib.hid (HBE.out.trans (hB.mono HBE.out.size))
  obtain ⟨⟨A1, c1, rfl, y2, y3, y4⟩, _⟩ := hR
  have HCC := Lib.hid y4
  obtain ⟨n, hn⟩ : ∃ n, n = q.length := ⟨_, rfl⟩
  have HN := Lib.hid hn
  rw [← hn] at y2 hql
  rw [← hn]
  clear hB HC y4 hn HR HWE HBE x0 x1
  go_wp2_with fail
  go_loopw [11, 5] (fun a s wr => ∃ j : Nat, j ≤ n ∧ a = .int .i64 j ∧ s = .int .i64 (sumIn (q.take j) k) ∧ Hid (Below w1.heap.size w1 wr)) (fun a _ _ => n - (intOf a).toNat)
  case atStart => exact ⟨0, Nat.zero_le _, rfl, by simp [sumIn], Below.refl _ _⟩
  case round =>
    obtain ⟨j, hj, rfl, rfl, HW⟩ := hrel
    have hsj := HLB.out j
    by_cases hlt : j < n
    · have hlt' : (j : Int) < (n : Int) := by omega
      have hjl : j < q.length := by rw [← HN.out]; exact hlt
      obtain ⟨b, off, rfl, hblt, hc⟩ := HCC.out (by omega)
      obtain ⟨u, c1', c2⟩ := hc j hjl
      have cu := (HW.out.cell (p := ⟨b, off + j, none⟩) hblt).trans c1'
      have HI := Lib.hid (lin_any wr u q[j] k (c2.1.below HW.out (Nat.le_refl _)) (HOK.out q[j] (List.getElem_mem hjl)).1 (by have := HLL.out q[j] (List.getElem_mem hjl); omega))
      have HT := Lib.hid (sumIn_take q j hjl k)
      have hsj1 := HLB.out (j + 1)
      rw [HT.out] at hsj1
      obtain ⟨Au, cu', hu, hz⟩ := c2.1.shape
      subst hu
      clear hc c1' c2 hz
      generalize q[j].length = ql at *
      generalize inL q[j] k = x at *
      go_wp2_with fail
      refine HI.out.mono ?_
      rintro e w2 ⟨rfl, b2⟩
      have HW2 : Hid (Below w1.heap.size w1 w2) := HW.out.trans (b2.mono HW.out.size)
      clear b2
      go_wp2_with fail
      go_roundw
      case rel => exact ⟨j + 1, by omega, by go_num, by rw [HT.out], HW2⟩
      case measure => simp [intOf]; omega
    · obtain rfl : j = n := by omega
      have HE : Hid (getL m rs k = sumIn (q.take j) k) := by unfold Hid; rw [HGE.out, HN.out, List.take_length]
      go_wp2_with fail
      go_ret
      rw [HE.out]
      exact ⟨rfl, HB.out.trans (HW.out.mono HB.out.size)⟩
end Go.Proofs.Yteidlngffikboaa
