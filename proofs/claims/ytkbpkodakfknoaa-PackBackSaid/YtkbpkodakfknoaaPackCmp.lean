/- Comparing of texts; a slot against a key; the binary search among slots. -/
import Derived.Test.YtkbpkodakfknoaaPackPlain
import Derived.Test.YtkbpkodakfknoaaInsert
import Derived.WalkKit
import Derived.WalkSpells
import Derived.WalkLawsBesides
import Derived.Deep.QuietTactic
import Derived.BigQuiet
namespace Go.Proofs.Ytkbpkodakfknoaa
open Go.RowKit
set_option linter.unusedVariables false
set_option linter.unusedSimpArgs false
theorem toList_data (s : ByteArray) : s.toList = s.data.toList := ByteArray.toList_eq s
theorem toList_neqs (x : ByteArray) : (x.toList != x.toList) = false := by simp
set_option maxRecDepth 20000 in
set_option maxHeartbeats 1000000 in
theorem nanS_any (a : ByteArray) (w : World) : Calls Try.prog 60 #[.string a] w fun e w' => e = .returned (.bool false) ∧ w = w' := by
  have h := toList_neqs a
  go_enter Try.func60, Try.ntmps60
  go_wp2
  go_ret
  exact ⟨rfl, rfl⟩
set_option maxRecDepth 20000 in
set_option maxHeartbeats 1000000 in
theorem cmpS_any (a b : ByteArray) (w : World) : Calls Try.prog 44 #[.string a, .string b] w fun e w' => e = .returned (.int .i64 (cmpS a b)) ∧ w = w' := by
  have HN := Lib.hid nanS_any
  unfold cmpS
  cases h1 : bl a b with
  | true =>
    have d1 : Op.bytesLess a.toList b.toList = true := by rw [toList_data, toList_data]; exact h1
    rw [if_pos rfl]
    clear h1
    go_enter Try.func44, Try.ntmps44
    go_wp2_with fail
    refine (HN.out _ _).mono ?_
    rintro e w' ⟨rfl, rfl⟩
    go_wp2_with fail
    refine (HN.out _ _).mono ?_
    rintro e w' ⟨rfl, rfl⟩
    go_wp2_with fail
    go_ret
    exact ⟨rfl, rfl⟩
  | false =>
    have d1 : Op.bytesLess a.toList b.toList = false := by rw [toList_data, toList_data]; exact h1
    rw [if_neg (by decide)]
    cases h2 : bl b a with
    | true =>
      have d2 : (a.toList == b.toList) = false := by
        rw [beq_eq_false_iff_ne, toList_data, toList_data]
        intro e
        have e' : a = b := ByteArray.ext (Array.toList_inj.1 e)
        rw [e', bl_irrefl] at h2; cases h2
      rw [if_pos rfl]
      clear h1 h2
      go_enter Try.func44, Try.ntmps44
      go_wp2_with fail
      refine (HN.out _ _).mono ?_
      rintro e w' ⟨rfl, rfl⟩
      go_wp2_with fail
      refine (HN.out _ _).mono ?_
      rintro e w' ⟨rfl, rfl⟩
      go_wp2_with fail
      go_ret
      exact ⟨rfl, rfl⟩
    | false =>
      have d2 : (a.toList == b.toList) = true := by rw [bl_total h1 h2]; simp
      rw [if_neg (by decide)]
      clear h1 h2
      go_enter Try.func44, Try.ntmps44
      go_wp2_with fail
      refine (HN.out _ _).mono ?_
      rintro e w' ⟨rfl, rfl⟩
      go_wp2_with fail
      refine (HN.out _ _).mono ?_
      rintro e w' ⟨rfl, rfl⟩
      go_wp2_with fail
      go_ret
      exact ⟨rfl, rfl⟩
set_option maxRecDepth 20000 in
set_option maxHeartbeats 1000000 in
theorem order_any (x : Slt) (k : ByteArray) (w : World) : Calls Try.prog 27 #[.agg #[.string x.1, .int .i64 x.2.1, .int .i64 x.2.2], .string k] w fun e w' => e = .returned (.int .i64 (cmpS x.1 k)) ∧ Below w.heap.size w w' := by
  have HC := Lib.hid cmpS_any
  go_enter Try.func27, Try.ntmps27
  go_wp2_with fail
  refine (HC.out _ _ _).mono ?_
  rintro e w' ⟨rfl, rfl⟩
  go_wp2
  go_ret
  exact ⟨rfl, (Below.refl _ _).alloc (Nat.le_refl _) _⟩
/-- a row of slots, readable -/
def SlotsB (w : World) (v : Value) (l : List Slt) : Prop :=
  ∃ A c, v = .slice A l.length c ∧ l.length ≤ c ∧ c ≤ maxLen ∧ (0 < l.length → ∃ b off, A = some ⟨b, off, none⟩ ∧ b < w.heap.size ∧ ∀ i (h : i < l.length), w.cell? ⟨b, off + i * 3, none⟩ = some (.string l[i].1) ∧ w.cell? ⟨b, off + i * 3 + 1, none⟩ = some (.int .i64 l[i].2.1) ∧ w.cell? ⟨b, off + i * 3 + 2, none⟩ = some (.int .i64 l[i].2.2))
theorem SlotsB.below {w w' : World} {v : Value} {l : List Slt} {B : Nat} (h : SlotsB w v l) (hb : Below B w w') (hB : w.heap.size ≤ B) : SlotsB w' v l := by
  obtain ⟨A, c, h1, h2, h3, h4⟩ := h
  refine ⟨A, c, h1, h2, h3, fun hl => ?_⟩
  obtain ⟨b, off, e1, e2, e3⟩ := h4 hl
  refine ⟨b, off, e1, Nat.lt_of_lt_of_le e2 hb.size, fun i hi => ?_⟩
  obtain ⟨c1, c2, c3⟩ := e3 i hi
  have hlt : b < B := Nat.lt_of_lt_of_le e2 hB
  exact ⟨(hb.cell (p := ⟨b, off + i * 3, none⟩) hlt).trans c1, (hb.cell (p := ⟨b, off + i * 3 + 1, none⟩) hlt).trans c2, (hb.cell (p := ⟨b, off + i * 3 + 2, none⟩) hlt).trans c3⟩
theorem SlotsB.of_owns {w : World} {v : Value} {l : List Slt} {B : Nat} (h : w.ownsRow B 30 3 v l.length (slts l)) : SlotsB w v l := by
  rcases h.2 with ⟨hv, h0⟩ | ⟨g, cap, cur, hv, hb, hg, h1, h2, h3, h4⟩
  · exact ⟨none, 0, by rw [hv, h0], by omega, by unfold maxLen; omega, fun hl => by omega⟩
  · refine ⟨_, cap, hv, h1, h2, fun hl => ⟨g, 0, rfl, (Array.getElem?_eq_some_iff.1 hg).1, fun i hi => ?_⟩⟩
    have hc : ∀ j u, (slts l)[j]? = some u → w.cell? ⟨g, 0 + j, none⟩ = some u := fun j u hj => by
      rw [← h4] at hj
      have hlt : j < l.length * 3 := by
        refine Decidable.byContradiction fun hh => ?_
        rw [List.getElem?_eq_none (by rw [List.length_take]; omega)] at hj
        cases hj
      rw [List.getElem?_take_of_lt hlt] at hj
      simp only [World.cell?, hg]
      simpa using hj
    obtain ⟨s1, s2, s3⟩ := slts_get l i hi
    exact ⟨hc _ _ s1, by rw [Nat.add_assoc]; exact hc _ _ s2, by rw [Nat.add_assoc]; exact hc _ _ s3⟩
set_option maxRecDepth 20000 in
set_option maxHeartbeats 2000000 in
theorem bs_any (v : Value) (l : List Slt) (k : ByteArray) (w : World) (hv : SlotsB w v l) (hr : RisS l) (hl : l.length ≤ 1000000000) :
    Calls Try.prog 26 #[v, .string k, .func (.func 27) #[] #[]] w fun e w' => e = .returned (.tuple #[.int .i64 (place l k : Nat), .bool (hasAt l k)]) ∧ Below w.heap.size w w' := by
  have HP := Lib.hid (place_lt l k hr)
  have hpl := place_le l k
  have HOr := Lib.hid (fun x w => order_any x k w)
  have HV := Lib.hid hv
  obtain ⟨A, c, rfl, h2, h3, h4⟩ := hv
  have hc9 : c ≤ 9223372036854775807 := by unfold maxLen at h3; omega
  obtain ⟨b, off, hb⟩ : ∃ b off, 0 < l.length → A = some ⟨b, off, none⟩ ∧ b < w.heap.size ∧ ∀ i (h : i < l.length), w.cell? ⟨b, off + i * 3, none⟩ = some (.string l[i].1) ∧ w.cell? ⟨b, off + i * 3 + 1, none⟩ = some (.int .i64 l[i].2.1) ∧ w.cell? ⟨b, off + i * 3 + 2, none⟩ = some (.int .i64 l[i].2.2) := by
    by_cases h0 : 0 < l.length
    · obtain ⟨b, off, h⟩ := h4 h0; exact ⟨b, off, fun _ => h⟩
    · exact ⟨0, 0, fun h => absurd h h0⟩
  have HB := Lib.hid hb
  obtain ⟨p, hp⟩ : ∃ p, p = place l k := ⟨_, rfl⟩
  obtain ⟨q, hq⟩ : ∃ q, q = hasAt l k := ⟨_, rfl⟩
  have HQ := Lib.hid hq
  have HPE := Lib.hid hp
  rw [← hp] at hpl HP ⊢
  rw [← hq]
  obtain ⟨n, hn⟩ : ∃ n, n = l.length := ⟨_, rfl⟩
  have HN := Lib.hid hn
  rw [← hn] at hpl hl h2 ⊢
  clear hp hq hb h3 h4 hr hn
  go_enter Try.func26, Try.ntmps26
  go_wp2_with fail
  go_loopw [9, 10] (fun a b' wr => ∃ i j : Nat, i ≤ p ∧ p ≤ j ∧ j ≤ n ∧ a = .int .i64 i ∧ b' = .int .i64 j ∧ Hid (Below w.heap.size w wr)) (fun a b' _ => (intOf b' - intOf a).toNat)
  case atStart => exact ⟨0, n, Nat.zero_le _, hpl, Nat.le_refl _, rfl, rfl, Below.refl _ _⟩
  case round =>
    obtain ⟨i, j, hi, hj, hjn, rfl, rfl, HBr⟩ := hrel
    by_cases hlt : i < j
    · have hlt' : (i : Int) < (j : Int) := by omega
      have hij : (0 : Int) ≤ (i : Int) + (j : Int) := by omega
      have hij2 : (i : Int) + (j : Int) ≤ 4000000000 := by omega
      have hnn := HN.out
      obtain ⟨rfl, hblt, hcells⟩ := HB.out (by omega)
      obtain ⟨m, hm⟩ : ∃ m, m = (i + j) / 2 := ⟨_, rfl⟩
      have hmid : ((i : Int) + (j : Int)) / 2 = (m : Int) := by omega
      have hml : m < l.length := by omega
      have hmn : (m : Int) < (n : Int) := by omega
      have hmi : i ≤ m := by omega
      have hmj : m < j := by omega
      obtain ⟨x1, x2, x3⟩ := hcells m hml
      have y1 := (HBr.out.cell (p := ⟨b, off + m * 3, none⟩) hblt).trans x1
      have y2 := (HBr.out.cell (p := ⟨b, off + m * 3 + 1, none⟩) hblt).trans x2
      have y3 := (HBr.out.cell (p := ⟨b, off + m * 3 + 2, none⟩) hblt).trans x3
      have hpm := HP.out m hml
      rw [← cmpS_neg] at hpm
      have HOm := Lib.hid (HOr.out l[m])
      generalize l[m] = x at *
      have hm0 : (0 : Int) ≤ (m : Int) := by omega
      by_cases hmp : m < p
      · have hneg : decide (cmpS x.1 k < 0) = true := by rw [hpm]; simpa using hmp
        clear hpm x1 x2 x3 hcells hm hnn hij2
        go_wp2_with fail
        refine (HOm.out _).mono ?_
        rintro e w2 ⟨rfl, b2⟩
        have HB2 := Lib.hid (HBr.out.trans (b2.mono HBr.out.size))
        clear b2 y1 y2 y3
        go_wp2_with fail
        go_roundw
        case rel => exact ⟨m + 1, j, by omega, hj, hjn, by go_num, rfl, HB2⟩
        case measure => simp [intOf]; omega
      · have hneg : decide (cmpS x.1 k < 0) = false := by rw [hpm]; simpa using hmp
        clear hpm x1 x2 x3 hcells hm hnn hij2
        go_wp2_with fail
        refine (HOm.out _).mono ?_
        rintro e w2 ⟨rfl, b2⟩
        have HB2 := Lib.hid (HBr.out.trans (b2.mono HBr.out.size))
        clear b2 y1 y2 y3
        go_wp2_with fail
        go_roundw
        case rel => exact ⟨i, m, hi, by omega, by omega, rfl, rfl, HB2⟩
        case measure => simp [intOf]; omega
    · obtain rfl : i = j := by omega
      obtain rfl : i = p := by omega
      by_cases hin : i < n
      · have hin' : (i : Int) < (n : Int) := by omega
        have hnn := HN.out
        obtain ⟨rfl, hblt, hcells⟩ := HB.out (by omega)
        have hml : i < l.length := by omega
        obtain ⟨x1, x2, x3⟩ := hcells i hml
        have y1 := (HBr.out.cell (p := ⟨b, off + i * 3, none⟩) hblt).trans x1
        have y2 := (HBr.out.cell (p := ⟨b, off + i * 3 + 1, none⟩) hblt).trans x2
        have y3 := (HBr.out.cell (p := ⟨b, off + i * 3 + 2, none⟩) hblt).trans x3
        have hqe : q = decide (cmpS l[i].1 k = 0) := by
          rw [HQ.out]; unfold hasAt; rw [← HPE.out, List.getElem?_eq_getElem hml]
          simp only [cmpS_zero]
        have HOm := Lib.hid (HOr.out l[i])
        generalize l[i] = x at *
        have hqb : (cmpS x.1 k == 0) = q := by rw [hqe]; by_cases h0 : cmpS x.1 k = 0 <;> simp [h0]
        clear hqe x1 x2 x3 hcells hnn
        go_wp2_with fail
        refine (HOm.out _).mono ?_
        rintro e w2 ⟨rfl, b2⟩
        have HB2 := Lib.hid (HBr.out.trans (b2.mono HBr.out.size))
        clear b2 y1 y2 y3
        go_wp2_with fail
        go_ret2
        exact ⟨rfl, HB2.out⟩
      · have hin' : ¬ (i : Int) < (n : Int) := by omega
        have hnn := HN.out
        have hq0 : q = false := by
          rw [HQ.out]; unfold hasAt; rw [← HPE.out, List.getElem?_eq_none (by omega)]
        subst hq0
        clear hnn
        go_wp2_with fail
        go_ret2
        exact ⟨rfl, HBr.out⟩
end Go.Proofs.Ytkbpkodakfknoaa
