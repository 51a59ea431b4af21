/- Walks: chapter 38's document: in, Get, row, Fit. -/
import Derived.Deep.QuietTactic
import Derived.BigQuiet
import Derived.Test.YteidlngffikboaaLsmRow
namespace Go.Proofs.Yteidlngffikboaa
open Go.RowKit
set_option linter.unusedVariables false
set_option linter.unusedSimpArgs false
theorem below_drewN (w : World) (n : Nat) : Below w.heap.size w (w.drewN n) := by
  induction n with
  | zero => exact Below.refl _ _
  | succ n ih => exact Below.drew ih
def chkC (p : Option ByteArray) (x : Cnt) : Bool := decide (x.1.size = 32) && (match p with | none => true | some k => bl k x.1) && decide (x.2 ≠ 0) && decide (-bnd ≤ x.2 ∧ x.2 ≤ bnd)
def chkL : Option ByteArray → List Cnt → Bool
  | _, [] => true
  | p, x :: l => chkC p x && chkL (some x.1) l
theorem chkL_some : ∀ (l : List Cnt) (k : ByteArray), chkL (some k) l = true ↔ (∀ x ∈ l, bl k x.1 = true) ∧ okR l
  | [], k => by simp [chkL, okR_nil]
  | x :: l, k => by
    rw [chkL, Bool.and_eq_true, chkL_some l x.1]
    unfold chkC okR
    simp only [Bool.and_eq_true, decide_eq_true_eq, risC_cons, List.mem_cons, forall_eq_or_imp]
    constructor
    · rintro ⟨⟨⟨⟨a, b⟩, c⟩, d⟩, e, f, g⟩
      exact ⟨⟨b, fun z hz => bl_trans b (e z hz)⟩, ⟨e, f⟩, ⟨a, c, d⟩, g⟩
    · rintro ⟨⟨b, _⟩, ⟨e, f⟩, ⟨a, c, d⟩, g⟩
      exact ⟨⟨⟨⟨a, b⟩, c⟩, d⟩, e, f, g⟩
theorem chkL_none (l : List Cnt) : chkL none l = true ↔ okR l := by
  cases l with
  | nil => simp [chkL, okR_nil]
  | cons x l =>
    rw [chkL, Bool.and_eq_true, chkL_some]
    unfold chkC okR
    simp only [Bool.and_eq_true, decide_eq_true_eq, risC_cons, List.mem_cons, forall_eq_or_imp]
    constructor
    · rintro ⟨⟨⟨⟨a, b⟩, c⟩, d⟩, e, f, g⟩
      exact ⟨⟨e, f⟩, ⟨a, c, d⟩, g⟩
    · rintro ⟨⟨e, f⟩, ⟨a, c, d⟩, g⟩
      exact ⟨⟨⟨⟨a, trivial⟩, c⟩, d⟩, e, f, g⟩
def prevL (l : List Cnt) (j : Nat) : Option ByteArray := if j = 0 then none else (l[j - 1]?).map Prod.fst
theorem chk_step (l : List Cnt) (j : Nat) (h : j < l.length) : chkL (prevL l j) (l.drop j) = (chkC (prevL l j) l[j] && chkL (prevL l (j + 1)) (l.drop (j + 1))) := by
  rw [List.drop_eq_getElem_cons h, chkL]
  have e : prevL l (j + 1) = some l[j].1 := by unfold prevL; rw [if_neg (by omega)]; simp [h]
  rw [e]
def rowB (l : List Cnt) (most : Int) : Bool := decide ((l.length : Int) ≤ most) && chkL none l
theorem rowB_ok (l : List Cnt) (most : Int) : rowB l most = true ↔ (l.length : Int) ≤ most ∧ okR l := by
  unfold rowB
  rw [Bool.and_eq_true, decide_eq_true_eq, chkL_none]
set_option maxHeartbeats 1000000 in
theorem within_any (n b : Int) (hb : 0 ≤ b ∧ b ≤ 1000000000) (w : World) : Calls Try.prog 44 #[.int .i64 n, .int .i64 b] w fun e w' => e = .returned (.bool (decide (-b ≤ n ∧ n ≤ b))) ∧ w = w' := by
  by_cases h1 : -b ≤ n
  · by_cases h2 : n ≤ b
    · rw [decide_eq_true ⟨h1, h2⟩]
      go_enter Try.func44, Try.ntmps44
      go_wp2
      go_ret
      exact ⟨rfl, rfl⟩
    · rw [decide_eq_false (fun h => h2 h.2)]
      have h2' : b < n := by omega
      go_enter Try.func44, Try.ntmps44
      go_wp2
      go_ret
      exact ⟨rfl, rfl⟩
  · rw [decide_eq_false (fun h => h1 h.1)]
    have h1' : n < -b := by omega
    go_enter Try.func44, Try.ntmps44
    go_wp2
    go_ret
    exact ⟨rfl, rfl⟩
end Go.Proofs.Yteidlngffikboaa

/- Here ends the text LsmR2; here begins LsmR1. -/
namespace Go.Proofs.Yteidlngffikboaa
open Go.RowKit
set_option linter.unusedVariables false
set_option linter.unusedSimpArgs false
theorem inL_drop (l : List Cnt) (j : Nat) (h : j < l.length) (k : ByteArray) : inL (l.drop j) k = if l[j].1 = k then l[j].2 else inL (l.drop (j + 1)) k := by
  rw [List.drop_eq_getElem_cons h, inL]
theorem str_eq_t {a b : ByteArray} (h : a = b) : (a.toList == b.toList) = true := by rw [h]; simp
theorem str_eq_f {a b : ByteArray} (h : a ≠ b) : (a.toList == b.toList) = false := by
  refine Bool.eq_false_iff.2 fun e => h ?_
  rw [ByteArray.toList_eq, ByteArray.toList_eq] at e
  exact ByteArray.ext (Array.toList_inj.1 (by simpa using e))
set_option maxHeartbeats 1000000 in
theorem rin_any (w : World) (v : Value) (l : List Cnt) (k : ByteArray) (h : CntB w v l) (hl : l.length ≤ 1000000) :
    Calls Try.prog 50 #[v, .string k] w fun e w' => e = .returned (.int .i64 (inL l k)) ∧ w = w' := by
  obtain ⟨A, c, rfl, h2, h3, h4⟩ := h
  have hc9 : c ≤ 9223372036854775807 := by unfold maxLen at h3; omega
  have HC := Lib.hid h4
  obtain ⟨n, hn⟩ : ∃ n, n = l.length := ⟨_, rfl⟩
  have HN := Lib.hid hn
  rw [← hn] at h2 hl
  clear h4
  rw [← hn]
  clear hn
  go_enter Try.func50, Try.ntmps50
  go_wp2_with fail
  go_loop [5] (fun a => ∃ j : Nat, j ≤ n ∧ a = .int .i64 j ∧ Hid (inL l k = inL (l.drop j) k)) (fun a => n - (intOf a).toNat)
  case atStart => exact ⟨0, Nat.zero_le _, rfl, by unfold Hid; rfl⟩
  case round =>
    obtain ⟨j, hj, rfl, HI⟩ := hrel
    by_cases hlt : j < n
    · have hjl : j < l.length := by rw [← HN.out]; exact hlt
      obtain ⟨b, off, rfl, hb, hc⟩ := HC.out (by omega)
      obtain ⟨c1, c2⟩ := hc j hjl
      have hs := inL_drop l j hjl k
      by_cases he : l[j].1 = k
      · rw [if_pos he] at hs
        have HE := Lib.hid (HI.out.trans hs)
        have ht := str_eq_t he
        clear hs he HI HC hc
        generalize l[j].1 = x at *
        generalize l[j].2 = y at *
        go_wp2_with fail
        go_ret
        rw [HE.out]
        exact ⟨rfl, rfl⟩
      · rw [if_neg he] at hs
        have HE := Lib.hid (HI.out.trans hs)
        have ht := str_eq_f he
        clear hs he HI HC hc
        generalize l[j].1 = x at *
        generalize l[j].2 = y at *
        go_wp2_with fail
        exact ⟨⟨j + 1, by omega, by go_num, HE⟩, by simp [intOf]; omega⟩
    · obtain rfl : j = n := by omega
      have HE : Hid (inL l k = 0) := by unfold Hid; rw [HI.out, List.drop_eq_nil_of_le (by rw [HN.out]; exact Nat.le_refl _)]; rfl
      clear HI HC
      go_wp2_with fail
      go_ret
      rw [HE.out]
      exact ⟨rfl, rfl⟩
/-- such counts, as a struct -/
def LsmV (vm vr : Value) : Value := .agg #[vm, vr]
def getL (m : List Cnt) (rs : List (List Cnt)) (k : ByteArray) : Int := inL m k + sumIn rs k
theorem sumIn_take (rs : List (List Cnt)) (j : Nat) (h : j < rs.length) (k : ByteArray) : sumIn (rs.take (j + 1)) k = sumIn (rs.take j) k + inL rs[j] k := by
  unfold sumIn
  rw [List.take_succ_eq_append_getElem h, List.map_append, List.sum_append]
  simp
theorem sumIn_bound (k : ByteArray) : ∀ (rs : List (List Cnt)), (∀ r ∈ rs, -bnd ≤ inL r k ∧ inL r k ≤ bnd) → -(bnd * rs.length) ≤ sumIn rs k ∧ sumIn rs k ≤ bnd * rs.length
  | [], _ => by simp [sumIn]
  | r :: rs, h => by
    have h1 := h r (by simp)
    have h2 := sumIn_bound k rs (fun z hz => h z (by simp [hz]))
    unfold sumIn at h2 ⊢
    unfold bnd at *
    simp only [List.map_cons, List.sum_cons, List.length_cons]
    omega
theorem sumIn_small (k : ByteArray) (rs : List (List Cnt)) (h : ∀ r ∈ rs, -bnd ≤ inL r k ∧ inL r k ≤ bnd) (hl : rs.length ≤ 1000) (j : Nat) : -1000000000000 ≤ sumIn (rs.take j) k ∧ sumIn (rs.take j) k ≤ 1000000000000 := by
  have := sumIn_bound k (rs.take j) (fun z hz => h z (List.mem_of_mem_take hz))
  have hlen : (rs.take j).length ≤ 1000 := by rw [List.length_take]; omega
  unfold bnd at this
  omega
set_option maxHeartbeats 2000000 in
theorem rGet_any (w : World) (vm vr : Value) (m : List Cnt) (rs : List (List Cnt)) (k : ByteArray) (hm : CntB w vm m) (hr : RunsB w vr rs) (l1 : m.length ≤ 1000000) (l2 : ∀ r ∈ rs, r.length ≤ 1000000) (l3 : rs.length ≤ 1000)
    (hb : ∀ r ∈ m :: rs, -bnd ≤ inL r k ∧ inL r k ≤ bnd) :
    Calls Try.prog 23 #[LsmV vm vr, .string k] w fun e w' => e = .returned (.int .i64 (getL m rs k)) ∧ Below w.heap.size w w' := by
  have hbm := hb m (by simp)
  have hbr : ∀ r ∈ rs, -bnd ≤ inL r k ∧ inL r k ≤ bnd := fun r hr => hb r (by simp [hr])
  have HS := Lib.hid (sumIn_small k rs hbr l3)
  have hB : ∀ o, Below w.heap.size w (w.alloc o) := fun o => (Below.refl _ _).alloc (Nat.le_refl _) o
  obtain ⟨A, c, rfl, h2, h3, h4⟩ := hr
  obtain ⟨A0, c0, hvm, _⟩ := hm.shape
  subst hvm
  have hc9 : c ≤ 9223372036854775807 := by unfold maxLen at h3; omega
  have HM := Lib.hid (fun w' (h : Below w.heap.size w w') => rin_any w' _ m k (hm.below h (Nat.le_refl _)) l1)
  have HC := Lib.hid h4
  have HB := Lib.hid hB
  obtain ⟨n, hn⟩ : ∃ n, n = rs.length := ⟨_, rfl⟩
  have HN := Lib.hid hn
  rw [← hn] at h2 l3
  clear h4 hm hB hb hbr
  rw [← hn]
  clear hn
  unfold LsmV
  generalize hmi : inL m k = mi at *
  have HMI := Lib.hid hmi
  clear hmi
  unfold bnd at hbm
  go_enter Try.func23, Try.ntmps23
  go_wp2_with fail
  refine (HM.out _ (HB.out _)).mono ?_
  rintro e w1 ⟨rfl, rfl⟩
  go_wp2_with fail
  go_loop [6, 5] (fun a s => ∃ j : Nat, j ≤ n ∧ a = .int .i64 j ∧ s = .int .i64 (mi + sumIn (rs.take j) k)) (fun a _ => n - (intOf a).toNat)
  case atStart => exact ⟨0, Nat.zero_le _, rfl, by simp [sumIn]⟩
  case round =>
    obtain ⟨j, hj, rfl, rfl⟩ := hrel
    have hsj := HS.out j
    by_cases hlt : j < n
    · have hjl : j < rs.length := by rw [← HN.out]; exact hlt
      obtain ⟨b, off, rfl, hblt, hc⟩ := HC.out (by omega)
      obtain ⟨u, c1, c2⟩ := hc j hjl
      have cu := ((HB.out (.cells #[.slice A0 m.length c0, .slice (some ⟨b, off, none⟩) n c] 25)).cell (p := ⟨b, off + j, none⟩) hblt).trans c1
      have hrj := l2 rs[j] (List.getElem_mem hjl)
      have HI := Lib.hid (fun o => rin_any (w.alloc o) u rs[j] k (c2.1.below (HB.out o) (Nat.le_refl _)) hrj)
      have HT := Lib.hid (sumIn_take rs j hjl k)
      have hsj1 := HS.out (j + 1)
      rw [HT.out] at hsj1
      obtain ⟨Au, cu', hu, hz⟩ := c2.1.shape
      subst hu
      clear hc c1 c2 hz
      generalize rs[j].length = q at *
      generalize inL rs[j] k = x at *
      go_wp2_with fail
      refine (HI.out _).mono ?_
      rintro e w1 ⟨rfl, rfl⟩
      go_wp2_with fail
      exact ⟨⟨j + 1, by omega, by go_num, by rw [HT.out]; go_num⟩, by simp [intOf]; omega⟩
    · obtain rfl : j = n := by omega
      have HE : Hid (getL m rs k = mi + sumIn (rs.take j) k) := by unfold Hid getL; rw [HMI.out, HN.out, List.take_length]
      go_wp2_with fail
      go_ret
      rw [HE.out]
      exact ⟨rfl, HB.out _⟩
end Go.Proofs.Yteidlngffikboaa
