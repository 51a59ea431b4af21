/- Plain: chapter 38: how many counts bytes can hold. -/
import Derived.Test.YteidlngffikboaaFrameScan
import Derived.Test.YteidlngffikboaaCrcLaws
import Derived.Test.YteidlngffikboaaVarintLaws
import Derived.Test.YteidlngffikboaaVarintSpec
import Derived.Test.YteidlngffikboaaWords
import Derived.Test.YteidlngffikboaaProg
import Derived.WalkKit
import Derived.WalkSpells
import Derived.WalkLawsBesides
import Derived.Laws.DeepNot64
import Derived.Lib.Hide
import Derived.IntWalk
import Derived.Test.YteidlngffikboaaLsmFit
namespace Go.Proofs.Yteidlngffikboaa
open Go.RowKit
set_option linter.unusedVariables false
theorem vPutText_eq (s : List UInt8) (h : s.length ≤ 65536) : vPutText s = vPut s.length ++ s := by unfold vPutText; rw [if_neg (by omega)]
theorem vPutText_ne (s : List UInt8) (h : s.length ≤ 65536) : vPutText s ≠ [] := by
  rw [vPutText_eq s h]
  intro e
  have := vPut_pos s.length
  have := congrArg List.length e
  rw [List.length_append, List.length_nil] at this
  omega
theorem fWrap_eq (s : List UInt8) (h : s.length ≤ 65536) : fWrap s = vPutText s ++ crcBytes (crcMore 0 (vPutText s)) := by
  unfold fWrap; rw [if_neg (vPutText_ne s h)]
theorem fWrap_len (s : List UInt8) (h : s.length ≤ 65536) : (fWrap s).length = (vPut s.length).length + s.length + 4 := by
  rw [fWrap_eq s h, vPutText_eq s h]; simp [crcBytes_len]; omega
theorem fOpen_wrap (s behind : List UInt8) (h : s.length ≤ 65536) : fOpen (fWrap s ++ behind) = (s, (fWrap s).length, 0) := by
  have ht := vTakeText_put s (crcBytes (crcMore 0 (vPutText s)) ++ behind) h
  rw [fWrap_eq s h, List.append_assoc]
  unfold fOpen
  rw [ht]
  dsimp only
  rw [if_neg (by simp), if_neg (by simp [crcBytes_len]), if_neg ?_]
  · simp [crcBytes_len]
  · rw [List.take_left, List.drop_left, List.take_left' (by rfl)]
    simp
/-- the frames that bytes have: texts, and how long each one's frame is -/
def fGo : Nat → List UInt8 → List (List UInt8 × Nat)
  | 0, _ => []
  | n + 1, s => if s = [] then [] else if (fOpen s).2.2 ≠ 0 then [] else ((fOpen s).1, (fOpen s).2.1) :: fGo n (s.drop (fOpen s).2.1)
def fSum (l : List (List UInt8 × Nat)) : Nat := (l.map (·.2)).sum
theorem fGo_fuel : ∀ (n m : Nat) (s : List UInt8), s.length ≤ n → s.length ≤ m → fGo n s = fGo m s
  | 0, m, s, h, _ => by
    have : s = [] := List.length_eq_zero_iff.1 (by omega)
    subst this
    cases m with
    | zero => rfl
    | succ m => rw [fGo, fGo, if_pos rfl]
  | n + 1, 0, s, _, h => by
    have : s = [] := List.length_eq_zero_iff.1 (by omega)
    subst this
    rw [fGo, fGo, if_pos rfl]
  | n + 1, m + 1, s, h, h' => by
    rw [fGo, fGo]
    split
    · rfl
    · split
      · rfl
      · rename_i h1 h2
        have := (fOpen_le s).1 (by omega)
        rw [fGo_fuel n m _ (by rw [List.length_drop]; omega) (by rw [List.length_drop]; omega)]
def fAll (s : List UInt8) : List (List UInt8 × Nat) := fGo s.length s
theorem fAll_nil : fAll [] = [] := rfl
theorem fAll_wrap (t s : List UInt8) (h : t.length ≤ 65536) : fAll (fWrap t ++ s) = (t, (fWrap t).length) :: fAll s := by
  have hl := fWrap_len t h
  obtain ⟨m, hm⟩ : ∃ m, (fWrap t ++ s).length = m + 1 := ⟨(fWrap t ++ s).length - 1, by rw [List.length_append]; omega⟩
  unfold fAll
  rw [hm, fGo, if_neg (by intro e; rw [e] at hm; simp at hm), fOpen_wrap t s h, if_neg (by simp)]
  dsimp only
  rw [List.drop_left, fGo_fuel m s.length s (by rw [List.length_append] at hm; omega) (Nat.le_refl _)]
theorem fAll_err (s : List UInt8) (h : (fOpen s).2.2 ≠ 0) : fAll s = [] := by
  unfold fAll
  cases s.length with
  | zero => rfl
  | succ m => rw [fGo]; split <;> first | rfl | rw [if_pos h]
theorem fAll_wraps : ∀ (l : List (List UInt8)) (s : List UInt8), (∀ t ∈ l, t.length ≤ 65536) → fAll (l.flatMap fWrap ++ s) = l.map (fun t => (t, (fWrap t).length)) ++ fAll s
  | [], s, _ => rfl
  | t :: l, s, h => by
    rw [List.flatMap_cons, List.append_assoc, fAll_wrap t _ (h t (by simp)), fAll_wraps l s (fun x hx => h x (by simp [hx]))]
    rfl
theorem fSum_wraps : ∀ (l : List (List UInt8)), fSum (l.map fun t => (t, (fWrap t).length)) = (l.flatMap fWrap).length
  | [] => rfl
  | t :: l => by
    have := fSum_wraps l
    unfold fSum at *
    rw [List.map_cons, List.map_cons, List.sum_cons, this, List.flatMap_cons, List.length_append]
theorem fSum_append (a b : List (List UInt8 × Nat)) : fSum (a ++ b) = fSum a + fSum b := by unfold fSum; rw [List.map_append, List.sum_append_nat]
theorem fSum_le : ∀ (n : Nat) (s : List UInt8), fSum (fGo n s) ≤ s.length
  | 0, s => by simp [fGo, fSum]
  | n + 1, s => by
    rw [fGo]
    split
    · simp [fSum]
    · split
      · simp [fSum]
      · rename_i h1 h2
        have := (fOpen_le s).1 (by omega)
        have ih := fSum_le n (s.drop (fOpen s).2.1)
        rw [List.length_drop] at ih
        have e : ∀ (x : List UInt8 × Nat) l, fSum (x :: l) = x.2 + fSum l := fun x l => by simp [fSum]
        rw [e]
        dsimp only
        omega
theorem fRest_go : ∀ (n k : Nat) (s : List UInt8), fTexts (fRest n k s) = (fGo n (s.drop k)).map (fun x => (⟨x.1.toArray⟩ : ByteArray)) ∧ (fRest n k s = [] ↔ fGo n (s.drop k) = []) ∧ (fRest n k s ≠ [] → fEnd (fRest n k s) = k + fSum (fGo n (s.drop k)))
  | 0, k, s => by simp [fRest, fGo, fTexts]
  | n + 1, k, s => by
    rw [fRest, fGo]
    by_cases h : s.length ≤ k
    · rw [if_pos h, if_pos (List.drop_of_length_le h)]; simp [fTexts]
    · have hd : s.drop k ≠ [] := by intro e; have := congrArg List.length e; rw [List.length_drop, List.length_nil] at this; omega
      rw [if_neg h, if_neg hd]
      by_cases he : (fOpen (s.drop k)).2.2 ≠ 0
      · rw [if_pos he, if_pos he]; simp [fTexts]
      · rw [if_neg he, if_neg he]
        obtain ⟨h1, h2, h3⟩ := fRest_go n (k + (fOpen (s.drop k)).2.1) s
        rw [List.drop_drop]
        generalize fRest n (k + (fOpen (s.drop k)).2.1) s = R at *
        generalize fGo n (s.drop (k + (fOpen (s.drop k)).2.1)) = G at *
        refine ⟨by simp only [fTexts, List.map_cons] at h1 ⊢; rw [h1], by simp, fun _ => ?_⟩
        have e : ∀ (x : List UInt8 × Nat) l, fSum (x :: l) = x.2 + fSum l := fun x l => by simp [fSum]
        rw [e]
        cases R with
        | nil =>
          have hg := h2.1 rfl
          subst hg
          simp [fEnd, fSum]
        | cons y R =>
          have := h3 (by simp)
          rw [show fEnd ((⟨(fOpen (s.drop k)).1.toArray⟩, k + (fOpen (s.drop k)).2.1) :: y :: R) = fEnd (y :: R) from rfl, this]
          dsimp only
          omega
theorem fPairs_texts (s : List UInt8) : fTexts (fPairs s) = (fAll s).map (fun x => (⟨x.1.toArray⟩ : ByteArray)) := by
  have := (fRest_go s.length 0 s).1
  simpa [fPairs, fAll] using this
theorem fPairs_end (s : List UInt8) : fEnd (fPairs s) = fSum (fAll s) := by
  obtain ⟨_, h2, h3⟩ := fRest_go s.length 0 s
  simp only [List.drop_zero, Nat.zero_add] at h2 h3
  by_cases h : fRest s.length 0 s = []
  · have hg := h2.1 h
    show fEnd (fRest s.length 0 s) = fSum (fGo s.length s)
    rw [h, hg]; rfl
  · exact h3 h
theorem fEnd_le (s : List UInt8) : fEnd (fPairs s) ≤ s.length := by rw [fPairs_end]; exact fSum_le _ _
theorem vGo_part : ∀ (k m : Nat) (q : List UInt8), k < (vPut m).length → q.length + k ≤ 9 → vGo q ((vPut m).take k) = (0, 0, 1)
  | 0, m, q, _, _ => rfl
  | k + 1, m, q, h, hq => by
    by_cases hm : m < 128
    · rw [vPut_small m hm] at h; simp at h
    · rw [vPut_step m (by omega)] at h ⊢
      rw [List.length_cons] at h
      rw [List.take_succ_cons, vGo, if_neg ?_, vGo_part k (m / 128) _ (by omega) (by simp; omega)]
      unfold vEnds
      have : (UInt8.ofNat (m % 128 + 128)).toNat = m % 128 + 128 := by simp; omega
      omega
theorem vTake_part (m : Nat) (hm : m < 18446744073709551616) (k : Nat) (h : k < (vPut m).length) : vTake ((vPut m).take k) = (0, 0, 1) :=
  vGo_part k m [] h (by have := vPut_len10 m hm; simp; omega)
/-- a part of a frame is too short -/
theorem fOpen_part (s : List UInt8) (h : s.length ≤ 65536) (k : Nat) (hk : k < (fWrap s).length) : (fOpen ((fWrap s).take k)).2.2 ≠ 0 ∧ ((vPut s.length).length ≤ k → (fOpen ((fWrap s).take k)) = ([], 0, 1)) := by
  have hl := fWrap_len s h
  have e := fWrap_eq s h
  rw [vPutText_eq s h, List.append_assoc] at e
  by_cases hp : (vPut s.length).length ≤ k
  · have e2 : (fWrap s).take k = vPut s.length ++ (s ++ crcBytes (crcMore 0 (vPut s.length ++ s))).take (k - (vPut s.length).length) := by
      rw [e, List.take_append, List.take_of_length_le hp]
    have ht := vTake_put s.length (by omega) ((s ++ crcBytes (crcMore 0 (vPut s.length ++ s))).take (k - (vPut s.length).length))
    have hlen : ((fWrap s).take k).length = k := by rw [List.length_take]; omega
    have r : fOpen ((fWrap s).take k) = ([], 0, 1) := by
      rw [← e2] at ht
      unfold fOpen vTakeText
      rw [ht]
      dsimp only
      rw [if_neg (c := (0 : Nat) ≠ 0) (by simp), if_neg (c := 65536 < s.length) (by omega), hlen]
      by_cases hs : k - (vPut s.length).length < s.length
      · rw [if_pos hs, if_pos (by simp)]
      · rw [if_neg hs, if_neg (by simp), if_pos (by dsimp only; omega)]
    exact ⟨by rw [r]; simp, fun _ => r⟩
  · refine ⟨?_, fun h' => absurd h' hp⟩
    have ht := vTake_part s.length (by omega) k (by omega)
    have e2 : (fWrap s).take k = (vPut s.length).take k := by rw [e, List.take_append_of_le_length (by omega)]
    unfold fOpen vTakeText
    rw [e2, ht]
    simp
end Go.Proofs.Yteidlngffikboaa

/- Here ends the text FrameLawJ; here begins LsmBytesP. -/
namespace Go.Proofs.Yteidlngffikboaa
open Go.RowKit
set_option linter.unusedVariables false
/-- a number with a sign as one without, and back -/
def zig (n : Int) : Nat := if 0 ≤ n then (2 * n).toNat else (-2 * n - 1).toNat
def zag (m : Nat) : Int := if m % 2 = 0 then (m : Int) / 2 else -((m : Int) / 2) - 1
theorem zig_lt (n : Int) (h : -9223372036854775808 ≤ n ∧ n ≤ 9223372036854775807) : zig n < 18446744073709551616 := by
  unfold zig; split <;> omega
theorem zag_bd (m : Nat) (h : m < 18446744073709551616) : -9223372036854775808 ≤ zag m ∧ zag m ≤ 9223372036854775807 := by
  unfold zag; split <;> omega
theorem zag_zig (n : Int) : zag (zig n) = n := by
  unfold zig zag; split <;> split <;> omega
theorem zig_zag (m : Nat) : zig (zag m) = m := by
  unfold zig zag; split <;> split <;> omega
theorem xor64_zero (a : Nat) (ha : a < 18446744073709551616) : bits .xor .u64 (a : Int) (0 : Int) = (a : Int) := by
  have := u64_xor_nat a 0 ha (by decide)
  simpa using this
theorem xor64_ones (a : Nat) (ha : a < 18446744073709551616) : bits .xor .u64 (a : Int) (18446744073709551615 : Int) = 18446744073709551615 - (a : Int) := by
  have := u64_xor_nat a 18446744073709551615 ha (by decide)
  rw [show ((18446744073709551615 : Nat) : Int) = (18446744073709551615 : Int) from rfl] at this
  rw [this]
  have e : a ^^^ 18446744073709551615 = 18446744073709551615 - a := by
    have h2 := BitVec.toNat_not (x := BitVec.ofNat 64 a)
    rw [← BitVec.xor_allOnes, BitVec.toNat_xor, BitVec.toNat_ofNat, BitVec.toNat_allOnes] at h2
    rw [Nat.mod_eq_of_lt (by omega)] at h2
    exact h2
  rw [e]; omega
theorem xorI_ones (a : Nat) (ha : a < 9223372036854775808) : bits .xor .i64 (a : Int) (-1 : Int) = -1 - (a : Int) := by
  rw [← i64_not a ha]
  show IntKind.i64.wrap _ = IntKind.i64.wrap _
  rw [BitVec.xor_comm]
theorem xorI_zero (a : Nat) (ha : a < 9223372036854775808) : bits .xor .i64 (a : Int) (0 : Int) = (a : Int) := by
  show IntKind.i64.wrap ((BitVec.ofInt 64 (a : Int) ^^^ BitVec.ofInt 64 0).toNat : Int) = _
  have h1 : BitVec.ofInt 64 0 = 0#64 := by decide
  rw [h1, BitVec.xor_zero, ofInt_u64 a (by omega)]
  simp [IntKind.wrap, IntKind.bits, IntKind.signed]
  omega
theorem and64_one (n : Nat) (h : n < 18446744073709551616) : bits .and .u64 (n : Int) (1 : Int) = ((n % 2 : Nat) : Int) := by
  have := u64_and_nat n 1 h (by decide)
  rw [show ((1 : Nat) : Int) = 1 from rfl] at this
  rw [this, nat_mask1]
theorem zigPos (n : Int) (h0 : 0 ≤ n) (h1 : n ≤ 9223372036854775807) : bits .xor .u64 (n * 2) (n / 9223372036854775808) = (zig n : Int) := by
  have e1 : n * 2 = (((2 * n).toNat : Nat) : Int) := by omega
  have e2 : n / 9223372036854775808 = 0 := by omega
  rw [e1, e2, xor64_zero _ (by omega), zig, if_pos h0]
theorem zigNeg (n : Int) (h0 : -9223372036854775808 ≤ n) (h1 : n < 0) : bits .xor .u64 (IntKind.u64.wrap (IntKind.u64.wrap n * 2)) (IntKind.u64.wrap (n / 9223372036854775808)) = (zig n : Int) := by
  have e2 : n / 9223372036854775808 = -1 := by omega
  rw [e2, IntKind.wrap_u64, IntKind.wrap_u64, IntKind.wrap_u64, show (-1 : Int) % 18446744073709551616 = 18446744073709551615 by decide]
  have e1 : n % 18446744073709551616 * 2 % 18446744073709551616 = (((18446744073709551616 + 2 * n).toNat : Nat) : Int) := by omega
  rw [e1, xor64_ones _ (by omega), zig, if_neg (by omega)]
  omega
theorem zagAny (n : Nat) (h : n < 18446744073709551616) : bits .xor .i64 ((n : Int) / 2) (wrap64 (-wrap64 (bits .and .u64 (n : Int) 1))) = zag n := by
  rw [and64_one n h]
  have hd : (n : Int) / 2 = ((n / 2 : Nat) : Int) := by omega
  rcases Nat.mod_two_eq_zero_or_one n with e | e
  · rw [e, show wrap64 (-wrap64 ((0 : Nat) : Int)) = 0 by unfold wrap64; decide, hd, xorI_zero _ (by omega), zag, if_pos e]; omega
  · rw [e, show wrap64 (-wrap64 ((1 : Nat) : Int)) = -1 by unfold wrap64; decide, hd, xorI_ones _ (by omega), zag, if_neg (by omega)]; omega
set_option maxHeartbeats 400000 in
theorem zig_any (n : Int) (h : -9223372036854775808 ≤ n ∧ n ≤ 9223372036854775807) (w : World) :
    Calls Try.prog 36 #[.int .i64 n] w fun e w' => e = .returned (.int .u64 (zig n : Nat)) ∧ w = w' := by
  by_cases hn : 0 ≤ n
  · go_enter Try.func36, Try.ntmps36
    go_wp2
    go_ret
    exact ⟨ret_int (zigPos n hn h.2), rfl⟩
  · go_enter Try.func36, Try.ntmps36
    go_wp2
    go_ret
    exact ⟨ret_int (zigNeg n h.1 (by omega)), rfl⟩
set_option maxHeartbeats 400000 in
theorem zag_any (n : Nat) (h : n < 18446744073709551616) (w : World) :
    Calls Try.prog 57 #[.int .u64 n] w fun e w' => e = .returned (.int .i64 (zag n)) ∧ w = w' := by
  go_enter Try.func57, Try.ntmps57
  go_wp2
  go_ret
  exact ⟨ret_int (zagAny n h), rfl⟩
set_option maxHeartbeats 400000 in
theorem refZig_any (n : Int) (h : -9223372036854775808 ≤ n ∧ n ≤ 9223372036854775807) (w : World) :
    Calls Try.prog 68 #[.int .i64 n] w fun e w' => e = .returned (.int .u64 (zig n : Nat)) ∧ w = w' := by
  by_cases hn : 0 ≤ n
  · go_enter Try.func68, Try.ntmps68
    go_wp2
    go_ret
    exact ⟨ret_int (by unfold zig; rw [if_pos hn]; omega), rfl⟩
  · go_enter Try.func68, Try.ntmps68
    go_wp2
    go_ret
    exact ⟨ret_int (by unfold zig; rw [if_neg (by omega)]; omega), rfl⟩
set_option maxHeartbeats 400000 in
theorem refZag_any (n : Nat) (h : n < 18446744073709551616) (w : World) :
    Calls Try.prog 60 #[.int .u64 n] w fun e w' => e = .returned (.int .i64 (zag n)) ∧ w = w' := by
  rcases Nat.mod_two_eq_zero_or_one n with e | e
  · have e1 : ((n : Int) % 2 == 0) = true := by simp; omega
    go_enter Try.func60, Try.ntmps60
    go_wp2
    go_ret
    exact ⟨ret_int (by unfold zag; rw [if_pos e]), rfl⟩
  · have e1 : ((n : Int) % 2 == 0) = false := by simp; omega
    go_enter Try.func60, Try.ntmps60
    go_wp2
    go_ret
    exact ⟨ret_int (by unfold zag; rw [if_neg (by omega)]), rfl⟩
end Go.Proofs.Yteidlngffikboaa

/- Here ends the text VarintZig; here begins LsmBytesP. -/
namespace Go.Proofs.Yteidlngffikboaa
set_option linter.unusedVariables false
def cntT (x : Cnt) : List UInt8 := x.1.data.toList ++ vPut (zig x.2)
def rowT (r : List Cnt) : List UInt8 := vPut r.length ++ r.flatMap cntT
def bytesS (s : CntS) : List UInt8 := (s.1 :: s.2).flatMap fun r => fWrap (rowT r)
def writeL (s : CntS) : List UInt8 := if fitB s = true then bytesS s else []
/-- n counts of a text, behind those that are there -/
def rowGo : Nat → List UInt8 → List Cnt → Option (List Cnt)
  | 0, s, out => if s = [] then some out else none
  | n + 1, s, out => if s.length < 32 then none else if (vTake (s.drop 32)).2.2 ≠ 0 then none else rowGo n (s.drop (32 + (vTake (s.drop 32)).2.1)) (out ++ [(⟨(s.take 32).toArray⟩, zag (vTake (s.drop 32)).1)])
def rowOf (s : List UInt8) : Option (List Cnt) := if (vTake s).2.2 ≠ 0 ∨ 1048576 < (vTake s).1 then none else rowGo (vTake s).1 (s.drop (vTake s).2.1) []
def rowsOf : List (List Cnt) → List ByteArray → Option (List (List Cnt))
  | acc, [] => some acc
  | acc, t :: ts => match rowOf t.data.toList with
    | none => none
    | some r => rowsOf (acc ++ [r]) ts
/-- the counts of bytes -/
def formL (s : List UInt8) : Option CntS :=
  if fEnd (fPairs s) < s.length ∨ fPairs s = [] then none else
  match rowsOf [] (fTexts (fPairs s)) with
  | some (m :: rs) => some (m, rs)
  | _ => none
def readL (s : List UInt8) : Option CntS :=
  match formL s with
  | some x => if fitB x = true ∧ writeL x = s then some x else none
  | none => none
theorem readL_some {s : List UInt8} {x : CntS} (h : readL s = some x) : fitB x = true ∧ writeL x = s ∧ formL s = some x := by
  unfold readL at h
  split at h
  · rename_i y hy
    split at h
    · rename_i h1; injection h with e; subst e; exact ⟨h1.1, h1.2, hy⟩
    · cases h
  · cases h
theorem cntT_len (x : Cnt) (h : x.1.size = 32) (hb : -9223372036854775808 ≤ x.2 ∧ x.2 ≤ 9223372036854775807) : (cntT x).length ≤ 42 := by
  unfold cntT
  have := vPut_len10 _ (zig_lt x.2 hb)
  rw [List.length_append]
  have e : x.1.data.toList.length = 32 := by simpa using h
  omega
theorem rowT_len {r : List Cnt} (h : ∀ x ∈ r, x.1.size = 32 ∧ -9223372036854775808 ≤ x.2 ∧ x.2 ≤ 9223372036854775807) (hl : r.length ≤ 1000000) : (rowT r).length ≤ 10 + 42 * r.length := by
  unfold rowT
  have h1 := vPut_len10 r.length (by omega)
  have h2 : ∀ l : List Cnt, (∀ x ∈ l, x.1.size = 32 ∧ -9223372036854775808 ≤ x.2 ∧ x.2 ≤ 9223372036854775807) → (l.flatMap cntT).length ≤ 42 * l.length := by
    intro l
    induction l with
    | nil => intro _; simp
    | cons x l ih =>
      intro hx
      have := cntT_len x (hx x (by simp)).1 (hx x (by simp)).2
      have := ih (fun y hy => hx y (by simp [hy]))
      rw [List.flatMap_cons, List.length_append, List.length_cons]; omega
  rw [List.length_append]
  have := h2 r h
  omega
theorem rowGo_there : ∀ (r out : List Cnt), (∀ x ∈ r, x.1.size = 32 ∧ -9223372036854775808 ≤ x.2 ∧ x.2 ≤ 9223372036854775807) → rowGo r.length (r.flatMap cntT) out = some (out ++ r)
  | [], out, _ => by simp [rowGo]
  | x :: r, out, h => by
    have hk : x.1.data.toList.length = 32 := by simpa using (h x (by simp)).1
    have hz := zig_lt x.2 (h x (by simp)).2
    have e1 : (cntT x ++ r.flatMap cntT).drop 32 = vPut (zig x.2) ++ r.flatMap cntT := by
      unfold cntT; rw [List.append_assoc, List.drop_left' hk]
    have e2 : (cntT x ++ r.flatMap cntT).take 32 = x.1.data.toList := by
      unfold cntT; rw [List.append_assoc, List.take_left' hk]
    have ht := vTake_put _ hz (r.flatMap cntT)
    rw [List.length_cons, List.flatMap_cons, rowGo, if_neg (by rw [List.length_append]; unfold cntT; rw [List.length_append]; omega), e1, e2, ht, if_neg (by simp)]
    dsimp only
    rw [show (cntT x ++ r.flatMap cntT).drop (32 + (vPut (zig x.2)).length) = r.flatMap cntT by
      rw [← List.drop_drop, e1, List.drop_left]]
    rw [rowGo_there r _ (fun y hy => h y (by simp [hy])), zag_zig]
    congr 1
    simp
theorem rowOf_there {r : List Cnt} (h : ∀ x ∈ r, x.1.size = 32 ∧ -9223372036854775808 ≤ x.2 ∧ x.2 ≤ 9223372036854775807) (hl : r.length ≤ 1000000) : rowOf (rowT r) = some r := by
  unfold rowOf rowT
  rw [vTake_put _ (by omega), if_neg (by simp; omega)]
  dsimp only
  rw [List.drop_left, rowGo_there r [] h]; rfl
theorem rowsOf_there : ∀ (l acc : List (List Cnt)), (∀ r ∈ l, rowOf (rowT r) = some r) → rowsOf acc (l.map fun r => (⟨(rowT r).toArray⟩ : ByteArray)) = some (acc ++ l)
  | [], acc, _ => by simp [rowsOf]
  | r :: l, acc, h => by
    rw [List.map_cons, rowsOf]
    have : rowOf ((⟨(rowT r).toArray⟩ : ByteArray)).data.toList = some r := h r (by simp)
    rw [this]
    dsimp only
    rw [rowsOf_there l _ (fun x hx => h x (by simp [hx]))]; simp
theorem okR_good {r : List Cnt} (h : okR r) : ∀ x ∈ r, x.1.size = 32 ∧ -9223372036854775808 ≤ x.2 ∧ x.2 ≤ 9223372036854775807 := by
  intro x hx
  obtain ⟨h1, _, h2, h3⟩ := h.2 x hx
  unfold bnd at h2 h3
  exact ⟨h1, by omega, by omega⟩
theorem bytesS_flat (s : CntS) : bytesS s = ((s.1 :: s.2).map rowT).flatMap fWrap := by unfold bytesS; rw [List.flatMap_map]
theorem formL_there {s : CntS} (ok : okS s) (hl : sizeS s ≤ 1500) : formL (bytesS s) = some s := by
  have hr : ∀ r ∈ s.1 :: s.2, okR r ∧ r.length ≤ 1500 := by
    intro r hr
    unfold sizeS at hl
    rcases List.mem_cons.1 hr with rfl | h
    · exact ⟨ok.1, by omega⟩
    · have := total_mem h
      exact ⟨(ok.2.1 r h).2, by omega⟩
  have ht : ∀ t ∈ (s.1 :: s.2).map rowT, t.length ≤ 65536 := by
    intro t ht
    obtain ⟨r, h1, rfl⟩ := List.mem_map.1 ht
    obtain ⟨h2, h3⟩ := hr r h1
    have := rowT_len (okR_good h2) (by omega)
    omega
  have ha := fAll_wraps ((s.1 :: s.2).map rowT) [] ht
  rw [List.append_nil, ← bytesS_flat, fAll_nil, List.append_nil] at ha
  have hp := fPairs_texts (bytesS s)
  rw [ha, List.map_map, List.map_map] at hp
  have he := fPairs_end (bytesS s)
  rw [ha, fSum_wraps, ← bytesS_flat] at he
  have hne : fPairs (bytesS s) ≠ [] := by
    intro e; rw [e] at hp; simp [fTexts] at hp
  unfold formL
  rw [if_neg (by rw [he]; simp [hne])]
  have := rowsOf_there (s.1 :: s.2) [] (fun r h => rowOf_there (okR_good (hr r h).1) (by have := (hr r h).2; omega))
  rw [List.nil_append] at this
  have hp2 : fTexts (fPairs (bytesS s)) = (s.1 :: s.2).map fun r => (⟨(rowT r).toArray⟩ : ByteArray) := hp
  rw [hp2, this]
theorem readL_there {s : CntS} (hf : fitB s = true) (hl : sizeS s ≤ 1500) : readL (writeL s) = some s := by
  have e : writeL s = bytesS s := by unfold writeL; rw [if_pos hf]
  unfold readL
  rw [e, formL_there ((fitB_ok (by omega)).1 hf).1 hl]
  dsimp only
  rw [if_pos ⟨hf, e⟩]
theorem fWrap_ne (t : List UInt8) (h : t.length ≤ 65536) : fWrap t ≠ [] := by
  intro e
  have := fWrap_len t h
  rw [e] at this; simp at this
theorem bytesS_ne {s : CntS} (h : (rowT s.1).length ≤ 65536) : bytesS s ≠ [] := by
  unfold bytesS
  rw [List.flatMap_cons]
  intro e
  exact fWrap_ne _ h (List.append_eq_nil_iff.1 e).1
end Go.Proofs.Yteidlngffikboaa

/- Here ends the text LsmBytesP; here begins LsmBytesQ. -/
namespace Go.Proofs.Yteidlngffikboaa
set_option linter.unusedVariables false
theorem vTakeText_len (s : List UInt8) (h : (vTakeText s).2.2 = 0) : (vTakeText s).1.length + 1 ≤ (vTakeText s).2.1 := by
  have hl := vTake_le s
  unfold vTakeText at *
  split at h
  · rename_i h1; exact absurd h h1
  · rename_i h1
    split at h
    · cases h
    · split at h
      · cases h
      · rename_i h2 h3
        have h1' : (vTake s).2.2 = 0 := Decidable.not_not.1 h1
        rw [if_neg h1, if_neg h2, if_neg h3]
        have := (hl h1').2
        dsimp only
        rw [List.length_take]
        omega
theorem fOpen_len (s : List UInt8) (h : (fOpen s).2.2 = 0) : (fOpen s).1.length + 5 ≤ (fOpen s).2.1 := by
  have hl := vTakeText_len s
  unfold fOpen at *
  split at h
  · rename_i h1; exact absurd h h1
  · rename_i h1
    split at h
    · cases h
    · split at h
      · cases h
      · rename_i h2 h3
        rw [if_neg h1, if_neg h2, if_neg h3]
        have := hl (Decidable.not_not.1 h1)
        dsimp only
        omega
theorem fGo_sum : ∀ (n : Nat) (s : List UInt8), ((fGo n s).map fun x => x.1.length + 5).sum ≤ s.length
  | 0, s => by simp [fGo]
  | n + 1, s => by
    rw [fGo]
    split
    · simp
    · split
      · simp
      · rename_i h1 h2
        have h2' : (fOpen s).2.2 = 0 := Decidable.not_not.1 h2
        have := (fOpen_le s).1 h2'
        have := fOpen_len s h2'
        have ih := fGo_sum n (s.drop (fOpen s).2.1)
        rw [List.length_drop] at ih
        rw [List.map_cons, List.sum_cons]
        dsimp only
        omega
theorem texts_sum (s : List UInt8) : ((fTexts (fPairs s)).map fun t => t.size + 5).sum ≤ s.length := by
  have := fGo_sum s.length s
  rw [fPairs_texts, List.map_map]
  have e : ((fun t : ByteArray => t.size + 5) ∘ fun x : List UInt8 × Nat => (⟨x.1.toArray⟩ : ByteArray)) = fun x => x.1.length + 5 := by
    funext x
    show x.1.toArray.size + 5 = _
    simp
  rw [e]
  exact this
theorem sum_mem5 : ∀ {l : List ByteArray} {n : Nat}, (l.map fun t => t.size + 5).sum ≤ n → 5 * l.length + (l.map (·.size)).sum ≤ n ∧ ∀ t ∈ l, t.size ≤ n
  | [], n, _ => ⟨by simp, by simp⟩
  | t :: l, n, h => by
    rw [List.map_cons, List.sum_cons] at h
    obtain ⟨h1, h2⟩ := sum_mem5 (l := l) (n := n - (t.size + 5)) (by omega)
    rw [List.length_cons, List.map_cons, List.sum_cons]
    refine ⟨by omega, fun x hx => ?_⟩
    rcases List.mem_cons.1 hx with rfl | hx
    · omega
    · have := h2 x hx; omega
theorem rowGo_len : ∀ (n : Nat) (s : List UInt8) (out r : List Cnt), rowGo n s out = some r → r.length = out.length + n ∧ 33 * n ≤ s.length
  | 0, s, out, r, h => by
    rw [rowGo] at h
    split at h
    · cases h; simp
    · cases h
  | n + 1, s, out, r, h => by
    rw [rowGo] at h
    split at h
    · cases h
    · split at h
      · cases h
      · rename_i h1 h2
        have hk := vTake_le (s.drop 32) (Decidable.not_not.1 h2)
        obtain ⟨i1, i2⟩ := rowGo_len n _ _ _ h
        rw [List.length_append, List.length_singleton] at i1
        rw [List.length_drop] at i2 hk
        omega
theorem rowOf_len {s : List UInt8} {r : List Cnt} (h : rowOf s = some r) : 33 * r.length ≤ s.length := by
  unfold rowOf at h
  split at h
  · cases h
  · obtain ⟨i1, i2⟩ := rowGo_len _ _ _ _ h
    rw [List.length_drop] at i2
    rw [i1]
    simp
    omega
theorem rowsOf_len : ∀ (ts : List ByteArray) (acc l : List (List Cnt)), rowsOf acc ts = some l → l.length = acc.length + ts.length ∧ 33 * total l ≤ 33 * total acc + (ts.map (·.size)).sum
  | [], acc, l, h => by cases h; simp
  | t :: ts, acc, l, h => by
    rw [rowsOf] at h
    split at h
    · cases h
    · rename_i r hr
      obtain ⟨i1, i2⟩ := rowsOf_len ts _ _ h
      have := rowOf_len hr
      have e : t.data.toList.length = t.size := by simp
      have et : total (acc ++ [r]) = total acc + r.length := by unfold total; simp
      rw [List.length_append, List.length_singleton] at i1
      rw [et] at i2
      rw [List.map_cons, List.sum_cons, List.length_cons]
      omega
theorem formL_small {s : List UInt8} {x : CntS} (hs : s.length ≤ 5000) (h : formL s = some x) : sizeS x ≤ 1500 ∧ x.2.length ≤ 1000 := by
  have hs5 := (sum_mem5 (texts_sum s)).1
  unfold formL at h
  split at h
  · cases h
  · split at h
    · rename_i m rs hr
      cases h
      obtain ⟨i1, i2⟩ := rowsOf_len _ _ _ hr
      have e : total (m :: rs) = m.length + total rs := by unfold total; simp
      rw [e] at i2
      rw [List.length_cons] at i1
      unfold sizeS
      simp only [List.length_nil, total, List.map_nil, List.sum_nil] at i1 i2
      unfold total
      dsimp only
      omega
    · cases h
end Go.Proofs.Yteidlngffikboaa
