/- Plain: how many keys have a total that is not nought. -/
import Derived.Test.YteidlngffikboaaLsmPl3
import Derived.Test.YteidlngffikboaaLsmName
import Derived.Deep.WholeRow
namespace Go.Proofs.Yteidlngffikboaa
set_option linter.unusedVariables false
theorem half_total : ∀ (r : List Cnt) (l : List (List Cnt)), Half (r :: l) → r.length * 2 ^ (l.length + 1) ≤ total (r :: l) + r.length
  | r, [], _ => by simp [total]; omega
  | r, s :: l, h => by
    have ih := half_total s l h.2
    have h1 : 2 * r.length < s.length := h.1
    have e : total (r :: s :: l) = r.length + total (s :: l) := by simp [total]
    have hp : 1 ≤ 2 ^ (l.length + 1) := Nat.one_le_two_pow
    rw [e, List.length_cons, Nat.pow_succ (n := 2) (m := l.length + 1)]
    generalize 2 ^ (l.length + 1) = p at *
    have h3 : r.length * (p * 2) = 2 * r.length * p := by rw [Nat.mul_comm p 2, ← Nat.mul_assoc, Nat.mul_comm r.length 2]
    obtain ⟨d, hd⟩ : ∃ d, s.length = 2 * r.length + d := ⟨s.length - 2 * r.length, by omega⟩
    rw [h3]
    rw [hd, Nat.add_mul] at ih
    have h4 : d ≤ d * p := Nat.le_mul_of_pos_right _ hp
    omega
/-- few counts: few rows -/
theorem runs_few {s : CntS} (h : okRuns s.2) (ht : total s.2 ≤ 1000) : s.2.length ≤ 9 := by
  obtain ⟨m, rs⟩ := s
  cases rs with
  | nil => simp
  | cons r l =>
    have h1 := half_total r l h.2
    have hr : 1 ≤ r.length := by
      have := (h.1 r (by simp)).1
      cases r with
      | nil => exact absurd rfl this
      | cons x y => simp
    dsimp only at ht ⊢
    rw [List.length_cons]
    refine Decidable.byContradiction fun hn => ?_
    have : 2 ^ 10 ≤ 2 ^ (l.length + 1) := Nat.pow_le_pow_right (by decide) (by omega)
    have h2 : r.length * 1024 ≤ r.length * 2 ^ (l.length + 1) := Nat.mul_le_mul_left _ this
    omega
def absR (l : List (List Cnt)) (k : ByteArray) : Nat := (l.map fun r => (inL r k).natAbs).sum
def absS (s : CntS) (k : ByteArray) : Nat := (inL s.1 k).natAbs + absR s.2 k
theorem clip_abs (x : Int) : (clipV x).natAbs ≤ x.natAbs := by unfold clipV bnd; omega
theorem absR_cons (r : List Cnt) (l : List (List Cnt)) (k : ByteArray) : absR (r :: l) k = (inL r k).natAbs + absR l k := by simp [absR]
theorem comeL_abs (k : ByteArray) : ∀ (l : List (List Cnt)), (∀ r ∈ l, okR r) → absR (comeL l) k ≤ absR l k
  | [], _ => by rw [comeL]; exact Nat.le_refl _
  | [r], _ => by rw [comeL]; exact Nat.le_refl _
  | r :: s :: rest, h => by
    have hr := h r (by simp)
    have hs := h s (by simp)
    have hin := mergeL_in hr hs k
    have hc := clip_abs (inL r k + inL s k)
    rw [← hin] at hc
    rw [comeL]
    split
    · split
      · have := comeL_abs k rest (fun z hz => h z (by simp [hz]))
        rw [absR_cons, absR_cons]; omega
      · have := comeL_abs k (mergeL r s :: rest) (fun z hz => by
          rcases List.mem_cons.1 hz with rfl | hz
          · exact mergeL_ok hr hs
          · exact h z (by simp [hz]))
        rw [absR_cons] at this
        rw [absR_cons, absR_cons]; omega
    · exact Nat.le_refl _
termination_by l => l.length
theorem sum_abs (k : ByteArray) : ∀ (l : List (List Cnt)), (sumIn l k).natAbs ≤ absR l k
  | [] => by simp [sumIn, absR]
  | r :: l => by
    have := sum_abs k l
    have e : sumIn (r :: l) k = inL r k + sumIn l k := by simp [sumIn]
    rw [e, absR_cons]; omega
theorem absR_app (k : ByteArray) (m n : List (List Cnt)) : absR (m ++ n) k = absR m k + absR n k := by simp [absR]
theorem comeL_sum2 {k : ByteArray} {l : List (List Cnt)} (h : ∀ r ∈ l, okR r) (ha : absR l k ≤ 1000000000) : sumIn (comeL l) k = sumIn l k :=
  comeL_sum k l h fun m n e => by
    have h1 := sum_abs k m
    have h2 : absR l k = absR m k + absR n k := by rw [← e, absR_app]
    unfold bnd
    omega
theorem getL_abs (s : CntS) (k : ByteArray) : (getL s.1 s.2 k).natAbs ≤ absS s k := by
  have := sum_abs k s.2
  unfold getL absS
  omega
theorem comeP_get {runs : List (List Cnt)} {row : List Cnt} (h : okRuns runs) (hr : okR row) (k : ByteArray) (ha : (inL row k).natAbs + absR runs k ≤ 1000000000) : sumIn (comeP runs row) k = inL row k + sumIn runs k ∧ absR (comeP runs row) k ≤ (inL row k).natAbs + absR runs k := by
  unfold comeP
  split
  · rename_i e; subst e; simp [inL]
  · have hok : ∀ r ∈ row :: runs, okR r := fun r hr' => by
      rcases List.mem_cons.1 hr' with rfl | hr'
      · exact hr
      · exact (h.1 r hr').2
    have h1 := comeL_sum2 (k := k) hok (by rw [absR_cons]; exact ha)
    have h2 := comeL_abs k _ hok
    rw [absR_cons] at h2
    exact ⟨by rw [h1]; simp [sumIn], h2⟩
theorem flush_get {s : CntS} (h : okS s) (k : ByteArray) (ha : absS s k ≤ 1000000000) : getL (flushL s).1 (flushL s).2 k = getL s.1 s.2 k ∧ absS (flushL s) k ≤ absS s k := by
  unfold flushL
  split
  · exact ⟨rfl, Nat.le_refl _⟩
  · obtain ⟨h1, h2⟩ := comeP_get h.2 h.1 k ha
    unfold getL absS
    dsimp only
    rw [h1]
    have e : inL [] k = 0 := rfl
    rw [e]
    exact ⟨by omega, by simpa using h2⟩
theorem sumIn_zero (k : ByteArray) : ∀ (l : List (List Cnt)), (∀ r ∈ l, inL r k = 0) → sumIn l k = 0
  | [], _ => rfl
  | r :: l, h => by
    have e : sumIn (r :: l) k = inL r k + sumIn l k := by simp [sumIn]
    rw [e, h r (by simp), sumIn_zero k l (fun x hx => h x (by simp [hx]))]; rfl
theorem all_spec (s : CntS) : Ris (rOf (allK s.1 s.2)) ∧ ∀ z, z ∈ rOf (allK s.1 s.2) ↔ z ∈ allK s.1 s.2 ∧ z.size = 32 := by
  rw [rOf_eq]; exact kOf_spec _
theorem mem_allK {s : CntS} {k : ByteArray} : k ∈ allK s.1 s.2 ↔ ∃ r ∈ s.1 :: s.2, ∃ y ∈ r, y.1 = k := by
  unfold allK keysC
  simp only [List.mem_append, List.mem_map, List.mem_flatMap, List.mem_cons]
  constructor
  · rintro (⟨y, hy, e⟩ | ⟨r, hr, y, hy, e⟩)
    · exact ⟨s.1, .inl rfl, y, hy, e⟩
    · exact ⟨r, .inr hr, y, hy, e⟩
  · rintro ⟨r, rfl | hr, y, hy, e⟩
    · exact .inl ⟨y, hy, e⟩
    · exact .inr ⟨r, hr, y, hy, e⟩
theorem okS_rows {s : CntS} (ok : okS s) : ∀ r ∈ s.1 :: s.2, okR r := fun r hr => by
  rcases List.mem_cons.1 hr with rfl | hr
  · exact ok.1
  · exact (ok.2.1 r hr).2
theorem all_in {s : CntS} (ok : okS s) (k : ByteArray) : inL (allL s) k = getL s.1 s.2 k := by
  obtain ⟨h1, h2⟩ := all_spec s
  unfold allL
  rw [tabL_in h1]
  split
  · rfl
  · rename_i hk
    have hn : ∀ r ∈ s.1 :: s.2, inL r k = 0 := fun r hr => inL_none fun y hy e =>
      hk ((h2 k).2 ⟨mem_allK.2 ⟨r, hr, y, hy, e⟩, by rw [← e]; exact ((okS_rows ok r hr).2 y hy).1⟩)
    unfold getL
    rw [hn s.1 (by simp), sumIn_zero k s.2 (fun r hr => hn r (by simp [hr]))]; rfl
theorem all_ris (s : CntS) : RisC (allL s) := tabL_ris (all_spec s).1
theorem all_nz (s : CntS) : ∀ x ∈ allL s, x.2 ≠ 0 := tabL_nz
theorem all_ok {s : CntS} (ok : okS s) (ha : ∀ k, absS s k ≤ 1000000000) : okR (allL s) := by
  refine ⟨all_ris s, fun x hx => ?_⟩
  obtain ⟨h1, h2, h3⟩ := tabL_mem.1 hx
  have h4 := getL_abs s x.1
  have h5 := ha x.1
  refine ⟨(((all_spec s).2 x.1).1 h1).2, by rw [h2]; exact h3, ?_, ?_⟩ <;> (rw [h2]; unfold bnd; omega)
theorem all_ext {s t : CntS} (os : okS s) (ot : okS t) (h : ∀ k, getL s.1 s.2 k = getL t.1 t.2 k) : allL s = allL t :=
  cnt_ext (all_ris s) (all_ris t) (all_nz s) (all_nz t) fun k => by rw [all_in os, all_in ot, h]
theorem pack_get {s : CntS} (ok : okS s) (k : ByteArray) : getL (packL s).1 (packL s).2 k = getL s.1 s.2 k ∧ absS (packL s) k ≤ absS s k := by
  have hk := all_in ok k
  have ha := getL_abs s k
  unfold packL
  split
  · split
    · rename_i h1 h2
      rw [h2] at hk
      have e : inL [] k = 0 := rfl
      rw [e] at hk
      refine ⟨?_, ?_⟩
      · rw [← hk]; rfl
      · exact Nat.zero_le _
    · unfold getL absS
      have e : inL [] k = 0 := rfl
      rw [e, absR_cons]
      simp only [sumIn, List.map_cons, List.map_nil, List.sum_cons, List.sum_nil, absR]
      unfold getL at hk ha
      rw [hk]
      unfold absS absR at ha
      exact ⟨by unfold sumIn; omega, by omega⟩
  · exact ⟨rfl, Nat.le_refl _⟩
theorem put_get {s : CntS} (h : fitP s) (hs : sizeS s ≤ 900) {k : ByteArray} (hk : k.size = 32) {n : Int} (hn : -32768 ≤ n ∧ n ≤ 32767) (ha : ∀ q, absS s q ≤ 100000000) :
    (putL s k n).2 = 0 ∧ ∀ q, getL (putL s k n).1.1 (putL s k n).1.2 q = getL s.1 s.2 q + (if q = k then n else 0) ∧ absS (putL s k n).1 q ≤ absS s q + 32768 := by
  obtain ⟨ok, h7, h12⟩ := h
  obtain ⟨m1, m2, m3⟩ := memL_law k n s.1 ok.1.1 (okR_nz ok.1)
  have hi := ha k
  have hb : -bnd ≤ inL s.1 k + n ∧ inL s.1 k + n ≤ bnd := by unfold absS at hi; unfold bnd; omega
  have hmo := memL_ok ok.1 hk hb
  have hf := runs_few ok.2 (by unfold sizeS at hs; omega)
  have hm : ∀ q, (inL (memL s.1 k n) q).natAbs ≤ (inL s.1 q).natAbs + 32768 := fun q => by
    rw [m3 q]; split <;> omega
  unfold putL
  rw [if_neg (by rw [hk]; simp), if_neg (by simp only [Decidable.not_not]; exact ⟨by omega, by omega, hb.1, hb.2⟩)]
  split
  · refine ⟨rfl, fun q => ?_⟩
    have := hm q
    unfold getL absS
    dsimp only
    rw [m3 q]
    rw [m3 q] at this
    exact ⟨by omega, by omega⟩
  · rw [if_neg (by omega)]
    refine ⟨rfl, fun q => ?_⟩
    have h1 := hm q
    have h2 := ha q
    unfold absS at h2
    obtain ⟨c1, c2⟩ := comeP_get ok.2 hmo q (by omega)
    unfold getL absS
    dsimp only
    have e : inL [] q = 0 := rfl
    rw [c1, e, m3 q]
    refine ⟨by omega, ?_⟩
    simp only [Int.natAbs_zero, Nat.zero_add]
    omega
end Go.Proofs.Yteidlngffikboaa

/- Here ends the text LsmSumsP; here begins LsmTot. -/
namespace Go.Proofs.Yteidlngffikboaa
open Go.RowKit
set_option linter.unusedVariables false
set_option linter.unusedSimpArgs false
abbrev tabV (T : List Int) : Array Value := (T.map (Value.int .i64)).toArray
/-- what the first i places put to a key -/
def totT (T : List Int) (key : ByteArray) : Nat → Int
  | 0 => 0
  | i + 1 => totT T key i + (if nameB (UInt8.ofNat i) = key then (T[i]?).getD 0 else 0)
theorem tot_bound {T : List Int} (hb : ∀ x ∈ T, -1000000000 ≤ x ∧ x ≤ 1000000000) (key : ByteArray) : ∀ i : Nat, -(1000000000 * (i : Int)) ≤ totT T key i ∧ totT T key i ≤ 1000000000 * (i : Int)
  | 0 => by simp [totT]
  | i + 1 => by
    have ih := tot_bound hb key i
    have hx : -1000000000 ≤ (T[i]?).getD 0 ∧ (T[i]?).getD 0 ≤ 1000000000 := by
      by_cases h : i < T.length
      · rw [List.getElem?_eq_getElem h]; exact hb _ (List.getElem_mem h)
      · rw [List.getElem?_eq_none (by omega)]; simp
    rw [totT]
    split <;> omega
theorem index_tab (V : Array Value) (wr : World) (i : Nat) (hi : i < 256) (x : Int) (hv : V[i]? = some (.int .i64 x)) : (Instr.index 44 (.agg V) (.int .i64 i)).run Try.prog wr = .ok (.int .i64 x) wr := by
  have hu : Try.prog.underlying 44 = some (.array 256 3) := by kernel_rfl
  have a3 := Try.isAgg3
  have z3 := Try.sizeOf3
  have h1 : (0 : Int) ≤ (i : Int) ∧ (i : Int) < 256 := by omega
  unfold Instr.index
  simp [asIntOf, underlying, hu, h1, part, a3, z3, hv, Result.andThen]
  intro h
  omega
set_option maxRecDepth 20000 in
set_option maxHeartbeats 2000000 in
theorem total_any (w : World) (T : List Int) (hT : T.length = 256) (key : ByteArray) (hb : ∀ x ∈ T, -1000000000 ≤ x ∧ x ≤ 1000000000) :
    Calls Try.prog 28 #[.agg (tabV T), .string key] w fun e w' => e = .returned (.int .i64 (totT T key 256)) ∧ Below w.heap.size w w' := by
  have HSZ : Hid ((tabV T).size = 256) := by unfold Hid; simp [hT]
  have HTB := Lib.hid (tot_bound hb key)
  have HXB : Hid (∀ i, i < 256 → -1000000000 ≤ (T[i]?).getD 0 ∧ (T[i]?).getD 0 ≤ 1000000000) := fun i h => by
    rw [List.getElem?_eq_getElem (show i < T.length by omega)]; exact hb _ (List.getElem_mem _)
  have HVI : Hid (∀ i, i < 256 → (tabV T)[i]? = some (.int .i64 ((T[i]?).getD 0))) := fun i h => by
    simp [List.getElem?_eq_getElem (show i < T.length by omega)]
  have HST : Hid (∀ i, totT T key (i + 1) = totT T key i + (if nameB (UInt8.ofNat i) = key then (T[i]?).getD 0 else 0)) := fun i => rfl
  clear hb hT
  have HT0 : Hid (totT T key 0 = 0) := rfl
  generalize hV : tabV T = V at *
  generalize hG : (fun i : Nat => (T[i]?).getD 0) = G at *
  have hG2 : ∀ i : Nat, (T[i]?).getD 0 = G i := fun i => by rw [← hG]
  simp only [hG2] at HXB HVI HST
  generalize hF : totT T key = F at *
  clear hV hG hG2 hF
  have hi : (Try.prog.info? 44).map (·.size) = some V.size := by rw [HSZ.out]; kernel_rfl
  have hla := run_loadAt_new (P := Try.prog) w 44 V 256 3 (by kernel_rfl) hi
  have HBE : Hid (Below w.heap.size w (w.alloc (.cells V 44))) := (Below.refl _ _).alloc (Nat.le_refl _) _
  go_enter Try.func28, Try.ntmps28
  go_wp2_with fail
  unfold Oper.wp
  simp [execOp, Act.eval, hla, Result.andThen]
  rw [Oper.upon_value]
  clear hla hi
  generalize w.alloc (.cells V 44) = wE at *
  go_wp2_with fail
  go_loopw [5, 9] (fun n a wr => ∃ i : Nat, i ≤ 256 ∧ a = .int .i64 i ∧ n = .int .i64 (F i) ∧ Hid (Below w.heap.size w wr)) (fun _ a _ => 256 - (intOf a).toNat)
  case atStart => exact ⟨0, Nat.zero_le _, rfl, by rw [HT0.out], HBE⟩
  case round =>
    obtain ⟨i, hi, rfl, rfl, HW⟩ := hrel
    by_cases hlt : i < 256
    · have hlt' : (i : Int) < 256 := by omega
      have hvi := HVI.out i hlt
      have hxb := HXB.out i hlt
      have hix := index_tab V wr i hlt _ hvi
      have hfb := HTB.out i
      have HS := Lib.hid (HST.out i)
      have hnn : (UInt8.ofNat i).toNat = i := by simp; omega
      have HNM := Lib.hid (name_any wr (UInt8.ofNat i))
      rw [hnn] at HNM
      generalize nameB (UInt8.ofNat i) = nb at *
      generalize G i = x at *
      by_cases hx0 : x = 0
      · subst hx0
        have HS2 : Hid (F (i + 1) = F i) := by unfold Hid; rw [HS.out]; split <;> omega
        clear hxb
        go_wp2_with fail
        go_roundw
        case rel => exact ⟨i + 1, by omega, by go_num, by rw [HS2.out], HW⟩
        case measure => simp [intOf]; omega
      · have hxz : (x != 0) = true := by simpa using hx0
        by_cases hk : nb = key
        · subst hk
          have HS2 : Hid (F (i + 1) = F i + x) := by unfold Hid; rw [HS.out, if_pos rfl]
          go_wp2_with fail
          refine HNM.out.mono ?_
          rintro e w2 ⟨rfl, b2⟩
          have HW2 := Lib.hid (HW.out.trans (b2.mono HW.out.size))
          clear b2 HNM
          go_wp2_with fail
          go_roundw
          case rel => exact ⟨i + 1, by omega, by go_num, by rw [HS2.out], HW2⟩
          case measure => simp [intOf]; omega
        · have hkf := str_eq_f hk
          have HS2 : Hid (F (i + 1) = F i) := by unfold Hid; rw [HS.out, if_neg hk]; omega
          clear hk
          go_wp2_with fail
          refine HNM.out.mono ?_
          rintro e w2 ⟨rfl, b2⟩
          have HW2 := Lib.hid (HW.out.trans (b2.mono HW.out.size))
          clear b2 HNM
          go_wp2_with fail
          go_roundw
          case rel => exact ⟨i + 1, by omega, by go_num, by rw [HS2.out], HW2⟩
          case measure => simp [intOf]; omega
    · obtain rfl : i = 256 := by omega
      go_wp2_with fail
      go_ret
      exact ⟨rfl, HW.out⟩
end Go.Proofs.Yteidlngffikboaa

/- Here ends the text LsmTot; here begins LsmTotP. -/
namespace Go.Proofs.Yteidlngffikboaa
set_option linter.unusedVariables false
theorem tot_set (T : List Int) (key : ByteArray) (c : Nat) (hc : c < T.length) (v : Int) : ∀ i : Nat, totT (T.set c v) key i = totT T key i + (if c < i ∧ nameB (UInt8.ofNat c) = key then v - T[c] else 0)
  | 0 => by simp [totT]
  | i + 1 => by
    rw [totT, totT, tot_set T key c hc v i]
    by_cases h : c = i
    · subst h
      rw [List.getElem?_set_self hc, List.getElem?_eq_getElem hc]
      by_cases hk : nameB (UInt8.ofNat c) = key
      · simp [hk]; omega
      · simp [hk]
    · rw [List.getElem?_set_ne h]
      by_cases hlt : c < i
      · have : c < i + 1 := by omega
        simp only [hlt, this, true_and]
        omega
      · have : ¬ c < i + 1 := by omega
        simp only [hlt, this, false_and, if_false]
        omega
theorem tot_zero (key : ByteArray) (n : Nat) : ∀ i : Nat, totT (List.replicate n 0) key i = 0
  | 0 => rfl
  | i + 1 => by
    rw [totT, tot_zero key n i]
    by_cases h : i < n
    · rw [List.getElem?_replicate_of_lt h]; simp
    · rw [List.getElem?_eq_none (by simp; omega)]; simp
/-- one change: a key's total -/
theorem tot_put {T : List Int} (hT : T.length = 256) (c : UInt8) (b : Int) (key : ByteArray) : totT (T.set c.toNat (T[c.toNat]'(by have := c.toNat_lt; omega) + b)) key 256 = totT T key 256 + (if key = nameB c then b else 0) := by
  have hc := c.toNat_lt
  rw [tot_set T key c.toNat (by omega)]
  have e : UInt8.ofNat c.toNat = c := by simp
  rw [e]
  by_cases h : key = nameB c
  · rw [if_pos ⟨by omega, h.symm⟩, if_pos h]; omega
  · rw [if_neg (fun k => h k.2.symm), if_neg h]
end Go.Proofs.Yteidlngffikboaa

/- Here ends the text LsmTotP; here begins LsmCntP. -/
namespace Go.Proofs.Yteidlngffikboaa
set_option linter.unusedVariables false
theorem count_one : ∀ {L : List Cnt}, RisC L → (∀ x ∈ L, x.2 ≠ 0) → ∀ k : ByteArray, L.countP (fun x => decide (x.1 = k)) = if inL L k = 0 then 0 else 1
  | [], _, _, k => rfl
  | x :: L, hr, hz, k => by
    have hr2 : RisC L := (List.pairwise_cons.1 hr).2
    have hx := hz x (by simp)
    have ih := count_one hr2 (fun y hy => hz y (by simp [hy])) k
    by_cases h : x.1 = k
    · have hn : ∀ y ∈ L, y.1 ≠ k := fun y hy e => by
        have h1 := (List.pairwise_cons.1 hr).1 y hy
        rw [h, ← e, bl_irrefl] at h1
        cases h1
      have h0 : L.countP (fun x => decide (x.1 = k)) = 0 := List.countP_eq_zero.2 fun y hy => by simpa using hn y hy
      have hi : inL (x :: L) k = x.2 := by rw [← h]; exact inL_mem hr x (by simp)
      rw [List.countP_cons, h0, hi, if_neg hx]
      simp [h]
    · have hi : inL (x :: L) k = inL L k := by simp [inL, h]
      rw [List.countP_cons, ih, hi]
      simp [h]
def firstB (i : Nat) : Bool := decide (∀ j, j < i → nameB (UInt8.ofNat j) ≠ nameB (UInt8.ofNat i))
/-- how many of the first i names are new and have a total that is not nought -/
def cntN (g : ByteArray → Int) : Nat → Nat
  | 0 => 0
  | i + 1 => cntN g i + (if firstB i = true ∧ g (nameB (UInt8.ofNat i)) ≠ 0 then 1 else 0)
def seenB (i : Nat) (k : ByteArray) : Bool := decide (∃ j, j < i ∧ nameB (UInt8.ofNat j) = k)
theorem seen_succ (i : Nat) (k : ByteArray) : seenB (i + 1) k = (seenB i k || decide (k = nameB (UInt8.ofNat i))) := by
  unfold seenB
  rw [← Bool.decide_or]
  refine decide_eq_decide.2 ⟨?_, ?_⟩
  · rintro ⟨j, h, e⟩
    by_cases hj : j = i
    · subst hj; exact .inr e.symm
    · exact .inl ⟨j, by omega, e⟩
  · rintro (⟨j, h, e⟩ | e)
    · exact ⟨j, by omega, e⟩
    · exact ⟨i, by omega, e.symm⟩
theorem first_seen (i : Nat) : firstB i = !seenB i (nameB (UInt8.ofNat i)) := by
  unfold firstB seenB
  rw [← decide_not]
  refine decide_eq_decide.2 ⟨?_, ?_⟩
  · rintro h ⟨j, h1, h2⟩; exact h j h1 h2
  · intro h j h1 h2; exact h ⟨j, h1, h2⟩
theorem countP_or : ∀ (L : List Cnt) (p q : Cnt → Bool), (∀ x ∈ L, p x = true → q x = false) → L.countP (fun x => p x || q x) = L.countP p + L.countP q
  | [], _, _, _ => rfl
  | x :: L, p, q, h => by
    rw [List.countP_cons, List.countP_cons, List.countP_cons, countP_or L p q (fun y hy => h y (by simp [hy]))]
    have := h x (by simp)
    cases hp : p x <;> cases hq : q x <;> simp_all <;> omega
theorem cnt_seen {L : List Cnt} (hr : RisC L) (hz : ∀ x ∈ L, x.2 ≠ 0) : ∀ i : Nat, L.countP (fun x => seenB i x.1) = cntN (inL L) i
  | 0 => List.countP_eq_zero.2 fun x _ => by simp [seenB]
  | i + 1 => by
    have ih := cnt_seen hr hz i
    have h1 := count_one hr hz (nameB (UInt8.ofNat i))
    rw [cntN, ← ih, first_seen]
    cases hs : seenB i (nameB (UInt8.ofNat i)) with
    | true =>
      rw [if_neg (by simp), Nat.add_zero]
      congr 1
      funext x
      rw [seen_succ]
      by_cases e : x.1 = nameB (UInt8.ofNat i)
      · rw [e, hs]; rfl
      · simp [e]
    | false =>
      have h2 := countP_or L (fun x => seenB i x.1) (fun x => decide (x.1 = nameB (UInt8.ofNat i))) (fun x _ h => by
        refine decide_eq_false fun e => ?_
        rw [e, hs] at h; cases h)
      rw [show (fun x : Cnt => seenB (i + 1) x.1) = fun x => seenB i x.1 || decide (x.1 = nameB (UInt8.ofNat i)) from funext fun x => seen_succ i x.1, h2, h1]
      by_cases h0 : inL L (nameB (UInt8.ofNat i)) = 0
      · simp [h0]
      · simp [h0]
theorem tot_seen {T : List Int} {key : ByteArray} : ∀ i : Nat, totT T key i ≠ 0 → seenB i key = true
  | 0, h => absurd rfl h
  | i + 1, h => by
    rw [seen_succ]
    by_cases e : key = nameB (UInt8.ofNat i)
    · simp [e]
    · rw [totT, if_neg (fun k => e k.symm), Int.add_zero] at h
      rw [tot_seen i h]; rfl
/-- all counts are as many as there are names with a total that is not nought -/
theorem all_count {L : List Cnt} (hr : RisC L) (hz : ∀ x ∈ L, x.2 ≠ 0) {T : List Int} (hT : ∀ k, inL L k = totT T k 256) : L.length = cntN (fun k => totT T k 256) 256 := by
  have h := cnt_seen hr hz 256
  rw [show inL L = fun k => totT T k 256 from funext hT] at h
  rw [← h]
  refine (List.countP_eq_length.2 fun x hx => ?_).symm
  refine tot_seen (T := T) 256 ?_
  rw [← hT, inL_mem hr x hx]
  exact hz x hx
end Go.Proofs.Yteidlngffikboaa
