/- Texts of this claim's author, packed: GfPlainK, GfSquareK, ParFewK, ParMatrixK, ParMakeK, ParJoinK. Conditions: none. -/
import Derived.Test.YtfpofcfoeajkiaaGreatQR16
import Derived.Deep.RegionHeld3
import Derived.Test.YtfpofcfoeajkiaaGreatQR01
import Derived.Test.YtfpofcfoeajkiaaGreatQR11
/- The plain laws of GfBack. -/
namespace Go.Proofs.YtfpofcfoeajkiaaGreat
open Go.RowKit
set_option linter.unusedVariables false
theorem few_first {l : List ByteArray} (h : fewL l = true) : firstN l ≤ 1000000000 := by
  unfold fewL at h
  rw [Bool.and_eq_true] at h
  cases l with
  | nil => simp [firstN]
  | cons a t =>
    have := allN_get h.2 0 (by simp)
    simp only [decide_eq_true_iff, List.getElem_cons_zero] at this
    show a.size ≤ _
    omega
/-- rows below n alike -/
def RE (n : Nat) (R R' : Rw) : Prop := ∀ i, i < n → R i = R' i
theorem pvt_congr {n : Nat} {R R' : Rw} (h : RE n R R') (c : Nat) : ∀ k, k ≤ n → pvt R c k = pvt R' c k
  | 0, _ => rfl
  | k + 1, hk => by unfold pvt; rw [pvt_congr h c k (by omega), h k (by omega)]
theorem stp_congr {n : Nat} {R R' : Rw} (h : RE n R R') {c p : Nat} (hc : c < n) (hp : p < n) : RE n (stp R c p) (stp R' c p) := by
  have h1 : RE n (sw R c p) (sw R' c p) := fun i hi => by
    unfold sw
    split
    · exact h p hp
    · split
      · exact h c hc
      · exact h i hi
  have h2 : ∀ f, RE n (sc (sw R c p) c f) (sc (sw R' c p) c f) := fun f i hi => by
    funext k
    unfold sc
    rw [h1 c hc, h1 i hi]
  intro i hi
  funext k
  unfold stp wp
  rw [h1 c hc, h2 _ c hc, h2 _ i hi]
theorem el_congr {n : Nat} {R R' : Rw} (h : RE n R R') : ∀ c, c ≤ n → (el n R c = none ∧ el n R' c = none) ∨ ∃ S S', el n R c = some S ∧ el n R' c = some S' ∧ RE n S S'
  | 0, _ => .inr ⟨R, R', rfl, rfl, h⟩
  | c + 1, hc => by
    rcases el_congr h c (by omega) with ⟨h1, h2⟩ | ⟨S, S', h1, h2, h3⟩
    · left; unfold el; rw [h1, h2]; exact ⟨rfl, rfl⟩
    · have hp := pvt_congr h3 c n (Nat.le_refl _)
      cases hq : pvt S c n with
      | none => left; unfold el; rw [h1, h2]; simp only; rw [← hp, hq]; exact ⟨rfl, rfl⟩
      | some p =>
        right
        refine ⟨stp S c p, stp S' c p, by unfold el; rw [h1]; simp only; rw [hq], by unfold el; rw [h2]; simp only; rw [← hp, hq], stp_congr h3 (by omega) (pvt_some hq).2.1⟩
theorem inv_congr {n : Nat} {M M' O : Rw} (h : ∀ i, i < n → ∀ k, k < n → M i k = M' i k) (hO : inv n M = some O) : ∃ O', inv n M' = some O' ∧ ∀ i, i < n → O i = O' i := by
  have hb : RE n (beg n M) (beg n M') := fun i hi => by
    funext k; unfold beg
    by_cases e : k < n
    · rw [if_pos e, if_pos e, h i hi k e]
    · rw [if_neg e, if_neg e]
  unfold inv at hO ⊢
  rcases el_congr hb n (Nat.le_refl _) with ⟨h1, _⟩ | ⟨S, S', h1, h2, h3⟩
  · rw [h1] at hO; cases hO
  · rw [h1] at hO
    rw [h2]
    injection hO with hO; subst hO
    exact ⟨_, rfl, fun i hi => by funext k; show S i (n + k) = S' i (n + k); rw [h3 i hi]⟩
theorem invL_of {m : List ByteArray} (h : sqOk m = true) : invL m = rowsO m.length (inv m.length (mt m)) := by unfold invL; rw [if_pos h]
theorem timesL_of {m l : List ByteArray} (h : timesOk m l = true) : timesL m l = (List.range m.length).map (timesRow m l) := by unfold timesL; rw [if_pos h]
theorem rowsL_len (n : Nat) (N : Rw) : (rowsL n N).length = n := by simp [rowsL]
theorem mapF_get (n W : Nat) (F : Nat → Nat → UInt8) (i : Nat) (hi : i < n) : ((List.range n).map fun i => bytesF W (F i)).getD i .empty = bytesF W (F i) := by
  rw [List.getD_eq_getElem?_getD, List.getElem?_map, List.getElem?_range hi]; rfl
theorem mt_map (n W : Nat) (F : Nat → Nat → UInt8) (i k : Nat) (hi : i < n) (hk : k < W) : mt ((List.range n).map fun i => bytesF W (F i)) i k = F i k := by
  unfold mt; rw [mapF_get n W F i hi, rw_bytesF _ hk]
theorem first_map (n W : Nat) (F : Nat → Nat → UInt8) (h : 0 < n) : firstN ((List.range n).map fun i => bytesF W (F i)) = W := by
  cases n with
  | zero => omega
  | succ n => rw [List.range_succ_eq_map]; simp [firstN, bytesF_size]
theorem even_map (n W : Nat) (F : Nat → Nat → UInt8) : evenL ((List.range n).map fun i => bytesF W (F i)) = true := by
  unfold evenL allN
  rw [List.all_eq_true]
  intro x hx
  obtain ⟨i, hi, rfl⟩ := List.mem_map.1 hx
  have : 0 < n := by have := List.mem_range.1 hi; omega
  rw [first_map n W F this, bytesF_size]
  simp
theorem width_map (n W : Nat) (F : Nat → Nat → UInt8) (h : 0 < n) (h16 : n ≤ 16) : widthN ((List.range n).map fun i => bytesF W (F i)) = W := by
  unfold widthN
  rw [if_neg, first_map n W F h]
  rintro (e | e)
  · simp at e; omega
  · unfold evenB at e
    rw [even_map] at e
    simp at e; omega
theorem list_rows {l : List ByteArray} {n W : Nat} {F : Nat → Nat → UInt8} (hn : l.length = n) (hs : ∀ i (h : i < l.length), l[i].size = W) (he : ∀ i, i < n → ∀ k, k < W → F i k = mt l i k) : ((List.range n).map fun i => bytesF W (F i)) = l := by
  apply List.ext_getElem
  · simp [hn]
  · intro i h1 h2
    rw [List.getElem_map, List.getElem_range]
    have hi : i < n := by omega
    have : bytesF W (F i) = bytesF W (rw' l[i]) := bytesF_congr fun k hk => by rw [he i hi k hk, mt_get h2]
    rw [this, ← hs i h2, bytesF_rw]
theorem invOk_some {m : List ByteArray} (h : invOk m = true) : sqOk m = true ∧ ∃ N, inv m.length (mt m) = some N ∧ invL m = rowsL m.length N := by
  unfold invOk at h
  rw [Bool.and_eq_true] at h
  obtain ⟨h1, h2⟩ := h
  obtain ⟨N, hN⟩ := Option.isSome_iff_exists.1 h2
  refine ⟨h1, N, hN, ?_⟩
  unfold invL
  rw [if_pos h1, hN]
  rfl
theorem back_inv {m : List ByteArray} (h : invOk m = true) : invOk (invL m) = true ∧ invL (invL m) = m := by
  obtain ⟨hs, N, hN, hL⟩ := invOk_some h
  obtain ⟨h0, h16, hr⟩ := sqOk_parts hs
  obtain ⟨O, hO, hOm⟩ := inv_inv hN
  have hsq : sqOk (invL m) = true := by
    unfold sqOk
    rw [decide_eq_true_iff, hL, rowsL_len]
    exact ⟨by omega, width_map m.length m.length N h0 h16⟩
  have hlen : (invL m).length = m.length := by rw [hL, rowsL_len]
  obtain ⟨O', hO', hOO⟩ := inv_congr (M' := mt (invL m)) (fun i hi k hk => by rw [hL]; exact (mt_map m.length m.length N i k hi hk).symm) hO
  have hinv : inv (invL m).length (mt (invL m)) = some O' := by rw [hlen]; exact hO'
  refine ⟨by unfold invOk; rw [hsq, hinv]; rfl, ?_⟩
  rw [invL_of hsq, hinv]
  show rowsL (invL m).length O' = m
  rw [hlen]
  exact list_rows rfl hr fun i hi k hk => by rw [← hOO i hi, hOm i hi k hk]
theorem back_times {m l : List ByteArray} (h : invOk m = true) (ht : timesOk m l = true) : timesOk (invL m) (timesL m l) = true ∧ timesL (invL m) (timesL m l) = l := by
  obtain ⟨hs, N, hN, hL⟩ := invOk_some h
  obtain ⟨h0, h16, hr⟩ := sqOk_parts hs
  have hw : widthN m = m.length := by unfold sqOk at hs; rw [decide_eq_true_iff] at hs; exact hs.2
  have hT : timesL m l = (List.range m.length).map (timesRow m l) := by unfold timesL; rw [if_pos ht]
  unfold timesOk at ht
  rw [Bool.and_eq_true, decide_eq_true_iff] at ht
  obtain ⟨⟨_, hwl⟩, hev⟩ := ht
  have hll : l.length = m.length := by omega
  have hle : evenL l = true ∧ l.length ≤ 16 := by unfold evenB at hev; rwa [Bool.and_eq_true, decide_eq_true_iff] at hev
  have hT' : timesL m l = (List.range m.length).map fun i => bytesF (firstN l) (fun k => sg l.length fun j => um (mt m i j) (mt l j k)) := hT
  have hlen : (timesL m l).length = m.length := by rw [hT']; simp
  have hfir : firstN (timesL m l) = firstN l := by rw [hT']; exact first_map m.length (firstN l) (fun i k => sg l.length fun j => um (mt m i j) (mt l j k)) h0
  have hok : timesOk (invL m) (timesL m l) = true := by
    unfold timesOk evenB
    rw [hL, show widthN (rowsL m.length N) = m.length from width_map m.length m.length N h0 h16, hlen]
    rw [hT', even_map m.length (firstN l) (fun i k => sg l.length fun j => um (mt m i j) (mt l j k))]
    simp only [Bool.true_and, Bool.and_eq_true, decide_eq_true_iff]
    exact ⟨⟨by omega, trivial⟩, h16⟩
  refine ⟨hok, ?_⟩
  rw [timesL_of hok, hL, rowsL_len]
  refine list_rows (F := fun i k => sg (timesL m l).length fun j => um (mt (rowsL m.length N) i j) (mt (timesL m l) j k)) hll (fun i hi => by rw [hfir]; exact evenL_get hle.1 i hi) fun i hi k hk => ?_
  rw [hfir] at hk
  rw [hlen, ← inv_back hN (fun j => mt l j k) i hi]
  refine sg_congr fun j hj => ?_
  rw [hT', mt_map m.length (firstN l) _ j k hj hk, show mt (rowsL m.length N) i j = N i j from mt_map m.length m.length N i j hi hj, hll]
theorem firstN_times {m l : List ByteArray} (ht : timesOk m l = true) : firstN (timesL m l) = firstN l := by
  have hT := timesL_of ht
  unfold timesOk at ht
  rw [Bool.and_eq_true, decide_eq_true_iff] at ht
  rw [hT]
  exact first_map m.length (firstN l) (fun i k => sg l.length fun j => um (mt m i j) (mt l j k)) (widthN_ne ht.1.1).1
theorem invL_no {m : List ByteArray} (h : invOk m = false) : invL m = [] := by
  unfold invOk at h
  unfold invL
  cases hs : sqOk m with
  | false => rw [if_neg (by simp)]
  | true =>
    rw [hs, Bool.true_and] at h
    rw [if_pos rfl]
    cases hi : inv m.length (mt m) with
    | none => rfl
    | some N => rw [hi] at h; cases h
end Go.Proofs.YtfpofcfoeajkiaaGreat
/- siloref35.square: walk. -/
namespace Go.Proofs.YtfpofcfoeajkiaaGreat
open Go.RowKit
set_option linter.unusedVariables false
set_option linter.unusedSimpArgs false
theorem sqOk_ref (m : List ByteArray) : sqOk m = (evenR m && decide (m.length ≤ 16) && decide (firstN m = m.length)) := by
  unfold sqOk evenR widthN evenB
  by_cases h0 : m.length = 0
  · simp [h0]
  · cases he : evenL m
    · simp [h0]
      exact fun e => h0 e.symm
    · by_cases h16 : m.length ≤ 16
      · have d1 : decide (m.length ≤ 16) = true := by simpa using h16
        rw [d1, Bool.eq_iff_iff]
        simp only [h0, Bool.true_and, Bool.and_true, false_or, Bool.and_eq_true, decide_eq_true_iff]
        rw [if_neg (by simp)]
        constructor
        · rintro ⟨a, b⟩; exact ⟨by omega, b⟩
        · rintro ⟨a, b⟩; exact ⟨by simpa using h0, b⟩
      · have d1 : decide (m.length ≤ 16) = false := by simpa using h16
        rw [d1]; simp [h0]
        exact fun e => h0 e.symm
theorem wp_make_bytes {w : World} {o : Oper} {a : Act} {K : Act → World → Prop} {Q : Exit → Act → World → Prop} (l c : Operand) (t : TypeId) (hop : o.op = Op.makeSlice t l c)
    (h1 : Tryz.prog.underlying t = some (.slice 5)) (n : Nat) (hl : a.eval l = .int .i64 (n : Int)) (hc : a.eval c = .int .i64 (n : Int)) (hn : n ≤ 1000000000)
    (h : ∀ w', FRow w' w.heap.size n (fun _ => 0) → Below w.heap.size w w' → K (a.put o.dst (.slice (some ⟨w.heap.size, 0, none⟩) n n)) w') : o.wp Tryz.prog a w K Q := by
  obtain ⟨i0, hi0, hz0, hz1, hz2⟩ := info_parts byteInfo
  obtain ⟨w', hrun, r1, r2⟩ := run_make_full (P := Tryz.prog) w w.heap.size t 5 i0 (.int .u8 0) 1 h1 hi0 hz0 hz1 .i64 .i64 n (by rw [hz2]; omega) (by unfold maxLen; omega) (Nat.le_refl _)
  unfold Oper.wp
  simp [execOp, hop, hl, hc, hrun, Result.andThen]
  exact h w' (FRow.made r1) ((Below.refl _ _).grown r2 (Nat.le_refl _) (fun k e => by cases e))
theorem one_ready {P : Program} {md : Region.Mode} {ops : Array Oper} {Q : Exit → Act → World → Prop} {S : World → Prop} {fuel : Nat} {listed : Array Bool} {a : Act} {w : World} (i : Nat) (o : Oper) (hr : Region.ready md ops listed = [i]) (ho : ops[i]? = some o)
    (hw : Region.wanted o (yielded ops a.tmps) = true) (h : ∀ K' : Act → World → Prop, Shut (∀ a w, S w → (S w → wpAnyH P md ops Q S fuel (listed.setIfInBounds i true) a w) → K' a w) → Oper.wp P o a w K' Q) : wpAnyH P md ops Q S (fuel + 1) listed a w :=
  wpAnyH_ready hr (by simp) (AllReadyH.cons ho (fun K hK => by rw [if_pos hw]; exact h K hK) AllReadyH.nil)
/-- the one operation that is ready makes n bytes -/
theorem one_make {md : Region.Mode} {ops : Array Oper} {Q : Exit → Act → World → Prop} {S : World → Prop} {fuel : Nat} {listed : Array Bool} {a : Act} {w : World} (i : Nat) (o : Oper) (hr : Region.ready md ops listed = [i]) (ho : ops[i]? = some o)
    (hw : Region.wanted o (yielded ops a.tmps) = true) (l c : Operand) (t : TypeId) (hop : o.op = Op.makeSlice t l c) (h1 : Tryz.prog.underlying t = some (.slice 5)) (n : Nat) (hl : a.eval l = .int .i64 (n : Int)) (hc : a.eval c = .int .i64 (n : Int)) (hn : n ≤ 1000000000)
    (h : ∀ w', FRow w' w.heap.size n (fun _ => 0) → Below w.heap.size w w' → S w' ∧ (S w' → wpAnyH Tryz.prog md ops Q S fuel (listed.setIfInBounds i true) (a.put o.dst (.slice (some ⟨w.heap.size, 0, none⟩) n n)) w')) : wpAnyH Tryz.prog md ops Q S (fuel + 1) listed a w :=
  one_ready i o hr ho hw fun K hK => wp_make_bytes l c t hop h1 n hl hc hn fun w' q1 q2 => hK.out _ _ (h w' q1 q2).1 (h w' q1 q2).2
/-- the one operation that is ready has a value -/
theorem one_val {P : Program} {md : Region.Mode} {ops : Array Oper} {Q : Exit → Act → World → Prop} {S : World → Prop} {fuel : Nat} {listed : Array Bool} {a : Act} {w : World} (i : Nat) (o : Oper) (hr : Region.ready md ops listed = [i]) (ho : ops[i]? = some o)
    (hw : Region.wanted o (yielded ops a.tmps) = true) (v : Value) (w' : World) (hrun : (execOp a.eval o).run P w = .ok (.value v) w') (hS : S w')
    (h : wpAnyH P md ops Q S fuel (listed.setIfInBounds i true) (a.put o.dst v) w') : wpAnyH P md ops Q S (fuel + 1) listed a w :=
  one_ready i o hr ho hw fun K hK => by
    unfold Oper.wp
    rw [hrun]
    exact hK.out _ _ hS (fun _ => h)
theorem exec_conv {P : Program} {a : Act} {o : Oper} {s d : TypeId} {x : Operand} {w w' : World} {v vx : Value} (hop : o.op = Op.convert s d x) (h : (convert s d vx).run P w = .ok v w') (hx : a.eval x = vx) : (execOp a.eval o).run P w = .ok (.value v) w' := by
  unfold execOp
  simp [hop, hx, h, Result.andThen]
theorem rw_append (x z : ByteArray) (k : Nat) : rw' (x ++ z) k = if k < x.size then rw' x k else rw' z (k - x.size) := by
  unfold rw'
  rw [toList_append, List.getD_eq_getElem?_getD, List.getElem?_append]
  have : x.data.toList.length = x.size := by simp
  rw [this]
  split
  · rw [← List.getD_eq_getElem?_getD]
  · rw [← List.getD_eq_getElem?_getD]
def BlwS (W w : World) : Prop := Below W.heap.size W w
end Go.Proofs.YtfpofcfoeajkiaaGreat
/- parity: few, even, of both packages: walks. -/
namespace Go.Proofs.YtfpofcfoeajkiaaGreat
open Go.RowKit
set_option linter.unusedVariables false
set_option linter.unusedSimpArgs false
def fewN (n : Int) : Bool := decide (0 < n ∧ n ≤ 16)
set_option maxRecDepth 20000 in
set_option maxHeartbeats 1000000 in
theorem pfewP_any (n : Int) (w : World) : Calls Tryz.prog 60 #[.int .i64 n] w fun e w' => e = .returned (.bool (fewN n)) ∧ w = w' := by
  by_cases h0 : 0 < n
  · have d0 : decide (0 < n) = true := by simpa using h0
    by_cases h1 : n ≤ 16
    · have d1 : decide (n ≤ 16) = true := by simpa using h1
      have HF : Hid (fewN n = true) := by unfold Hid fewN; simp [h0, h1]
      go_enter Tryz.func60, Tryz.ntmps60
      go_wp2
      go_ret
      exact ⟨by rw [HF.out]; rfl, rfl⟩
    · have d1 : decide (n ≤ 16) = false := by simpa using h1
      have HF : Hid (fewN n = false) := by unfold Hid fewN; simp [h0, h1]
      go_enter Tryz.func60, Tryz.ntmps60
      go_wp2
      go_ret
      exact ⟨by rw [HF.out]; rfl, rfl⟩
  · have d0 : decide (0 < n) = false := by simpa using h0
    have HF : Hid (fewN n = false) := by unfold Hid fewN; simp [h0]
    go_enter Tryz.func60, Tryz.ntmps60
    go_wp2
    go_ret
    exact ⟨by rw [HF.out]; rfl, rfl⟩
def fewP (l : List ByteArray) : Bool := decide (l.length ≤ 40) && allN (fun n => decide (n ≤ 60)) l
set_option maxRecDepth 20000 in
set_option maxHeartbeats 1000000 in
theorem evcl_any (w : World) (va : Value) (l : List ByteArray) (pb : Nat) (x : ByteArray) (hp : w.cell? ⟨pb, 0, none⟩ = some va) (ha : StrsB w va l) (h0 : 0 < l.length) :
    Calls Tryz.prog 87 #[.string x, .pointer (some ⟨pb, 0, none⟩)] w fun e w' => e = .returned (.bool (decide (x.size ≠ firstN l))) ∧ w = w' := by
  obtain ⟨A, c, rfl, h1, h2⟩ := ha.len
  obtain ⟨b, off, rfl, hb, hc⟩ := ha.cells h0
  have e0 : w.cell? ⟨b, off, none⟩ = some (.string l[0]) := hc 0 h0
  have HN := Lib.hid (firstN_get h0)
  have hd : ((x.size : Int) != (l[0].size : Int)) = decide (x.size ≠ firstN l) := by
    rw [← firstN_get h0, Bool.eq_iff_iff, bne_iff_ne, decide_eq_true_iff]; omega
  generalize decide (x.size ≠ firstN l) = q at *
  generalize l[0] = y at *
  clear hc ha h1 h2
  go_enter Tryz.func87, Tryz.ntmps87
  go_wp2_with fail
  go_ret
  exact ⟨rfl, rfl⟩
set_option maxRecDepth 20000 in
set_option maxHeartbeats 2000000 in
theorem evix_any (w : World) (va : Value) (l : List ByteArray) (pb : Nat) (hp : w.cell? ⟨pb, 0, none⟩ = some va) (ha : StrsB w va l) :
    Calls Tryz.prog 107 #[va, .func (.func 87) #[] #[.pointer (some ⟨pb, 0, none⟩)]] w fun e w' => ∃ k : Int, e = .returned (.int .i64 k) ∧ (evenL l = true ∧ k = -1 ∨ evenL l = false ∧ 0 ≤ k) ∧ w = w' := by
  have HCL := Lib.hid (fun x h0 => evcl_any w va l pb x hp ha h0)
  obtain ⟨A, c, rfl, h1, h2⟩ := ha.len
  have HC := Lib.hid ha.cells; clear ha
  have hm : l.length ≤ 9223372036854775807 := by unfold maxLen at h2; omega
  clear h1 h2
  go_enter Tryz.func107, Tryz.ntmps107
  go_wp2
  go_loop [8] (fun i => ∃ j : Nat, j ≤ l.length ∧ i = .int .i64 j ∧ Hid (allN (fun n => decide (n = firstN l)) (l.take j) = true)) (fun i => l.length - (intOf i).toNat)
  case atStart => exact ⟨0, Nat.zero_le _, rfl, rfl⟩
  case round =>
    obtain ⟨j, hj, rfl, HT⟩ := hrel
    by_cases hlt : j < l.length
    · obtain ⟨b, off, rfl, hblt, hcell⟩ := HC.out (by omega)
      have h0 : 0 < l.length := by omega
      have e1 := hcell j hlt
      have hst := allN_step (fun n => decide (n = firstN l)) l j hlt
      rw [HT.out, Bool.true_and] at hst
      have HX := Lib.hid (HCL.out l[j] h0)
      clear hcell
      by_cases hs : l[j].size = firstN l
      · have hq : decide (l[j].size ≠ firstN l) = false := by simp [hs]
        rw [decide_eq_true hs] at hst
        rw [hq] at HX
        have HS := Lib.hid hst; clear hst hs hq
        generalize l[j] = x at *
        go_wp2_with fail
        refine HX.out.mono ?_
        rintro e w' ⟨rfl, rfl⟩
        go_wp2_with fail
        go_round
        case rel => exact ⟨j + 1, by omega, by go_num, HS.out⟩
        case measure => simp [intOf]; omega
      · have hq : decide (l[j].size ≠ firstN l) = true := by simp [hs]
        rw [decide_eq_false hs] at hst
        rw [hq] at HX
        have HF : Hid (evenL l = false) := Lib.hid (allN_pre (j + 1) hst)
        clear hst hs hq
        generalize l[j] = x at *
        go_wp2_with fail
        refine HX.out.mono ?_
        rintro e w' ⟨rfl, rfl⟩
        go_wp2_with fail
        go_ret
        exact ⟨_, rfl, .inr ⟨HF.out, by omega⟩, rfl⟩
    · obtain rfl : j = l.length := by omega
      rw [List.take_length] at HT
      go_wp2_with fail
      go_ret
      exact ⟨_, rfl, .inl ⟨HT.out, rfl⟩, rfl⟩
set_option maxRecDepth 20000 in
set_option maxHeartbeats 1000000 in
theorem evcf_any (w : World) (va : Value) (l : List ByteArray) (pb : Nat) (hp : w.cell? ⟨pb, 0, none⟩ = some va) (ha : StrsB w va l) :
    Calls Tryz.prog 86 #[va, .func (.func 87) #[] #[.pointer (some ⟨pb, 0, none⟩)]] w fun e w' => e = .returned (.bool (!evenL l)) ∧ w = w' := by
  have HI := Lib.hid (evix_any w va l pb hp ha)
  obtain ⟨A, c, rfl, h1, h2⟩ := ha.len
  clear ha h1 h2
  go_enter Tryz.func86, Tryz.ntmps86
  go_wp2_with fail
  refine HI.out.mono ?_
  rintro e w' ⟨k, rfl, hk, rfl⟩
  rcases hk with ⟨hE, rfl⟩ | ⟨hE, hk0⟩
  · have HE := Lib.hid hE; clear hE
    go_wp2_with fail
    go_ret
    exact ⟨by rw [HE.out]; rfl, rfl⟩
  · have HE := Lib.hid hE; clear hE
    have hd : decide (0 ≤ k) = true := by simpa using hk0
    go_wp2_with fail
    go_ret
    exact ⟨by rw [HE.out]; rfl, rfl⟩
set_option maxRecDepth 20000 in
set_option maxHeartbeats 1000000 in
theorem peven_any (w : World) (va : Value) (l : List ByteArray) (ha : StrsB w va l) :
    Calls Tryz.prog 62 #[va] w fun e w' => e = .returned (.bool (evenL l)) ∧ Below w.heap.size w w' := by
  have hb : ∀ t, Below w.heap.size w (w.alloc (.cells #[va] t)) := fun t => (Below.refl _ _).alloc (Nat.le_refl _) _
  have HC := Lib.hid (evcf_any (w.alloc (.cells #[va] 37)) va l w.heap.size (by simp) (ha.below (hb _) (Nat.le_refl _)))
  have HB := Lib.hid (hb 37)
  obtain ⟨A, c, rfl, h1, h2⟩ := ha.len
  clear ha h1 h2 hb
  cases hE : evenL l <;> rw [hE] at HC <;> clear hE
  all_goals
    go_enter Tryz.func62, Tryz.ntmps62
    go_wp2_with fail
    refine HC.out.mono ?_
    rintro e w' ⟨rfl, rfl⟩
    go_wp2_with fail
    go_ret
    exact ⟨rfl, HB.out⟩
end Go.Proofs.YtfpofcfoeajkiaaGreat
/- parity.Matrix, siloref36.Matrix: walks. -/
namespace Go.Proofs.YtfpofcfoeajkiaaGreat
open Go.RowKit
set_option linter.unusedVariables false
set_option linter.unusedSimpArgs false
/-- block g begins with n texts f -/
structure SRow (w : World) (g n : Nat) (f : Nat → ByteArray) : Prop where
  lt : g < w.heap.size
  cell : ∀ j, j < n → w.cell? ⟨g, j, none⟩ = some (.string (f j))
  free : ∀ j, j < n → w.frozen? ⟨g, j, none⟩ = false
theorem SRow.same {w w' : World} {g n : Nat} {f : Nat → ByteArray} (h : SRow w g n f) (hs : w.heap.size ≤ w'.heap.size) (hb : w'.heap[g]? = w.heap[g]?) : SRow w' g n f :=
  ⟨Nat.lt_of_lt_of_le h.lt hs, fun j hj => (World.cell?_of_block (a := ⟨g, j, none⟩) hb).trans (h.cell j hj), fun j hj => (World.frozen?_of_block (a := ⟨g, j, none⟩) hb).trans (h.free j hj)⟩
theorem SRow.below {w w' : World} {g n B : Nat} {f : Nat → ByteArray} (h : SRow w g n f) (hb : Below B w w') (hB : g < B) : SRow w' g n f := h.same hb.size (hb.block g hB)
theorem SRow.congr {w : World} {g n : Nat} {f f' : Nat → ByteArray} (h : SRow w g n f) (he : ∀ j, j < n → f j = f' j) : SRow w g n f' :=
  ⟨h.lt, fun j hj => by rw [← he j hj]; exact h.cell j hj, h.free⟩
def updS (f : Nat → ByteArray) (j : Nat) (v : ByteArray) (i : Nat) : ByteArray := if i = j then v else f i
theorem SRow.set {w : World} {g n : Nat} {f : Nat → ByteArray} (h : SRow w g n f) (j : Nat) (v : ByteArray) (hj : j < n) : SRow (w.setCell ⟨g, j, none⟩ (.string v)) g n (updS f j v) :=
  ⟨by rw [World.size_setCell]; exact h.lt, fun i hi => by
    by_cases e : i = j
    · subst e; rw [World.cell?_setCell_same _ _ _ (h.cell i hi)]; unfold updS; rw [if_pos rfl]
    · rw [World.cell?_setCell_other _ _ _ _ (by intro e'; injection e' with _ e'; exact e e'.symm)]
      unfold updS; rw [if_neg e]; exact h.cell i hi, fun i hi => by rw [World.frozen?_setCell]; exact h.free i hi⟩
theorem SRow.made {w : World} {B g n cap : Nat} (h : w.ownsRow B 9 1 (.slice (some ⟨g, 0, none⟩) n cap) n (madeCells (Value.string ByteArray.empty).cells (n * 1)).toList) : SRow w g n (fun _ => .empty) := by
  rcases h.2 with ⟨h1, _⟩ | ⟨g', cap', cur, hv, hb, hg, hn, hm, hc, ht⟩
  · cases h1
  · cases hv
    refine ⟨(Array.getElem?_eq_some_iff.1 hg).1, fun j hj => ?_, fun j hj => frozen_of_row w g j cur _ hg⟩
    have := h.cells (g := g) rfl j (.string .empty) (by
      have : (Value.string ByteArray.empty).cells = #[.string ByteArray.empty] := rfl
      rw [this]
      simp [madeCells, hj, Nat.mod_one])
    rw [Addr.add_mid, Nat.zero_add] at this
    exact this
theorem SRow.strs {w : World} {g n : Nat} {f : Nat → ByteArray} (h : SRow w g n f) (hn : n ≤ maxLen) : StrsN w (.slice (some ⟨g, 0, none⟩) n n) ((List.range n).map f) := by
  refine ⟨⟨_, n, by simp, by simp, hn, fun hl => ⟨g, 0, rfl, h.lt, fun j hj => ?_⟩⟩, fun a b e => by cases e⟩
  have hj' : j < n := by simpa using hj
  rw [Nat.zero_add, h.cell j hj']
  simp [hj']
theorem wpList_make_strs {w : World} {ops : Array Oper} {rest : List Oper} {o : Oper} {a : Act} {Q : Exit → Act → World → Prop} (hg : o.guard = none) (l c : Operand) (t : TypeId) (hop : o.op = Op.makeSlice t l c)
    (h1 : Tryz.prog.underlying t = some (.slice 9)) (n : Nat) (hl : a.eval l = .int .i64 (n : Int)) (hc : a.eval c = .int .i64 (n : Int)) (hn : n ≤ 1000000000)
    (h : ∀ w', SRow w' w.heap.size n (fun _ => .empty) → Below w.heap.size w w' → wpList Tryz.prog ops Q rest (a.put o.dst (.slice (some ⟨w.heap.size, 0, none⟩) n n)) w') : wpList Tryz.prog ops Q (o :: rest) a w := by
  obtain ⟨i0, hi0, hz0, hz1, hz2⟩ := info_parts strInfo
  refine wpList_make_full w hg l c t hop w.heap.size 9 i0 (.string ByteArray.empty) 1 h1 hi0 hz0 hz1 .i64 .i64 _ _ n hl hc rfl rfl (by rw [hz2]; omega) (by unfold maxLen; omega) (Nat.le_refl _) ?_
  intro w' hown hgr
  exact h w' (SRow.made hown) ((Below.refl _ _).grown hgr (Nat.le_refl _) (fun k e => by cases e))
/-- the rows by which shards are made -/
def cau (k i j : Nat) : UInt8 := ui (UInt8.ofNat (k + i) ^^^ UInt8.ofNat j)
def parM (k p : Nat) : List ByteArray := (List.range p).map fun i => bytesF k (cau k i)
def matL (k p : Int) : List ByteArray := if (fewN k && fewN p) = true then parM k.toNat p.toNat else []
theorem gDiv1 (b : Nat) (hb : b < 256) : gDiv 1 b = gInv b := by
  unfold gDiv
  by_cases h : b = 0
  · rw [if_pos h, h]; unfold gInv; rw [gPow_zero (by decide)]
  · rw [if_neg h, one_gMul (gInv_lt hb)]
theorem cau_nat (k i j : Nat) (h1 : k + i < 256) (h2 : j < 256) : ((cau k i j).toNat : Int) = ((gDiv 1 ((k + i) ^^^ j) : Nat) : Int) := by
  have hx : (k + i) ^^^ j < 256 := xlt h1 h2
  rw [gDiv1 _ hx]
  unfold cau
  rw [ui_nat, UInt8.toNat_xor, UInt8.toNat_ofNat', UInt8.toNat_ofNat', Nat.mod_eq_of_lt h1, Nat.mod_eq_of_lt h2]
theorem cauD_any (k i j : Nat) (h1 : k + i < 256) (h2 : j < 256) (w : World) : Calls Tryz.prog 91 #[.int .u8 1, .int .u8 (bits .xor .u8 ((k : Int) + (i : Int)) (j : Int))] w fun e w' => ∃ q, e = .returned (.tuple #[.int .u8 (cau k i j).toNat, .bool q]) ∧ w = w' := by
  have hx := x8n (k + i) j h1 h2
  rw [Int.natCast_add] at hx
  rw [hx, cau_nat k i j h1 h2]
  exact (div_any 1 _ (by decide) (xlt h1 h2) w).mono fun e w' ⟨a, b⟩ => ⟨_, a, b⟩
theorem fewN_pos {n : Int} (h : fewN n = true) : 0 < n ∧ n ≤ 16 := by unfold fewN at h; simpa using h
set_option maxRecDepth 20000 in
set_option maxHeartbeats 4000000 in
theorem matrix_ok (k p : Nat) (w : World) (hk0 : 0 < k) (hk : k ≤ 16) (hp0 : 0 < p) (hp : p ≤ 16) :
    Calls Tryz.prog 64 #[.int .i64 k, .int .i64 p] w fun e w' => ∃ v, e = .returned v ∧ StrsN w' v (parM k p) ∧ Below w.heap.size w w' := by
  have HK : Hid (∀ w, Calls Tryz.prog 60 #[.int .i64 k] w fun e w' => e = .returned (.bool true) ∧ w = w') := fun w => by
    have h := pfewP_any k w; rwa [show fewN k = true by unfold fewN; simp; omega] at h
  have HP : Hid (∀ w, Calls Tryz.prog 60 #[.int .i64 p] w fun e w' => e = .returned (.bool true) ∧ w = w') := fun w => by
    have h := pfewP_any p w; rwa [show fewN p = true by unfold fewN; simp; omega] at h
  go_enter Tryz.func64, Tryz.ntmps64
  go_wp2_with fail
  refine (HK.out _).mono ?_
  rintro e w' ⟨rfl, rfl⟩
  go_wp2_with fail
  refine (HP.out _).mono ?_
  rintro e w' ⟨rfl, rfl⟩
  go_wp2_with (at_make; refine wpList_make_strs rfl _ _ 37 rfl Tryz.underlying37 p rfl rfl (by omega) ?_)
  intro w1 hS hB
  have HS := Lib.hid hS; clear hS
  have HB := Lib.hid hB; clear hB
  clear HK HP
  go_wp2_with fail
  go_loopw [23] (fun q wr => ∃ i : Nat, i ≤ p ∧ q = .int .i64 i ∧ Hid (SRow wr w.heap.size p (fun q => if q < i then bytesF k (cau k q) else .empty)) ∧ Hid (Below w.heap.size w wr)) (fun q _ => p - (intOf q).toNat)
  case atStart => exact ⟨0, Nat.zero_le _, rfl, HS.out.congr fun j hj => by rw [if_neg (by omega)], HB.out⟩
  case round =>
    obtain ⟨i, hi, rfl, HR, HBr⟩ := hrel
    clear HS HB
    obtain ⟨wo, hwo⟩ : ∃ wo, wo = wr := ⟨_, rfl⟩
    subst hwo
    by_cases hlt : i < p
    · have hlt' : (i : Int) < (p : Int) := by omega
      have H0 := Lib.hid (isBld_fresh wo)
      have HB0 := Lib.hid ((Below.refl wo.heap.size wo).alloc (Nat.le_refl _) (.cells #[.pointer none, .slice none 0 0] 93))
      go_wp2_with fail
      go_loopw [27] (fun q wr => ∃ j : Nat, j ≤ k ∧ q = .int .i64 j ∧ Hid (isBld wr wo.heap.size ((List.range j).map (cau k i))) ∧ Hid (Below wo.heap.size wo wr)) (fun q _ => k - (intOf q).toNat)
      case atStart => exact ⟨0, Nat.zero_le _, rfl, H0.out, HB0.out⟩
      case round =>
        obtain ⟨j, hj, rfl, HI, HBj⟩ := hrel
        by_cases hjl : j < k
        · have hjl' : (j : Int) < (k : Int) := by omega
          have HD := Lib.hid (cauD_any k i j (by omega) (by omega))
          have hn : ((List.range j).map (cau k i)).length + 1 ≤ 140737488355328 := by simp; omega
          have HN : Hid ((List.range j).map (cau k i) ++ [cau k i j] = (List.range (j + 1)).map (cau k i)) := by unfold Hid; rw [List.range_succ, List.map_append]; rfl
          have hs := HBj.out.size
          generalize cau k i j = c at *
          generalize (List.range j).map (cau k i) = L at *
          go_wp2_with fail
          refine (HD.out _).mono ?_
          rintro e w' ⟨q, rfl, rfl⟩
          go_wp2_with fail
          refine (bldByte_ok _ _ _ _ HI.out hn hs).mono ?_
          rintro e w2 ⟨rfl, hI2, hB2⟩
          have HI2 : Hid (isBld w2 wo.heap.size ((List.range (j + 1)).map (cau k i))) := by unfold Hid; rw [← HN.out]; exact hI2
          have HB2 : Hid (Below wo.heap.size wo w2) := HBj.out.trans hB2
          clear hI2 hB2 HD HI HBj HN hn hs
          go_wp2_with fail
          go_roundw
          case rel => exact ⟨j + 1, by omega, by go_num, HI2, HB2⟩
          case measure => simp [intOf]; omega
        · obtain rfl : j = k := by omega
          have hne : (List.range j).map (cau j i) ≠ [] := by
            intro e; have := congrArg List.length e; simp at this; omega
          have HE : Hid ((⟨((List.range j).map (cau j i)).toArray⟩ : ByteArray) = bytesF j (cau j i)) := rfl
          have HT := Lib.hid (bldString_ok _ _ _ HI.out hne)
          rw [HE.out] at HT
          have hsl := HR.out.lt
          have HNx : Hid (∀ q, q < p → updS (fun q => if q < i then bytesF j (cau j q) else .empty) i (bytesF j (cau j i)) q = if q < i + 1 then bytesF j (cau j q) else .empty) := fun q hq => by
            unfold updS
            by_cases e : q = i
            · rw [if_pos e, if_pos (by omega), e]
            · rw [if_neg e]; dsimp only
              by_cases e2 : q < i
              · rw [if_pos e2, if_pos (by omega)]
              · rw [if_neg e2, if_neg (by omega)]
          generalize bytesF j (cau j i) = z at *
          clear HI HE hne
          go_wp2_with fail
          refine HT.out.mono ?_
          rintro e w3 ⟨rfl, hB3⟩
          have hB4 : Below wo.heap.size wo w3 := HBj.out.trans hB3
          have hR3 := HR.out.below hB4 hsl
          have e5 : w3.cell? ⟨w.heap.size, i, none⟩ = some (.string .empty) := by
            have := hR3.cell i hlt; rwa [if_neg (by omega)] at this
          have f5 : w3.frozen? ⟨w.heap.size, i, none⟩ = false := hR3.free i hlt
          have HR4 : Hid (SRow (w3.setCell ⟨w.heap.size, i, none⟩ (.string z)) w.heap.size p (fun q => if q < i + 1 then bytesF j (cau j q) else .empty)) := (hR3.set i z hlt).congr HNx.out
          have HB5 : Hid (Below w.heap.size w (w3.setCell ⟨w.heap.size, i, none⟩ (.string z))) := (HBr.out.trans (hB4.mono HBr.out.size)).setCell (Nat.le_refl _) _
          clear hB3 hB4 hR3 HT HNx
          go_wp2_with fail
          go_roundw
          case rel => exact ⟨i + 1, by omega, by go_num, HR4, HB5⟩
          case measure => simp [intOf]; omega
    · obtain rfl : i = p := by omega
      have hst := (HR.out.congr (f' := fun q => bytesF k (cau k q)) fun q hq => by rw [if_pos hq]).strs (by unfold maxLen; omega)
      have HST := Lib.hid hst; clear hst
      go_wp2_with fail
      go_ret
      exact ⟨_, rfl, HST.out, HBr.out⟩
set_option maxRecDepth 20000 in
set_option maxHeartbeats 1000000 in
theorem matrix_no (k p : Int) (w : World) (h : (fewN k && fewN p) = false) :
    Calls Tryz.prog 64 #[.int .i64 k, .int .i64 p] w fun e w' => e = .returned (.slice none 0 0) ∧ w = w' := by
  have HK := Lib.hid (fun w => pfewP_any k w)
  have HP := Lib.hid (fun w => pfewP_any p w)
  cases hk : fewN k with
  | false =>
    rw [hk] at HK
    clear hk h
    go_enter Tryz.func64, Tryz.ntmps64
    go_wp2_with fail
    refine (HK.out _).mono ?_
    rintro e w' ⟨rfl, rfl⟩
    go_wp2_with fail
    go_ret
    exact ⟨rfl, rfl⟩
  | true =>
    rw [hk, Bool.true_and] at h
    rw [hk] at HK
    rw [h] at HP
    clear hk h
    go_enter Tryz.func64, Tryz.ntmps64
    go_wp2_with fail
    refine (HK.out _).mono ?_
    rintro e w' ⟨rfl, rfl⟩
    go_wp2_with fail
    refine (HP.out _).mono ?_
    rintro e w' ⟨rfl, rfl⟩
    go_wp2_with fail
    go_ret
    exact ⟨rfl, rfl⟩
theorem matrix_any (k p : Int) (w : World) :
    Calls Tryz.prog 64 #[.int .i64 k, .int .i64 p] w fun e w' => ∃ v, e = .returned v ∧ StrsN w' v (matL k p) ∧ Below w.heap.size w w' := by
  unfold matL
  cases h : fewN k && fewN p with
  | false =>
    refine (matrix_no k p w h).mono ?_
    rintro e w' ⟨rfl, rfl⟩
    exact ⟨_, rfl, by rw [if_neg (by simp)]; exact strsN_nil w, Below.refl _ _⟩
  | true =>
    rw [Bool.and_eq_true] at h
    obtain ⟨a, b⟩ := fewN_pos h.1
    obtain ⟨c, d⟩ := fewN_pos h.2
    rw [if_pos rfl]
    have := matrix_ok k.toNat p.toNat w (by omega) (by omega) (by omega) (by omega)
    rwa [Int.toNat_of_nonneg (by omega), Int.toNat_of_nonneg (by omega)] at this
end Go.Proofs.YtfpofcfoeajkiaaGreat
/- Make and Same of both packages: walks. -/
namespace Go.Proofs.YtfpofcfoeajkiaaGreat
open Go.RowKit
set_option linter.unusedVariables false
set_option linter.unusedSimpArgs false
/-- which error Make tells -/
def makeE (l : List ByteArray) (p : Int) : Int := if (fewN l.length && fewN p) = true then (if evenL l = true then 0 else 2) else 4
def makeL (l : List ByteArray) (p : Int) : List ByteArray := if makeE l p = 0 then timesL (matL l.length p) l else []
theorem makeE_0 {l : List ByteArray} {p : Int} (h1 : (fewN l.length && fewN p) = true) (h2 : evenL l = true) : makeE l p = 0 := by unfold makeE; rw [if_pos h1, if_pos h2]
theorem makeE_2 {l : List ByteArray} {p : Int} (h1 : (fewN l.length && fewN p) = true) (h2 : evenL l = false) : makeE l p = 2 := by unfold makeE; rw [if_pos h1, if_neg (by rw [h2]; simp)]
theorem makeE_4 {l : List ByteArray} {p : Int} (h1 : (fewN l.length && fewN p) = false) : makeE l p = 4 := by unfold makeE; rw [if_neg (by rw [h1]; simp)]
theorem makeL_0 {l : List ByteArray} {p : Int} (h : makeE l p = 0) : makeL l p = timesL (matL l.length p) l := by unfold makeL; rw [if_pos h]
theorem makeL_n {l : List ByteArray} {p : Int} (h : makeE l p ≠ 0) : makeL l p = [] := by unfold makeL; rw [if_neg h]
set_option maxRecDepth 20000 in
set_option maxHeartbeats 2000000 in
theorem make_any (w : World) (va : Value) (l : List ByteArray) (p : Int) (ha : StrsB w va l) (hsz : firstN l ≤ 1000000000) :
    Calls Tryz.prog 34 #[va, .int .i64 p] w fun e w' => ∃ v, e = .returned (.tuple #[v, .int .i64 (makeE l p)]) ∧ StrsN w' v (makeL l p) ∧ Below w.heap.size w w' := by
  have HK := Lib.hid (fun w => pfewP_any l.length w)
  have HP := Lib.hid (fun w => pfewP_any p w)
  have HE := Lib.hid (peven_any w va l ha)
  have HA := Lib.hid ha
  have HSZ := Lib.hid hsz
  obtain ⟨A, c, rfl, h1, h2⟩ := ha.len
  clear ha hsz h1 h2
  cases hk : fewN l.length with
  | false =>
    rw [hk] at HK
    have h4 : makeE l p = 4 := makeE_4 (by rw [hk]; rfl)
    have HL := Lib.hid (makeL_n (l := l) (p := p) (by rw [h4]; decide))
    rw [h4]
    clear hk h4 HE
    go_enter Tryz.func34, Tryz.ntmps34
    go_wp2_with fail
    refine (HK.out _).mono ?_
    rintro e w' ⟨rfl, rfl⟩
    go_wp2_with fail
    go_ret2
    exact ⟨_, rfl, by rw [HL.out]; exact strsN_nil _, Below.refl _ _⟩
  | true =>
    rw [hk] at HK
    cases hp : fewN p with
    | false =>
      rw [hp] at HP
      have h4 : makeE l p = 4 := makeE_4 (by rw [hk, hp]; rfl)
      have HL := Lib.hid (makeL_n (l := l) (p := p) (by rw [h4]; decide))
      rw [h4]
      clear hk hp h4 HE
      go_enter Tryz.func34, Tryz.ntmps34
      go_wp2_with fail
      refine (HK.out _).mono ?_
      rintro e w' ⟨rfl, rfl⟩
      go_wp2_with fail
      refine (HP.out _).mono ?_
      rintro e w' ⟨rfl, rfl⟩
      go_wp2_with fail
      go_ret2
      exact ⟨_, rfl, by rw [HL.out]; exact strsN_nil _, Below.refl _ _⟩
    | true =>
      rw [hp] at HP
      have hkp : (fewN l.length && fewN p) = true := by rw [hk, hp]; rfl
      cases he : evenL l with
      | false =>
        rw [he] at HE
        have h4 : makeE l p = 2 := makeE_2 hkp he
        have HL := Lib.hid (makeL_n (l := l) (p := p) (by rw [h4]; decide))
        rw [h4]
        clear hk hp h4 he hkp
        go_enter Tryz.func34, Tryz.ntmps34
        go_wp2_with fail
        refine (HK.out _).mono ?_
        rintro e w' ⟨rfl, rfl⟩
        go_wp2_with fail
        refine (HP.out _).mono ?_
        rintro e w' ⟨rfl, rfl⟩
        go_wp2_with fail
        refine HE.out.mono ?_
        rintro e w1 ⟨rfl, b1⟩
        have HW := Lib.hid b1
        clear b1
        go_wp2_with fail
        go_ret2
        exact ⟨_, rfl, by rw [HL.out]; exact strsN_nil _, HW.out⟩
      | true =>
        rw [he] at HE
        have h4 : makeE l p = 0 := makeE_0 hkp he
        have HL := Lib.hid (makeL_0 h4)
        rw [h4]
        have HM := Lib.hid (fun w => matrix_any l.length p w)
        clear hk hp h4 he hkp
        go_enter Tryz.func34, Tryz.ntmps34
        go_wp2_with fail
        refine (HK.out _).mono ?_
        rintro e w' ⟨rfl, rfl⟩
        go_wp2_with fail
        refine (HP.out _).mono ?_
        rintro e w' ⟨rfl, rfl⟩
        go_wp2_with fail
        refine HE.out.mono ?_
        rintro e w1 ⟨rfl, b1⟩
        have HW := Lib.hid b1
        clear b1
        go_wp2_with fail
        refine (HM.out _).mono ?_
        rintro e w2 ⟨v2, rfl, s2, b2⟩
        replace HW := Lib.hid (HW.out.trans (b2.mono HW.out.size))
        have H2 := Lib.hid s2.1
        clear s2 b2 HM
        go_wp2_with fail
        refine (mtimes_any _ v2 _ (matL l.length p) l H2.out (HA.out.below HW.out (Nat.le_refl _)) HSZ.out).mono ?_
        rintro e w3 ⟨v3, rfl, s3, b3⟩
        replace HW := Lib.hid (HW.out.trans (b3.mono HW.out.size))
        have H3 := Lib.hid s3
        clear s3 b3
        go_wp2_with fail
        go_ret2
        exact ⟨_, rfl, by rw [HL.out]; exact H3.out, HW.out⟩
end Go.Proofs.YtfpofcfoeajkiaaGreat
/- Join of both packages: walks. -/
namespace Go.Proofs.YtfpofcfoeajkiaaGreat
open Go.RowKit
set_option linter.unusedVariables false
set_option linter.unusedSimpArgs false
def catL (l : List ByteArray) : List UInt8 := (l.map (·.data.toList)).flatten
def catB (l : List ByteArray) : ByteArray := ⟨(catL l).toArray⟩
theorem catB_size (l : List ByteArray) : (catB l).size = (catL l).length := by simp [catB, ByteArray.size]
theorem catB_snoc (l : List ByteArray) (x : ByteArray) : catB (l ++ [x]) = catB l ++ x := by
  apply ByteArray.ext
  apply Array.toList_inj.1
  rw [toList_append]
  simp [catB, catL]
theorem join_nil : ∀ xs : List (List UInt8), Lib.join xs [] = xs.flatten
  | [] => rfl
  | [x] => by simp [Lib.join]
  | x :: y :: r => by
    have h := join_nil (y :: r)
    simp [Lib.join] at h ⊢
    exact h
def joinOk (l : List ByteArray) (n : Int) : Bool := decide (0 ≤ n ∧ n ≤ (catB l).size)
def joinB (l : List ByteArray) (n : Int) : ByteArray := if joinOk l n = true then (catB l).extract 0 n.toNat else .empty
def joinE (l : List ByteArray) (n : Int) : Int := if joinOk l n = true then 0 else 4
set_option maxRecDepth 20000 in
set_option maxHeartbeats 2000000 in
theorem pjoin_any (w : World) (va : Value) (l : List ByteArray) (n : Int) (ha : StrsB w va l) (hsz : (catL l).length ≤ 1000000000) (hn : l.length ≤ 1000000) :
    Calls Tryz.prog 39 #[va, .int .i64 n] w fun e w' => e = .returned (.tuple #[.string (joinB l n), .int .i64 (joinE l n)]) ∧ Below w.heap.size w w' := by
  have HJ : Hid (Calls Tryz.prog 28 #[va, .string ⟨#[]⟩] w fun e w' => e = .returned (.string (catB l)) ∧ Below w.heap.size w w') := by
    unfold Hid
    by_cases h0 : l.length = 0
    · obtain rfl := List.length_eq_zero_iff.1 h0
      obtain ⟨A, c, rfl, h1⟩ := ha.nil
      exact (Tryz.strings_Join_none A c ⟨#[]⟩ w).mono fun e w' ⟨a, b⟩ => ⟨a, b ▸ Below.refl _ _⟩
    · obtain ⟨A, c, rfl, h1, h2⟩ := ha.len
      obtain ⟨b, o, rfl, hb, hc⟩ := ha.cells (by omega)
      have hj : Lib.join (l.map (·.data.toList)) (⟨#[]⟩ : ByteArray).data.toList = catL l := join_nil _
      have := Tryz.strings_Join b o c l ⟨#[]⟩ w (fun j x hx => by
        have hjl : j < l.length := (List.getElem?_eq_some_iff.1 hx).1
        rw [hc j hjl]; rw [List.getElem?_eq_getElem hjl] at hx; injection hx with hx; rw [hx]) hb (by omega) h1 (by rw [hj]; omega)
      rw [hj] at this
      exact this
  have HO : Hid (joinOk l n = decide (0 ≤ n ∧ n ≤ (catB l).size)) := rfl
  have HB : Hid (joinOk l n = true → joinB l n = (catB l).extract 0 n.toNat ∧ joinE l n = 0) := fun h => by unfold joinB joinE; rw [if_pos h, if_pos h]; exact ⟨rfl, rfl⟩
  have HN : Hid (joinOk l n = false → joinB l n = .empty ∧ joinE l n = 4) := fun h => by unfold joinB joinE; rw [if_neg (by rw [h]; simp), if_neg (by rw [h]; simp)]; exact ⟨rfl, rfl⟩
  have hz : (catB l).size ≤ 1000000000 := by rw [catB_size]; exact hsz
  obtain ⟨A, c, rfl, h1, h2⟩ := ha.len
  clear ha hsz hn h1 h2
  generalize joinB l n = jb at *
  generalize joinE l n = je at *
  generalize joinOk l n = jo at *
  generalize catB l = s at *
  by_cases h0 : 0 ≤ n
  · have d0 : decide (n < 0) = false := by simp; omega
    by_cases h1 : n ≤ s.size
    · have d1 : decide ((s.size : Int) < n) = false := by simp; omega
      have HX := Lib.hid (HB.out (by rw [HO.out]; simp; omega))
      obtain ⟨m, rfl⟩ := Int.eq_ofNat_of_zero_le h0
      clear HB HN HO
      go_enter Tryz.func39, Tryz.ntmps39
      go_wp2_with fail
      refine HJ.out.mono ?_
      rintro e w1 ⟨rfl, b1⟩
      go_wp2_with fail
      go_ret2
      exact ⟨by rw [HX.out.1, HX.out.2]; rfl, b1⟩
    · have d1 : decide ((s.size : Int) < n) = true := by simp; omega
      have HX := Lib.hid (HN.out (by rw [HO.out, decide_eq_false_iff_not]; omega))
      clear HB HN HO
      go_enter Tryz.func39, Tryz.ntmps39
      go_wp2_with fail
      refine HJ.out.mono ?_
      rintro e w1 ⟨rfl, b1⟩
      go_wp2_with fail
      go_ret2
      exact ⟨by rw [HX.out.1, HX.out.2]; rfl, b1⟩
  · have d0 : decide (n < 0) = true := by simp; omega
    have HX := Lib.hid (HN.out (by rw [HO.out, decide_eq_false_iff_not]; omega))
    clear HB HN HO
    go_enter Tryz.func39, Tryz.ntmps39
    go_wp2_with fail
    refine HJ.out.mono ?_
    rintro e w1 ⟨rfl, b1⟩
    go_wp2_with fail
    go_ret2
    exact ⟨by rw [HX.out.1, HX.out.2]; rfl, b1⟩
theorem catL_take (l : List ByteArray) (j : Nat) : (catL (l.take j)).length ≤ (catL l).length := by
  unfold catL
  conv => rhs; rw [← List.take_append_drop j l, List.map_append, List.flatten_append, List.length_append]
  omega
end Go.Proofs.YtfpofcfoeajkiaaGreat
