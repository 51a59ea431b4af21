/- Walks: chapter 38: the counts of bytes, of the document and of the program (printed by gen-lsm-read.py). -/
import Derived.Test.YteidlngffikboaaFrameScan
import Derived.Deep.QuietTactic
import Derived.BigQuiet
import Derived.Test.YteidlngffikboaaLsmRd
import Derived.Test.YteidlngffikboaaLsmPut
import Derived.Below
import Derived.OneCell
import Derived.Test.YteidlngffikboaaLsmBytesQ
namespace Go.Proofs.Yteidlngffikboaa
open Go.RowKit
set_option linter.unusedVariables false
theorem owns_lowB {w w' : World} {B t k n : Nat} {v : Value} {l : List Value} (h : w.ownsRow B t k v n l) (hb : Below w.heap.size w w') : w'.ownsRow B t k v n l := by
  refine h.kept (only_of_below hb none) ?_
  rcases h.2 with ⟨rfl, _⟩ | ⟨g, cap, cur, rfl, _⟩
  · exact .inl rfl
  · exact .inr (by simp [Value.ownBlock])
set_option maxRecDepth 20000 in
set_option maxHeartbeats 2000000 in
theorem refScan_any (s : ByteArray) (hs : s.size ≤ 1000000000) (w : World) :
    Calls Try.prog 32 #[.string s] w fun e W' => ∃ v, e = .returned (.tuple #[v, .int .i64 (fEnd (fPairs s.data.toList) : Nat)]) ∧ W'.ownsRow w.heap.size 9 1 v (fPairs s.data.toList).length ((fTexts (fPairs s.data.toList)).map .string) ∧ Below w.heap.size w W' := by
  obtain ⟨i0, hi, hz0, hz1, hz2⟩ := info_parts strInfo
  go_enter Try.func32, Try.ntmps32
  go_wp2
  go_loopw [4, 5] (fun v i wr => ∃ (k m : Nat) (ds : List (ByteArray × Nat)), (k ≤ s.size ∧ s.size ≤ k + m ∧ ds.length ≤ k) ∧ i = .int .i64 k ∧ Hid (fPairs s.data.toList = ds ++ fRest m k s.data.toList) ∧ Hid (fEnd ds = k) ∧ wr.ownsRow w.heap.size 9 1 v ds.length ((fTexts ds).map .string) ∧ Hid (Below w.heap.size w wr)) (fun _ i _ => s.size - (intOf i).toNat)
  case atStart => exact ⟨0, s.size, [], ⟨Nat.zero_le _, by omega, Nat.le_refl _⟩, rfl, by unfold Hid fPairs; simp, rfl, World.ownsRow_nil _ _ _ _, Below.refl _ _⟩
  case round =>
    obtain ⟨k, m, ds, ⟨hk, hm, hd⟩, rfl, HV, HE0, hown, HW⟩ := hrel
    have hlen : s.data.toList.length = s.size := by simp
    by_cases hks : k < s.size
    · obtain ⟨m, rfl⟩ : ∃ q, m = q + 1 := ⟨m - 1, by omega⟩
      have ho := fun w => refOpen_any (s.extract k s.size) (by simp; omega) w
      rw [extract_to] at ho
      obtain ⟨hle, hle2⟩ := fOpen_le (s.data.toList.drop k)
      have HR : Hid (fRest (m + 1) k s.data.toList = if (fOpen (s.data.toList.drop k)).2.2 ≠ 0 then [] else (⟨(fOpen (s.data.toList.drop k)).1.toArray⟩, k + (fOpen (s.data.toList.drop k)).2.1) :: fRest m (k + (fOpen (s.data.toList.drop k)).2.1) s.data.toList) := by
        unfold Hid; rw [fRest, if_neg (by omega)]
      rw [List.length_drop, hlen] at hle
      generalize fOpen (s.data.toList.drop k) = r at *
      obtain ⟨t, n', e'⟩ := r
      dsimp only at *
      have HO := Lib.hid ho; clear ho hlen
      by_cases he : e' = 0
      · subst he
        obtain ⟨hn1, hn2⟩ := hle rfl
        have HE : Hid (fPairs s.data.toList = (ds ++ [((⟨t.toArray⟩ : ByteArray), k + n')]) ++ fRest m (k + n') s.data.toList) := by
          unfold Hid; rw [HV.out, HR.out]; simp
        have HE1 : Hid (fEnd (ds ++ [((⟨t.toArray⟩ : ByteArray), k + n')]) = k + n') := fEnd_snoc _ _
        have HT : Hid ((fTexts (ds ++ [((⟨t.toArray⟩ : ByteArray), k + n')])).map Value.string = (fTexts ds).map Value.string ++ [Value.string ⟨t.toArray⟩]) := by simp [Hid, fTexts]
        clear hle hle2 HR
        go_wp2_with fail
        refine (HO.out _).mono ?_
        rintro e W1 ⟨rfl, b1⟩
        have hown1 := owns_lowB hown b1
        have HW1 := Lib.hid (HW.out.trans (b1.mono HW.out.size))
        have hsz := HW1.out.size
        clear hown b1
        go_wp2_with (at_builtin; refine wpList_append_own _ rfl _ _ 54 rfl w.heap.size 9 i0 (.string ByteArray.empty) 1 16 Try.underlying54 hi hz0 hz1 hz2 rfl (by decide) _ _ _ rfl (hown1.alloc _) ⟨W1.heap.size, 0, none⟩ 1 1 [.string ⟨t.toArray⟩] rfl rfl ?c1 ?c2 ?c3 ?c4 ?c5 ?_)
        case c1 =>
          intro j u hj
          match j, hj with
          | 0, hj => simp at hj; subst hj; simp [Addr.add]
        case c2 => intro u hu; simp at hu; subst hu; rfl
        case c3 => unfold maxLen; omega
        case c4 => omega
        case c5 => simp; omega
        intro v' w2 hown2 hgrow2 _
        have HW2 : Hid (Below w.heap.size w w2) := (HW1.out.alloc hsz _).grown hgrow2 (by simp; omega) (fun k hk => (hown1.lt k hk).1)
        clear hown1 hgrow2
        go_wp2
        go_roundw
        case rel => exact ⟨k + n', m, _, ⟨by omega, by omega, by simp; omega⟩, by go_num, HE, HE1, by rw [HT.out]; simpa using hown2, HW2⟩
        case measure => simp [intOf]; omega
      · have HE : Hid (fPairs s.data.toList = ds) := by unfold Hid; rw [HV.out, HR.out, if_pos he]; simp
        have he' : ((e' : Int) != 0) = true := by simp; omega
        obtain ⟨rfl, rfl⟩ := hle2 he
        clear hle HR
        go_wp2_with fail
        refine (HO.out _).mono ?_
        rintro e W1 ⟨rfl, b1⟩
        have hown1 := owns_lowB hown b1
        have HW1 := Lib.hid (HW.out.trans (b1.mono HW.out.size))
        clear hown b1
        go_wp2
        go_ret2
        exact ⟨_, by rw [HE.out, HE0.out]; rfl, by rw [HE.out]; exact hown1, HW1.out⟩
    · have HE : Hid (fPairs s.data.toList = ds) := by
        unfold Hid; rw [HV.out]
        cases m with
        | zero => simp [fRest]
        | succ m => rw [fRest, if_pos (by omega)]; simp
      go_wp2
      go_ret2
      exact ⟨_, by rw [HE.out, HE0.out]; rfl, by rw [HE.out]; exact hown, HW.out⟩
end Go.Proofs.Yteidlngffikboaa

/- Here ends the text FrameRScan; here begins LsmRead. -/
namespace Go.Proofs.Yteidlngffikboaa
open Go.RowKit
set_option linter.unusedVariables false
set_option linter.unusedSimpArgs false
abbrev OwnC (W : World) (u : Value) (r : List Cnt) : Prop := W.ownsRow 0 51 2 u r.length (cnC r)
theorem own_tag {W : World} {u : Value} {r : List Cnt} (h : OwnC W u r) {k : Nat} {t : TypeId} {cur : Array Value} {fz : Nat × Nat} (hk : W.heap[k]? = some (.cells cur t fz)) (ht : t ≠ 51) : u.ownBlock ≠ some k := by
  intro e
  rcases h.2 with ⟨hv, _⟩ | ⟨g, cap, c2, hv, _, hg, _⟩
  · rw [hv] at e; cases e
  · rw [hv] at e
    have : g = k := by injection e
    subst this
    rw [hk] at hg
    injection hg with hg
    injection hg with _ ht2 _
    exact ht ht2
def RowsO (W : World) : List Value → List (List Cnt) → Prop
  | [], [] => True
  | u :: us, r :: rs => OwnC W u r ∧ RowsO W us rs
  | _, _ => False
theorem RowsO.keep {W W' : World} (h : ∀ u r, OwnC W u r → OwnC W' u r) : ∀ {us : List Value} {l : List (List Cnt)}, RowsO W us l → RowsO W' us l
  | [], [], _ => trivial
  | u :: us, r :: rs, k => ⟨h u r k.1, RowsO.keep h k.2⟩
  | [], _ :: _, k => k.elim
  | _ :: _, [], k => k.elim
theorem RowsO.rows {W : World} : ∀ {us : List Value} {l : List (List Cnt)}, RowsO W us l → RowsV W us l
  | [], [], _ => trivial
  | u :: us, r :: rs, k => ⟨CntN.of_owns k.1, RowsO.rows k.2⟩
  | [], _ :: _, k => k.elim
  | _ :: _, [], k => k.elim
theorem RowsO.snoc {W : World} {u : Value} {r : List Cnt} (hu : OwnC W u r) : ∀ {us : List Value} {l : List (List Cnt)}, RowsO W us l → RowsO W (us ++ [u]) (l ++ [r])
  | [], [], _ => ⟨hu, trivial⟩
  | v :: us, q :: rs, k => ⟨k.1, RowsO.snoc hu k.2⟩
  | [], _ :: _, k => k.elim
  | _ :: _, [], k => k.elim
structure RdB (w : World) (D B : Nat) (vm vr : Value) (us : List Value) (acc : List (List Cnt)) (W : World) : Prop where
  res : NilBox D W
  blk : W.heap[B]? = some (.cells #[vm, vr] 25)
  mem : OwnC W vm (acc.headD [])
  own : W.ownsRow (B + 1) 22 1 vr us.length us
  rows : RowsO W us acc.tail
  low : Below w.heap.size w W
  le : w.heap.size ≤ D
  lt : D < B
section
variable {w W W' : World} {D B : Nat} {vm vr : Value} {us : List Value} {acc : List (List Cnt)}
theorem RdB.c0 (h : RdB w D B vm vr us acc W) : W.cell? ⟨B, 0, none⟩ = some vm := by unfold World.cell?; rw [h.blk]; rfl
theorem RdB.c1 (h : RdB w D B vm vr us acc W) : W.cell? ⟨B, 1, none⟩ = some vr := by unfold World.cell?; rw [h.blk]; rfl
theorem RdB.f (h : RdB w D B vm vr us acc W) (o : Nat) : W.frozen? ⟨B, o, none⟩ = false := by simp [World.frozen?, h.blk]
theorem RdB.hlt (h : RdB w D B vm vr us acc W) : B < W.heap.size := (Array.getElem?_eq_some_iff.1 h.blk).1
theorem RdB.shapes (h : RdB w D B vm vr us acc W) : ∃ A n c A' n' c', vm = .slice A n c ∧ vr = .slice A' n' c' := by
  obtain ⟨A, c, e, _⟩ := (CntN.of_owns h.mem).1.shape
  rcases h.own.2 with ⟨hv, _⟩ | ⟨g, cap, c2, hv, _⟩
  · exact ⟨_, _, _, _, _, _, e, hv⟩
  · exact ⟨_, _, _, _, _, _, e, hv⟩
theorem RdB.below (h : RdB w D B vm vr us acc W) (hb : Below W.heap.size W W') : RdB w D B vm vr us acc W' :=
  ⟨(hb.block _ (Nat.lt_trans h.lt h.hlt)).trans h.res, (hb.block _ h.hlt).trans h.blk, owns_low h.mem hb, owns_low h.own hb, h.rows.keep fun u r k => owns_low k hb, h.low.trans (hb.mono h.low.size), h.le, h.lt⟩
theorem lsm_ne : (25 : TypeId) ≠ 51 := by decide
theorem cnt_ne : (22 : TypeId) ≠ 51 := by decide
theorem RdB.put0 (h : RdB w D B vm vr us [] W) {v : Value} {r : List Cnt} (hv : OwnC W v r) : RdB w D B v vr us [r] (W.setCell ⟨B, 0, none⟩ v) := by
  have hb : (W.setCell ⟨B, 0, none⟩ v).heap[B]? = some (.cells #[v, vr] 25) := by
    obtain ⟨hlt, hk⟩ := Array.getElem?_eq_some_iff.1 h.blk
    show (W.heap.modify B _)[B]? = _
    rw [Array.getElem?_eq_getElem (by rw [Array.size_modify]; exact hlt), Array.getElem_modify_self, hk]
    rfl
  have hk : ∀ u q, OwnC W u q → OwnC (W.setCell ⟨B, 0, none⟩ v) u q := fun u q k => ownsRow_setCell_other k (a := ⟨B, 0, none⟩) (own_tag k h.blk lsm_ne) v
  have hD := h.lt
  exact ⟨(Below.heap_setCell _ _ _ _ (by dsimp only; omega)).trans h.res, hb, hk _ _ hv, ownsRow_setCell_below h.own (a := ⟨B, 0, none⟩) (Nat.lt_succ_self B) v, h.rows.keep hk, h.low.setCell (p := ⟨B, 0, none⟩) (by have := h.le; dsimp only; omega) v, h.le, h.lt⟩
theorem RdB.put1 (h : RdB w D B vm vr us acc W) (hne : acc ≠ []) {u v' : Value} {r : List Cnt} (hu : OwnC W u r) {o : Obj}
    (ho : W'.ownsRow (B + 1) 22 1 v' (us ++ [u]).length (us ++ [u])) (hg : (W.alloc o).grownBy W' vr.ownBlock) : RdB w D B vm v' (us ++ [u]) (acc ++ [r]) (W'.setCell ⟨B, 1, none⟩ v') := by
  have hD := h.lt
  have hBW := h.hlt
  have hown : ∀ k, vr.ownBlock = some k → B + 1 ≤ k := fun k hk => (h.own.lt k hk).1
  have hkeep : ∀ k, k < W.heap.size → some k ≠ vr.ownBlock → W'.heap[k]? = W.heap[k]? := fun k hk hn => (hg.block k (by simp; omega) hn).trans (Below.heap_alloc _ _ _ hk)
  have hkB : W'.heap[B]? = some (.cells #[vm, vr] 25) := (hkeep B hBW (fun e => by have := hown B e.symm; omega)).trans h.blk
  have hkD : W'.heap[D]? = W.heap[D]? := hkeep D (by omega) (fun e => by have := hown D e.symm; omega)
  have hb : (W'.setCell ⟨B, 1, none⟩ v').heap[B]? = some (.cells #[vm, v'] 25) := by
    obtain ⟨hlt, hk⟩ := Array.getElem?_eq_some_iff.1 hkB
    show (W'.heap.modify B _)[B]? = _
    rw [Array.getElem?_eq_getElem (by rw [Array.size_modify]; exact hlt), Array.getElem_modify_self, hk]
    rfl
  have hk1 : ∀ u q, OwnC W u q → OwnC W' u q := fun u q k => by
    refine (k.alloc o).kept hg ?_
    rcases h.own.2 with ⟨hv, _⟩ | ⟨g, cap, c2, hv, _, hgb, _⟩
    · rw [hv]
      rcases k.2 with ⟨hu, _⟩ | ⟨g', cap', c2', hu, _⟩
      · exact .inl (by rw [hu]; rfl)
      · exact .inr (by rw [hu]; simp [Value.ownBlock])
    · have := own_tag k hgb cnt_ne
      rw [hv]
      exact .inr (fun e => this e)
  have hk : ∀ u q, OwnC W u q → OwnC (W'.setCell ⟨B, 1, none⟩ v') u q := fun u q k => ownsRow_setCell_other (hk1 u q k) (a := ⟨B, 1, none⟩) (own_tag (hk1 u q k) hkB lsm_ne) v'
  obtain ⟨q, qs, rfl⟩ : ∃ q qs, acc = q :: qs := by
    cases acc with
    | nil => exact absurd rfl hne
    | cons q qs => exact ⟨q, qs, rfl⟩
  have hlow : Below w.heap.size w W' := (h.low.alloc h.low.size o).grown hg (by have := h.low.size; simp; omega) (fun k hk => by have := hown k hk; have := h.le; omega)
  refine ⟨(Below.heap_setCell _ _ _ _ (by dsimp only; omega)).trans (hkD.trans h.res), hb, hk _ _ h.mem, ownsRow_setCell_below ho (a := ⟨B, 1, none⟩) (Nat.lt_succ_self B) v', ?_, hlow.setCell (p := ⟨B, 1, none⟩) (by have := h.le; dsimp only; omega) v', h.le, h.lt⟩
  exact (h.rows.keep hk).snoc (hk _ _ hu)
theorem RdB.lsm (h : RdB w D B vm vr us acc W) : LsmN W (LsmV vm vr) (acc.headD [], acc.tail) :=
  ⟨vm, vr, rfl, CntN.of_owns h.mem, RunsN.of_vals (RowV.of_owns h.own h.rows.rows.one) h.rows.rows⟩
theorem RdB.fresh (h : RdB w D B vm vr us acc W) : FreshV (D + 1) vr := (FreshV.of_owns h.own).mono (by have := h.lt; omega)
/-- told: the box of what is told takes what is read -/
theorem told {V : World} {D : Nat} {v : Value} {s : CntS} {vm vr : Value} (hn : NilBox D V) (hl : LsmN V (LsmV vm vr) s) (hf : FreshV (D + 1) vr) : LsmN ((V.setCell ⟨D, 0, none⟩ vm).setCell ⟨D, 1, none⟩ vr) (LsmV vm vr) s := by
  obtain ⟨a, b, e, h1, h2⟩ := hl
  have hc : ∀ o x, V.cell? ⟨D, o, none⟩ = some x → ∃ A n c, x = .slice A n c := fun o x hx => ⟨none, 0, 0, hn.cells o x hx⟩
  unfold LsmV at e
  injection e with e
  injection e with e
  injection e with e1 e2
  injection e2 with e2 e3
  subst e1 e2
  exact ⟨vm, vr, rfl, h1.off hc (fun k hk => set2_keep _ _ _ _ k hk) (by rw [set2_size]; exact Nat.le_refl _), h2.offB hf hc (fun k hk => set2_keep _ _ _ _ k hk) (by rw [set2_size]; exact Nat.le_refl _)⟩
theorem RdB.grown (h : RdB w D B vm vr us acc W) {o : Obj} (hg : (W.alloc o).grownBy W' vr.ownBlock) : W'.cell? ⟨B, 1, none⟩ = some vr ∧ (∀ o, W'.frozen? ⟨B, o, none⟩ = false) ∧ B < W'.heap.size := by
  have hBW := h.hlt
  have hkB : W'.heap[B]? = some (.cells #[vm, vr] 25) := ((hg.block B (by simp; omega) (fun e => by have := (h.own.lt B e.symm).1; omega)).trans (Below.heap_alloc _ _ _ hBW)).trans h.blk
  exact ⟨by unfold World.cell?; rw [hkB]; rfl, fun o => by simp [World.frozen?, hkB], (Array.getElem?_eq_some_iff.1 hkB).1⟩
theorem told_nil {V : World} (h : Below w.heap.size w V) (hD : w.heap.size ≤ D) : LsmN ((V.setCell ⟨D, 0, none⟩ (.slice none 0 0)).setCell ⟨D, 1, none⟩ (.slice none 0 0)) (LsmV (.slice none 0 0) (.slice none 0 0)) ([], []) ∧ Below w.heap.size w ((V.setCell ⟨D, 0, none⟩ (.slice none 0 0)).setCell ⟨D, 1, none⟩ (.slice none 0 0)) :=
  ⟨⟨_, _, rfl, CntN.nil _, RunsN.of_vals (us := []) ⟨none, 0, rfl, Nat.le_refl _, Nat.zero_le _, fun _ => rfl, by simp, fun h => absurd h (Nat.lt_irrefl _)⟩ trivial⟩, (h.setCell (p := ⟨D, 0, none⟩) hD _).setCell (p := ⟨D, 1, none⟩) hD _⟩
theorem told_below {V : World} (h : Below w.heap.size w V) (hD : w.heap.size ≤ D) (x y : Value) : Below w.heap.size w ((V.setCell ⟨D, 0, none⟩ x).setCell ⟨D, 1, none⟩ y) :=
  (h.setCell (p := ⟨D, 0, none⟩) hD _).setCell (p := ⟨D, 1, none⟩) hD _
theorem rdB_new {V : World} (hn : NilBox D V) (hl : Below w.heap.size w V) (hD : w.heap.size ≤ D) (hlt : D < V.heap.size) : RdB w D V.heap.size (.slice none 0 0) (.slice none 0 0) [] [] (V.alloc (.cells #[.slice none 0 0, .slice none 0 0] 25)) :=
  ⟨(Below.heap_alloc _ _ _ hlt).trans hn, World.alloc_heap_new V _, ⟨rfl, .inl ⟨rfl, rfl⟩⟩, ⟨rfl, .inl ⟨rfl, rfl⟩⟩, trivial, hl.alloc hl.size _, hD, hlt⟩
theorem rowV_one {W : World} {u : Value} {r : List Cnt} (h : OwnC W u r) : RowV (W.alloc (.cells #[u] 22)) (.slice (some ⟨W.heap.size, 0, none⟩) 1 1) [u] :=
  RowV.of_owns (owns_one u) (by simpa using (CntN.of_owns h).one)
end
end Go.Proofs.Yteidlngffikboaa

/- Here ends the text LsmRdB; here begins LsmRead. -/
namespace Go.Proofs.Yteidlngffikboaa
open Go.RowKit
set_option linter.unusedVariables false
set_option linter.unusedSimpArgs false
theorem texts_len (s : List UInt8) : (fPairs s).length = (fTexts (fPairs s)).length := by simp [fTexts]
theorem rowsOf_none {acc : List (List Cnt)} {ts : List ByteArray} {j : Nat} (h : j < ts.length) (hr : rowOf ts[j].data.toList = none) : rowsOf acc (ts.drop j) = none := by
  rw [List.drop_eq_getElem_cons h, rowsOf, hr]
theorem rowsOf_some {acc : List (List Cnt)} {ts : List ByteArray} {j : Nat} (h : j < ts.length) {r : List Cnt} (hr : rowOf ts[j].data.toList = some r) : rowsOf acc (ts.drop j) = rowsOf (acc ++ [r]) (ts.drop (j + 1)) := by
  rw [List.drop_eq_getElem_cons h, rowsOf, hr]
theorem nil_texts (s : List UInt8) : fPairs s = [] ↔ (fTexts (fPairs s)).length = 0 := by unfold fTexts; rw [List.length_map, List.length_eq_zero_iff]
theorem formL_bad {s : List UInt8} (h : fEnd (fPairs s) < s.length ∨ (fTexts (fPairs s)).length = 0) : formL s = none := by
  unfold formL
  rw [if_pos (by rcases h with h | h; exact .inl h; exact .inr ((nil_texts s).2 h))]
theorem formL_none {s : List UInt8} (h : rowsOf [] (fTexts (fPairs s)) = none) : formL s = none := by
  unfold formL
  split
  · rfl
  · rw [h]
theorem formL_some {s : List UInt8} (h0 : ¬ (fEnd (fPairs s) < s.length ∨ (fTexts (fPairs s)).length = 0)) {m : List Cnt} {rs : List (List Cnt)} (h : rowsOf [] (fTexts (fPairs s)) = some (m :: rs)) : formL s = some (m, rs) := by
  unfold formL
  rw [if_neg (by rintro (k | k); exact h0 (.inl k); exact h0 (.inr ((nil_texts s).1 k))), h]
theorem readL_none {s : List UInt8} (h : formL s = none) : readL s = none := by unfold readL; rw [h]
theorem readL_form {s : List UInt8} {x : CntS} (h : formL s = some x) : readL s = if fitB x = true ∧ writeL x = s then some x else none := by unfold readL; rw [h]
theorem end_le (s : List UInt8) : fEnd (fPairs s) ≤ s.length := by rw [fPairs_end]; exact fSum_le _ _
set_option maxRecDepth 20000 in
set_option maxHeartbeats 4000000 in
theorem rread_any (w : World) (s : ByteArray) (hs : s.size ≤ 1000000) (hb : ∀ x, formL s.data.toList = some x → sizeS x ≤ 1500 ∧ x.2.length ≤ 1000) :
    Calls Try.prog 9 #[.string s] w fun e w' => ∃ vm vr, e = .returned (.tuple #[LsmV vm vr, .int .i64 (if (readL s.data.toList).isSome = true then 0 else 2)]) ∧ LsmN w' (LsmV vm vr) ((readL s.data.toList).getD ([], [])) ∧ FreshV w.heap.size vr ∧ Below w.heap.size w w' := by
  obtain ⟨wE, hwE⟩ : ∃ wE, wE = w.alloc (.cells #[.slice none 0 0, .slice none 0 0] 25) := ⟨_, rfl⟩
  have HWE := Lib.hid hwE.symm
  have HBE : Hid (Below w.heap.size w wE) := by rw [hwE]; exact (Below.refl _ _).alloc (Nat.le_refl _) _
  have HNE : Hid (NilBox w.heap.size wE) := by rw [hwE]; exact World.alloc_heap_new w _
  have hlE : w.heap.size < wE.heap.size := by rw [hwE]; simp
  have HSC := Lib.hid (refScan_any s (by omega) wE)
  have hsl : s.data.toList.length = s.size := by simp
  obtain ⟨h5, h6⟩ := sum_mem5 (texts_sum s.data.toList)
  rw [hsl] at h5 h6
  have HFB : Hid (fEnd (fPairs s.data.toList) < s.size ∨ (fTexts (fPairs s.data.toList)).length = 0 → readL s.data.toList = none) := fun h => readL_none (formL_bad (by rw [hsl]; exact h))
  have HFN : Hid (rowsOf [] (fTexts (fPairs s.data.toList)) = none → readL s.data.toList = none) := fun h => readL_none (formL_none h)
  have HFS : Hid (¬ (fEnd (fPairs s.data.toList) < s.size ∨ (fTexts (fPairs s.data.toList)).length = 0) → ∀ m rs, rowsOf [] (fTexts (fPairs s.data.toList)) = some (m :: rs) → (readL s.data.toList = if fitB (m, rs) = true ∧ writeL (m, rs) = s.data.toList then some (m, rs) else none) ∧ sizeS (m, rs) ≤ 1500 ∧ rs.length ≤ 1000) := fun h m rs hr => by
    have := formL_some (by rw [hsl]; exact h) hr
    exact ⟨readL_form this, hb _ this⟩
  have hend : fEnd (fPairs s.data.toList) ≤ 1000000 := by
    have := end_le s.data.toList
    omega
  rw [texts_len] at HSC
  generalize hts : fTexts (fPairs s.data.toList) = ts at *
  generalize fEnd (fPairs s.data.toList) = en at *
  generalize hRR : readL s.data.toList = RR at *
  obtain ⟨EE, hEE⟩ : ∃ EE, EE = (if RR.isSome = true then (0 : Int) else 2) := ⟨_, rfl⟩
  have HE := Lib.hid hEE
  rw [← hEE]
  clear hEE
  clear hts hRR hb hsl
  have h5n : ts.length ≤ 200000 := by omega
  have HTS := Lib.hid h6
  have hss : s.size ≤ 1000000 := hs
  clear h5 h6 hwE
  obtain ⟨n, hn⟩ : ∃ n, n = ts.length := ⟨_, rfl⟩
  have HN0 := Lib.hid hn
  go_enter Try.func9, Try.ntmps9
  go_wp2_with fail
  rw [HWE.out]
  go_wp2_with fail
  refine HSC.out.mono ?_
  rintro e w1 ⟨v1, rfl, hO1, hB1⟩
  have HSS := Lib.hid (StrsN.of_owns hO1).1
  have HB1 : Hid (Below w.heap.size w w1) := HBE.out.trans (hB1.mono HBE.out.size)
  have HN1 : Hid (NilBox w.heap.size w1) := (hB1.block _ hlE).trans HNE.out
  have hl1 : w.heap.size < w1.heap.size := Nat.lt_of_lt_of_le hlE hB1.size
  obtain ⟨A, c, rfl, hc1, hc2, hcc⟩ := HSS.out
  rw [← HN0.out] at hc1
  have hc9 : c ≤ 9223372036854775807 := by unfold maxLen at hc2; omega
  have HCC := Lib.hid hcc
  rw [← hn] at h5n
  clear HSC hO1 hB1 HSS HNE HBE HWE hlE hc2 hcc
  have z0 := HN1.out.c0
  have z1 := HN1.out.c1
  have zf0 := HN1.out.f 0
  have zf1 := HN1.out.f 1
  rw [← hn]
  clear hn
  by_cases hbad : en < s.size ∨ n = 0
  · have HN : Hid (RR = none) := by
      exact HFB.out (by rw [← HN0.out]; exact hbad)
    by_cases he : en < s.size
    · have he' : (en : Int) < (s.size : Int) := by omega
      clear hbad
      go_wp2_with fail
      refine bodyPost_cellE (V := .agg #[.slice none 0 0, .slice none 0 0]) rfl rfl ?_ rfl ?_
      · go_simp
      · rw [HE.out, HN.out]
        obtain ⟨t1, t2⟩ := told_nil (D := w.heap.size) HB1.out (Nat.le_refl _)
        exact ⟨_, _, rfl, t1, freshV_nil _ _ _, t2⟩

    · have he' : ¬ ((en : Int) < (s.size : Int)) := by omega
      obtain rfl : n = 0 := by rcases hbad with h | h; exact absurd h he; exact h
      clear hbad
      go_wp2_with fail
      refine bodyPost_cellE (V := .agg #[.slice none 0 0, .slice none 0 0]) rfl rfl ?_ rfl ?_
      · go_simp
      · rw [HE.out, HN.out]
        obtain ⟨t1, t2⟩ := told_nil (D := w.heap.size) HB1.out (Nat.le_refl _)
        exact ⟨_, _, rfl, t1, freshV_nil _ _ _, t2⟩

  · have he' : ¬ ((en : Int) < (s.size : Int)) := by omega
    have hdn : decide (en < s.size) = false := by rw [decide_eq_false_iff_not]; omega
    have hdi : decide ((en : Int) < (s.size : Int)) = false := by rw [decide_eq_false_iff_not]; omega
    have hn0 : ((n : Int) == 0) = false := by rw [beq_eq_false_iff_ne]; omega
    have hn1 : (n == 0) = false := by rw [beq_eq_false_iff_ne]; omega
    have HFO := Lib.hid (HFS.out (by rw [← HN0.out]; exact hbad))
    have hnp : 1 ≤ n := by omega
    have HD0 := Lib.hid (rdB_new HN1.out HB1.out (Nat.le_refl _) hl1)
    clear HFB HFS hbad HN1
    have HBB : Hid (Below w1.heap.size w1 (w1.alloc (.cells #[.slice none 0 0, .slice none 0 0] 25))) := (Below.refl _ _).alloc (Nat.le_refl _) _
    go_wp2_with fail
    generalize hwB : w1.alloc (.cells #[.slice none 0 0, .slice none 0 0] 25) = wB at *
    clear hwB z0 z1 zf0 zf1
    go_loopw [7] (fun a wr => ∃ (j : Nat) (vm vr : Value) (us : List Value) (acc : List (List Cnt)), j ≤ n ∧ a = .int .i64 j ∧ acc.length = j ∧ Hid (RdB w w.heap.size w1.heap.size vm vr us acc wr) ∧ Hid (Below w1.heap.size w1 wr) ∧ Hid (rowsOf [] ts = rowsOf acc (ts.drop j))) (fun a _ => n - (intOf a).toNat)
    case atStart => exact ⟨0, _, _, _, _, Nat.zero_le _, rfl, rfl, HD0, HBB, rfl⟩
    case round =>
      obtain ⟨j, vm, vr, us, acc, hj, rfl, hac, HD, HBW, HRO⟩ := hrel
      obtain ⟨A7, n7, c7, A8, n8, c8, rfl, rfl⟩ := HD.out.shapes
      have hus : us.length ≤ 200000 := by
        have := HD.out.rows.rows.len
        rw [this, List.length_tail]
        omega
      by_cases hlt : j < n
      · have hlt' : (j : Int) < (n : Int) := by omega
        have hjl : j < ts.length := by rw [← HN0.out]; exact hlt
        obtain ⟨b, off, rfl, hblt, hc⟩ := HCC.out (by rw [← HN0.out]; omega)
        have e1 : wr.cell? ⟨b, off + j, none⟩ = some (.string ts[j]) := (HBW.out.cell (p := ⟨b, off + j, none⟩) hblt).trans (by rw [hc j hjl, List.getElem?_eq_getElem hjl]; rfl)
        have HRW := Lib.hid (rcounts_any wr ts[j] (by have := HTS.out _ (List.getElem_mem hjl); omega))
        have HR1 : Hid (rowOf ts[j].data.toList = none → rowsOf [] ts = none) := fun h => HRO.out.trans (rowsOf_none hjl h)
        have HR2 : Hid (∀ r, rowOf ts[j].data.toList = some r → rowsOf [] ts = rowsOf (acc ++ [r]) (ts.drop (j + 1))) := fun r h => HRO.out.trans (rowsOf_some hjl h)
        clear hc HRO
        generalize rowOf ts[j].data.toList = RO at *
        generalize ts[j] = t at *
        cases RO with
        | none =>
          have HN : Hid (RR = none) := HFN.out (HR1.out rfl)
          rw [Option.isSome_none] at HRW
          clear HR1 HR2 HFO
          go_wp2_with fail
          refine HRW.out.mono ?_
          rintro e w3 ⟨v3, rfl, hO3, b3⟩
          have HD3 := Lib.hid (HD.out.below b3)
          clear hO3 b3 HRW HD e1
          have z0 := HD3.out.res.c0
          have z1 := HD3.out.res.c1
          have zf0 := HD3.out.res.f 0
          have zf1 := HD3.out.res.f 1
          go_wp2_with fail
          refine bodyPost_cellE (V := .agg #[.slice none 0 0, .slice none 0 0]) rfl rfl ?_ rfl ?_
          · go_simp
          · rw [HE.out, HN.out]
            obtain ⟨t1, t2⟩ := told_nil (D := w.heap.size) HD3.out.low (Nat.le_refl _)
            exact ⟨_, _, rfl, t1, freshV_nil _ _ _, t2⟩

        | some r =>
          have HR3 := Lib.hid (HR2.out r rfl)
          rw [Option.isSome_some] at HRW
          clear HR1 HR2
          by_cases hj0 : j = 0
          · subst hj0
            obtain rfl : acc = [] := List.length_eq_zero_iff.1 hac
            rw [Nat.add_zero] at e1
            go_wp2_with fail
            refine HRW.out.mono ?_
            rintro e w3 ⟨v3, rfl, hO3, b3⟩
            have HO3 : Hid (OwnC w3 v3 r) := owns_mono (hO3 r rfl) (Nat.zero_le _)
            have HD3 := Lib.hid (HD.out.below b3)
            have HB3 : Hid (Below w1.heap.size w1 w3) := HBW.out.trans (b3.mono HBW.out.size)
            obtain ⟨A3, c3, rfl, z3⟩ := (CntN.of_owns HO3.out).1.shape
            have y0 := HD3.out.c0
            have yf0 := HD3.out.f 0
            have HP := Lib.hid (HD3.out.put0 HO3.out)
            have HBP := Lib.hid (HB3.out.setCell (p := ⟨w1.heap.size, 0, none⟩) (Nat.le_refl _) (.slice A3 r.length c3))
            clear z3 hO3 b3 HRW HD e1 HD3 HB3 HO3
            go_wp2_with fail
            go_roundw
            case rel => exact ⟨1, _, _, _, _, hnp, by go_num, rfl, HP, HBP, HR3⟩
            case measure => simp [intOf]; omega
          · have hjz : ((j : Int) == 0) = false := by rw [beq_eq_false_iff_ne]; omega
            have hjz2 : (j == 0) = false := by rw [beq_eq_false_iff_ne]; omega
            have hne : acc ≠ [] := fun e => hj0 (by rw [← hac, e]; rfl)
            go_wp2_with fail
            refine HRW.out.mono ?_
            rintro e w3 ⟨v3, rfl, hO3, b3⟩
            have HO3 : Hid (OwnC w3 v3 r) := owns_mono (hO3 r rfl) (Nat.zero_le _)
            have HD3 := Lib.hid (HD.out.below b3)
            have HB3 : Hid (Below w1.heap.size w1 w3) := HBW.out.trans (b3.mono HBW.out.size)
            obtain ⟨A3, c3, rfl, z3⟩ := (CntN.of_owns HO3.out).1.shape
            have y1 := HD3.out.c1
            have yf1 := HD3.out.f 1
            have HNEA := Lib.hid hne
            clear z3 hO3 b3 HRW HD e1 hne
            go_wp2_with (at_builtin; refine wpList_append_rows rfl _ _ 23 rfl Try.underlying23 (w1.heap.size + 1) _ us rfl (HD3.out.own.alloc _) _ [.slice A3 r.length c3] rfl (rowV_one HO3.out) (by simp; omega) (by have := HD3.out.hlt; simp; omega) ?_)
            intro v5 w5 ho5 hg5
            obtain ⟨g1, g2, g3⟩ := HD3.out.grown hg5
            have gf1 := g2 1
            have HP := Lib.hid (HD3.out.put1 HNEA.out HO3.out (by simpa using ho5) hg5)
            have HBP := Lib.hid (((HB3.out.alloc HB3.out.size _).grown hg5 (by have := HB3.out.size; simp; omega) (fun k hk => by have := (HD3.out.own.lt k hk).1; omega)).setCell (p := ⟨w1.heap.size, 1, none⟩) (Nat.le_refl _) v5)
            obtain ⟨_, _, _, A5, n5, c5, _, rfl⟩ := HP.out.shapes
            clear g2 g3 ho5 hg5 y1 yf1 HD3 HB3 HO3 HNEA
            go_wp2_with fail
            go_roundw
            case rel => exact ⟨j + 1, _, _, _, _, by omega, by go_num, by simp [hac], HP, HBP, HR3⟩
            case measure => simp [intOf]; omega
      · obtain rfl : j = n := by omega
        have HRA : Hid (rowsOf [] ts = some acc) := by
          unfold Hid
          rw [HRO.out, List.drop_eq_nil_of_le (by rw [← HN0.out]; exact Nat.le_refl _)]; rfl
        obtain ⟨m, rs, rfl⟩ : ∃ m rs, acc = m :: rs := by
          cases acc with
          | nil => simp at hac; omega
          | cons m rs => exact ⟨m, rs, rfl⟩
        obtain ⟨hrr, hsz, hrl⟩ := HFO.out m rs HRA.out
        have HLS : Hid (LsmN wr (LsmV (.slice A7 n7 c7) (.slice A8 n8 c8)) (m, rs)) := HD.out.lsm
        have HFT := Lib.hid (rfit2_any wr _ (m, rs) HLS.out (by omega) hrl)
        have HWT : Hid (∀ w4, Below wr.heap.size wr w4 → Calls Try.prog 12 #[LsmV (.slice A7 n7 c7) (.slice A8 n8 c8)] w4 fun e w' => e = .returned (.string (Bs (writeL (m, rs)))) ∧ Below w4.heap.size w4 w') := fun w4 h4 => rwrite_any w4 _ (m, rs) (HLS.out.below h4 (Nat.le_refl _)) hsz hrl
        have HFR := HD.out.fresh
        have x0 := HD.out.c0
        have x1 := HD.out.c1
        have HRR := Lib.hid hrr
        have HFV := Lib.hid HFR
        unfold LsmV at HFT HWT
        clear hrr HRO HRA HFO hsz hrl HFR HFN HCC HTS hus hac
        cases hf : fitB (m, rs) with
        | false =>
          have HN : Hid (RR = none) := by unfold Hid; rw [HRR.out, if_neg (by rw [hf]; simp)]
          rw [hf] at HFT
          clear HRR hf
          go_wp2_with fail
          refine HFT.out.mono ?_
          rintro e w4 ⟨rfl, b4⟩
          have HD4 := Lib.hid (HD.out.below b4)
          clear b4 HD x0 x1 HFT HWT
          have z0 := HD4.out.res.c0
          have z1 := HD4.out.res.c1
          have zf0 := HD4.out.res.f 0
          have zf1 := HD4.out.res.f 1
          go_wp2_with fail
          refine bodyPost_cellE (V := .agg #[.slice none 0 0, .slice none 0 0]) rfl rfl ?_ rfl ?_
          · go_simp
          · rw [HE.out, HN.out]
            obtain ⟨t1, t2⟩ := told_nil (D := w.heap.size) HD4.out.low (Nat.le_refl _)
            exact ⟨_, _, rfl, t1, freshV_nil _ _ _, t2⟩

        | true =>
          rw [hf] at HFT
          by_cases hw : Bs (writeL (m, rs)) = s
          · have HN : Hid (RR = some (m, rs)) := by unfold Hid; rw [HRR.out, if_pos ⟨hf, by rw [← hw]⟩]
            rw [hw] at HWT
            clear HRR hf hw
            go_wp2_with fail
            refine HFT.out.mono ?_
            rintro e w4 ⟨rfl, b4⟩
            have HD4 := Lib.hid (HD.out.below b4)
            have HW4 := Lib.hid (HWT.out w4 b4)
            clear b4 x0 x1 HFT HWT
            have x0 := HD4.out.c0
            have x1 := HD4.out.c1
            go_wp2_with fail
            refine HW4.out.mono ?_
            rintro e w5 ⟨rfl, b5⟩
            have HD5 := Lib.hid (HD4.out.below b5)
            clear b5 x0 x1 HW4 HD4
            have x0 := HD5.out.c0
            have x1 := HD5.out.c1
            have z0 := HD5.out.res.c0
            have z1 := HD5.out.res.c1
            have zf0 := HD5.out.res.f 0
            have zf1 := HD5.out.res.f 1
            go_wp2_with fail
            refine bodyPost_cellE (V := .agg #[.slice A7 n7 c7, .slice A8 n8 c8]) rfl rfl ?_ rfl ?_
            · go_simp
            · rw [HE.out, HN.out]
              exact ⟨_, _, rfl, told (v := .bool true) HD5.out.res HD5.out.lsm HFV.out, HFV.out.mono (Nat.le_succ _), told_below HD5.out.low (Nat.le_refl _) _ _⟩
          · have HN : Hid (RR = none) := by unfold Hid; rw [HRR.out, if_neg (by rintro ⟨_, h⟩; exact hw (by rw [h]))]
            have hwe := str_eq_f hw
            generalize Bs (writeL (m, rs)) = Q at *
            clear HRR hf hw
            go_wp2_with fail
            refine HFT.out.mono ?_
            rintro e w4 ⟨rfl, b4⟩
            have HD4 := Lib.hid (HD.out.below b4)
            have HW4 := Lib.hid (HWT.out w4 b4)
            clear b4 x0 x1 HFT HWT
            have x0 := HD4.out.c0
            have x1 := HD4.out.c1
            go_wp2_with fail
            refine HW4.out.mono ?_
            rintro e w5 ⟨rfl, b5⟩
            have HD5 := Lib.hid (HD4.out.below b5)
            clear b5 x0 x1 HW4 HD4
            have z0 := HD5.out.res.c0
            have z1 := HD5.out.res.c1
            have zf0 := HD5.out.res.f 0
            have zf1 := HD5.out.res.f 1
            go_wp2_with fail
            refine bodyPost_cellE (V := .agg #[.slice none 0 0, .slice none 0 0]) rfl rfl ?_ rfl ?_
            · go_simp
            · rw [HE.out, HN.out]
              obtain ⟨t1, t2⟩ := told_nil (D := w.heap.size) HD5.out.low (Nat.le_refl _)
              exact ⟨_, _, rfl, t1, freshV_nil _ _ _, t2⟩

set_option maxRecDepth 20000 in
set_option maxHeartbeats 4000000 in
theorem pread_any (w : World) (s : ByteArray) (hs : s.size ≤ 1000000) (hb : ∀ x, formL s.data.toList = some x → sizeS x ≤ 1500 ∧ x.2.length ≤ 1000) :
    Calls Try.prog 8 #[.string s] w fun e w' => ∃ vm vr, e = .returned (.tuple #[LsmV vm vr, .int .i64 (if (readL s.data.toList).isSome = true then 0 else 2)]) ∧ LsmN w' (LsmV vm vr) ((readL s.data.toList).getD ([], [])) ∧ FreshV w.heap.size vr ∧ Below w.heap.size w w' := by
  obtain ⟨wE, hwE⟩ : ∃ wE, wE = w.alloc (.cells #[.slice none 0 0, .slice none 0 0] 25) := ⟨_, rfl⟩
  have HWE := Lib.hid hwE.symm
  have HBE : Hid (Below w.heap.size w wE) := by rw [hwE]; exact (Below.refl _ _).alloc (Nat.le_refl _) _
  have HNE : Hid (NilBox w.heap.size wE) := by rw [hwE]; exact World.alloc_heap_new w _
  have hlE : w.heap.size < wE.heap.size := by rw [hwE]; simp
  have HSC := Lib.hid (scan_any s (by omega) wE)
  have hsl : s.data.toList.length = s.size := by simp
  obtain ⟨h5, h6⟩ := sum_mem5 (texts_sum s.data.toList)
  rw [hsl] at h5 h6
  have HFB : Hid (fEnd (fPairs s.data.toList) < s.size ∨ (fTexts (fPairs s.data.toList)).length = 0 → readL s.data.toList = none) := fun h => readL_none (formL_bad (by rw [hsl]; exact h))
  have HFN : Hid (rowsOf [] (fTexts (fPairs s.data.toList)) = none → readL s.data.toList = none) := fun h => readL_none (formL_none h)
  have HFS : Hid (¬ (fEnd (fPairs s.data.toList) < s.size ∨ (fTexts (fPairs s.data.toList)).length = 0) → ∀ m rs, rowsOf [] (fTexts (fPairs s.data.toList)) = some (m :: rs) → (readL s.data.toList = if fitB (m, rs) = true ∧ writeL (m, rs) = s.data.toList then some (m, rs) else none) ∧ sizeS (m, rs) ≤ 1500 ∧ rs.length ≤ 1000) := fun h m rs hr => by
    have := formL_some (by rw [hsl]; exact h) hr
    exact ⟨readL_form this, hb _ this⟩
  have hend : fEnd (fPairs s.data.toList) ≤ 1000000 := by
    have := end_le s.data.toList
    omega
  rw [texts_len] at HSC
  generalize hts : fTexts (fPairs s.data.toList) = ts at *
  generalize fEnd (fPairs s.data.toList) = en at *
  generalize hRR : readL s.data.toList = RR at *
  obtain ⟨EE, hEE⟩ : ∃ EE, EE = (if RR.isSome = true then (0 : Int) else 2) := ⟨_, rfl⟩
  have HE := Lib.hid hEE
  rw [← hEE]
  clear hEE
  clear hts hRR hb hsl
  have h5n : ts.length ≤ 200000 := by omega
  have HTS := Lib.hid h6
  have hss : s.size ≤ 1000000 := hs
  clear h5 h6 hwE
  obtain ⟨n, hn⟩ : ∃ n, n = ts.length := ⟨_, rfl⟩
  have HN0 := Lib.hid hn
  go_enter Try.func8, Try.ntmps8
  go_wp2_with fail
  rw [HWE.out]
  go_wp2_with fail
  refine HSC.out.mono ?_
  rintro e w1 ⟨v1, rfl, hO1, hB1⟩
  have HSS := Lib.hid (StrsN.of_owns hO1).1
  have HB1 : Hid (Below w.heap.size w w1) := HBE.out.trans (hB1.mono HBE.out.size)
  have HN1 : Hid (NilBox w.heap.size w1) := (hB1.block _ hlE).trans HNE.out
  have hl1 : w.heap.size < w1.heap.size := Nat.lt_of_lt_of_le hlE hB1.size
  obtain ⟨A, c, rfl, hc1, hc2, hcc⟩ := HSS.out
  rw [← HN0.out] at hc1
  have hc9 : c ≤ 9223372036854775807 := by unfold maxLen at hc2; omega
  have HCC := Lib.hid hcc
  rw [← hn] at h5n
  clear HSC hO1 hB1 HSS HNE HBE HWE hlE hc2 hcc
  have z0 := HN1.out.c0
  have z1 := HN1.out.c1
  have zf0 := HN1.out.f 0
  have zf1 := HN1.out.f 1
  rw [← hn]
  clear hn
  by_cases hbad : en < s.size ∨ n = 0
  · have HN : Hid (RR = none) := by
      exact HFB.out (by rw [← HN0.out]; exact hbad)
    by_cases he : en < s.size
    · have he' : (en : Int) < (s.size : Int) := by omega
      clear hbad
      go_wp2_with fail
      refine bodyPost_cellE (V := .agg #[.slice none 0 0, .slice none 0 0]) rfl rfl ?_ rfl ?_
      · go_simp
      · rw [HE.out, HN.out]
        obtain ⟨t1, t2⟩ := told_nil (D := w.heap.size) HB1.out (Nat.le_refl _)
        exact ⟨_, _, rfl, t1, freshV_nil _ _ _, t2⟩

    · have he' : ¬ ((en : Int) < (s.size : Int)) := by omega
      obtain rfl : n = 0 := by rcases hbad with h | h; exact absurd h he; exact h
      clear hbad
      go_wp2_with fail
      refine bodyPost_cellE (V := .agg #[.slice none 0 0, .slice none 0 0]) rfl rfl ?_ rfl ?_
      · go_simp
      · rw [HE.out, HN.out]
        obtain ⟨t1, t2⟩ := told_nil (D := w.heap.size) HB1.out (Nat.le_refl _)
        exact ⟨_, _, rfl, t1, freshV_nil _ _ _, t2⟩

  · have he' : ¬ ((en : Int) < (s.size : Int)) := by omega
    have hdn : decide (en < s.size) = false := by rw [decide_eq_false_iff_not]; omega
    have hdi : decide ((en : Int) < (s.size : Int)) = false := by rw [decide_eq_false_iff_not]; omega
    have hn0 : ((n : Int) == 0) = false := by rw [beq_eq_false_iff_ne]; omega
    have hn1 : (n == 0) = false := by rw [beq_eq_false_iff_ne]; omega
    have HFO := Lib.hid (HFS.out (by rw [← HN0.out]; exact hbad))
    have hnp : 1 ≤ n := by omega
    have HD0 := Lib.hid (rdB_new HN1.out HB1.out (Nat.le_refl _) hl1)
    clear HFB HFS hbad HN1
    have HBB : Hid (Below w1.heap.size w1 (w1.alloc (.cells #[.slice none 0 0, .slice none 0 0] 25))) := (Below.refl _ _).alloc (Nat.le_refl _) _
    go_wp2_with fail
    generalize hwB : w1.alloc (.cells #[.slice none 0 0, .slice none 0 0] 25) = wB at *
    clear hwB z0 z1 zf0 zf1
    go_loopw [28] (fun a wr => ∃ (j : Nat) (vm vr : Value) (us : List Value) (acc : List (List Cnt)), j ≤ n ∧ a = .int .i64 j ∧ acc.length = j ∧ Hid (RdB w w.heap.size w1.heap.size vm vr us acc wr) ∧ Hid (Below w1.heap.size w1 wr) ∧ Hid (rowsOf [] ts = rowsOf acc (ts.drop j))) (fun a _ => n - (intOf a).toNat)
    case atStart => exact ⟨0, _, _, _, _, Nat.zero_le _, rfl, rfl, HD0, HBB, rfl⟩
    case round =>
      obtain ⟨j, vm, vr, us, acc, hj, rfl, hac, HD, HBW, HRO⟩ := hrel
      obtain ⟨A7, n7, c7, A8, n8, c8, rfl, rfl⟩ := HD.out.shapes
      have hus : us.length ≤ 200000 := by
        have := HD.out.rows.rows.len
        rw [this, List.length_tail]
        omega
      by_cases hlt : j < n
      · have hlt' : (j : Int) < (n : Int) := by omega
        have hjl : j < ts.length := by rw [← HN0.out]; exact hlt
        obtain ⟨b, off, rfl, hblt, hc⟩ := HCC.out (by rw [← HN0.out]; omega)
        have e1 : wr.cell? ⟨b, off + j, none⟩ = some (.string ts[j]) := (HBW.out.cell (p := ⟨b, off + j, none⟩) hblt).trans (by rw [hc j hjl, List.getElem?_eq_getElem hjl]; rfl)
        have HRW := Lib.hid (prow9_any wr ts[j] (by have := HTS.out _ (List.getElem_mem hjl); omega))
        have HR1 : Hid (rowOf ts[j].data.toList = none → rowsOf [] ts = none) := fun h => HRO.out.trans (rowsOf_none hjl h)
        have HR2 : Hid (∀ r, rowOf ts[j].data.toList = some r → rowsOf [] ts = rowsOf (acc ++ [r]) (ts.drop (j + 1))) := fun r h => HRO.out.trans (rowsOf_some hjl h)
        clear hc HRO
        generalize rowOf ts[j].data.toList = RO at *
        generalize ts[j] = t at *
        cases RO with
        | none =>
          have HN : Hid (RR = none) := HFN.out (HR1.out rfl)
          rw [Option.isSome_none] at HRW
          clear HR1 HR2 HFO
          go_wp2_with fail
          refine HRW.out.mono ?_
          rintro e w3 ⟨v3, rfl, hO3, b3⟩
          have HD3 := Lib.hid (HD.out.below b3)
          clear hO3 b3 HRW HD e1
          have z0 := HD3.out.res.c0
          have z1 := HD3.out.res.c1
          have zf0 := HD3.out.res.f 0
          have zf1 := HD3.out.res.f 1
          go_wp2_with fail
          refine bodyPost_cellE (V := .agg #[.slice none 0 0, .slice none 0 0]) rfl rfl ?_ rfl ?_
          · go_simp
          · rw [HE.out, HN.out]
            obtain ⟨t1, t2⟩ := told_nil (D := w.heap.size) HD3.out.low (Nat.le_refl _)
            exact ⟨_, _, rfl, t1, freshV_nil _ _ _, t2⟩

        | some r =>
          have HR3 := Lib.hid (HR2.out r rfl)
          rw [Option.isSome_some] at HRW
          clear HR1 HR2
          by_cases hj0 : j = 0
          · subst hj0
            obtain rfl : acc = [] := List.length_eq_zero_iff.1 hac
            rw [Nat.add_zero] at e1
            go_wp2_with fail
            refine HRW.out.mono ?_
            rintro e w3 ⟨v3, rfl, hO3, b3⟩
            have HO3 : Hid (OwnC w3 v3 r) := owns_mono (hO3 r rfl) (Nat.zero_le _)
            have HD3 := Lib.hid (HD.out.below b3)
            have HB3 : Hid (Below w1.heap.size w1 w3) := HBW.out.trans (b3.mono HBW.out.size)
            obtain ⟨A3, c3, rfl, z3⟩ := (CntN.of_owns HO3.out).1.shape
            have y0 := HD3.out.c0
            have yf0 := HD3.out.f 0
            have HP := Lib.hid (HD3.out.put0 HO3.out)
            have HBP := Lib.hid (HB3.out.setCell (p := ⟨w1.heap.size, 0, none⟩) (Nat.le_refl _) (.slice A3 r.length c3))
            clear z3 hO3 b3 HRW HD e1 HD3 HB3 HO3
            go_wp2_with fail
            go_roundw
            case rel => exact ⟨1, _, _, _, _, hnp, by go_num, rfl, HP, HBP, HR3⟩
            case measure => simp [intOf]; omega
          · have hjz : ((j : Int) == 0) = false := by rw [beq_eq_false_iff_ne]; omega
            have hjz2 : (j == 0) = false := by rw [beq_eq_false_iff_ne]; omega
            have hne : acc ≠ [] := fun e => hj0 (by rw [← hac, e]; rfl)
            go_wp2_with fail
            refine HRW.out.mono ?_
            rintro e w3 ⟨v3, rfl, hO3, b3⟩
            have HO3 : Hid (OwnC w3 v3 r) := owns_mono (hO3 r rfl) (Nat.zero_le _)
            have HD3 := Lib.hid (HD.out.below b3)
            have HB3 : Hid (Below w1.heap.size w1 w3) := HBW.out.trans (b3.mono HBW.out.size)
            obtain ⟨A3, c3, rfl, z3⟩ := (CntN.of_owns HO3.out).1.shape
            have y1 := HD3.out.c1
            have yf1 := HD3.out.f 1
            have HNEA := Lib.hid hne
            clear z3 hO3 b3 HRW HD e1 hne
            go_wp2_with (at_builtin; refine wpList_append_rows rfl _ _ 23 rfl Try.underlying23 (w1.heap.size + 1) _ us rfl (HD3.out.own.alloc _) _ [.slice A3 r.length c3] rfl (rowV_one HO3.out) (by simp; omega) (by have := HD3.out.hlt; simp; omega) ?_)
            intro v5 w5 ho5 hg5
            obtain ⟨g1, g2, g3⟩ := HD3.out.grown hg5
            have gf1 := g2 1
            have HP := Lib.hid (HD3.out.put1 HNEA.out HO3.out (by simpa using ho5) hg5)
            have HBP := Lib.hid (((HB3.out.alloc HB3.out.size _).grown hg5 (by have := HB3.out.size; simp; omega) (fun k hk => by have := (HD3.out.own.lt k hk).1; omega)).setCell (p := ⟨w1.heap.size, 1, none⟩) (Nat.le_refl _) v5)
            obtain ⟨_, _, _, A5, n5, c5, _, rfl⟩ := HP.out.shapes
            clear g2 g3 ho5 hg5 y1 yf1 HD3 HB3 HO3 HNEA
            go_wp2_with fail
            go_roundw
            case rel => exact ⟨j + 1, _, _, _, _, by omega, by go_num, by simp [hac], HP, HBP, HR3⟩
            case measure => simp [intOf]; omega
      · obtain rfl : j = n := by omega
        have HRA : Hid (rowsOf [] ts = some acc) := by
          unfold Hid
          rw [HRO.out, List.drop_eq_nil_of_le (by rw [← HN0.out]; exact Nat.le_refl _)]; rfl
        obtain ⟨m, rs, rfl⟩ : ∃ m rs, acc = m :: rs := by
          cases acc with
          | nil => simp at hac; omega
          | cons m rs => exact ⟨m, rs, rfl⟩
        obtain ⟨hrr, hsz, hrl⟩ := HFO.out m rs HRA.out
        have HLS : Hid (LsmN wr (LsmV (.slice A7 n7 c7) (.slice A8 n8 c8)) (m, rs)) := HD.out.lsm
        have HFT := Lib.hid (pfit2_any wr _ (m, rs) HLS.out (by omega) hrl)
        have HWT : Hid (∀ w4, Below wr.heap.size wr w4 → Calls Try.prog 10 #[LsmV (.slice A7 n7 c7) (.slice A8 n8 c8)] w4 fun e w' => e = .returned (.string (Bs (writeL (m, rs)))) ∧ Below w4.heap.size w4 w') := fun w4 h4 => pwrite_any w4 _ (m, rs) (HLS.out.below h4 (Nat.le_refl _)) hsz hrl
        have HFR := HD.out.fresh
        have x0 := HD.out.c0
        have x1 := HD.out.c1
        have HRR := Lib.hid hrr
        have HFV := Lib.hid HFR
        unfold LsmV at HFT HWT
        clear hrr HRO HRA HFO hsz hrl HFR HFN HCC HTS hus hac
        cases hf : fitB (m, rs) with
        | false =>
          have HN : Hid (RR = none) := by unfold Hid; rw [HRR.out, if_neg (by rw [hf]; simp)]
          rw [hf] at HFT
          clear HRR hf
          go_wp2_with fail
          refine HFT.out.mono ?_
          rintro e w4 ⟨rfl, b4⟩
          have HD4 := Lib.hid (HD.out.below b4)
          clear b4 HD x0 x1 HFT HWT
          have z0 := HD4.out.res.c0
          have z1 := HD4.out.res.c1
          have zf0 := HD4.out.res.f 0
          have zf1 := HD4.out.res.f 1
          go_wp2_with fail
          refine bodyPost_cellE (V := .agg #[.slice none 0 0, .slice none 0 0]) rfl rfl ?_ rfl ?_
          · go_simp
          · rw [HE.out, HN.out]
            obtain ⟨t1, t2⟩ := told_nil (D := w.heap.size) HD4.out.low (Nat.le_refl _)
            exact ⟨_, _, rfl, t1, freshV_nil _ _ _, t2⟩

        | true =>
          rw [hf] at HFT
          by_cases hw : Bs (writeL (m, rs)) = s
          · have HN : Hid (RR = some (m, rs)) := by unfold Hid; rw [HRR.out, if_pos ⟨hf, by rw [← hw]⟩]
            rw [hw] at HWT
            clear HRR hf hw
            go_wp2_with fail
            refine HFT.out.mono ?_
            rintro e w4 ⟨rfl, b4⟩
            have HD4 := Lib.hid (HD.out.below b4)
            have HW4 := Lib.hid (HWT.out w4 b4)
            clear b4 x0 x1 HFT HWT
            have x0 := HD4.out.c0
            have x1 := HD4.out.c1
            go_wp2_with fail
            refine HW4.out.mono ?_
            rintro e w5 ⟨rfl, b5⟩
            have HD5 := Lib.hid (HD4.out.below b5)
            clear b5 x0 x1 HW4 HD4
            have x0 := HD5.out.c0
            have x1 := HD5.out.c1
            have z0 := HD5.out.res.c0
            have z1 := HD5.out.res.c1
            have zf0 := HD5.out.res.f 0
            have zf1 := HD5.out.res.f 1
            go_wp2_with fail
            refine bodyPost_cellE (V := .agg #[.slice A7 n7 c7, .slice A8 n8 c8]) rfl rfl ?_ rfl ?_
            · go_simp
            · rw [HE.out, HN.out]
              exact ⟨_, _, rfl, told (v := .bool true) HD5.out.res HD5.out.lsm HFV.out, HFV.out.mono (Nat.le_succ _), told_below HD5.out.low (Nat.le_refl _) _ _⟩
          · have HN : Hid (RR = none) := by unfold Hid; rw [HRR.out, if_neg (by rintro ⟨_, h⟩; exact hw (by rw [h]))]
            have hwe := str_eq_f hw
            generalize Bs (writeL (m, rs)) = Q at *
            clear HRR hf hw
            go_wp2_with fail
            refine HFT.out.mono ?_
            rintro e w4 ⟨rfl, b4⟩
            have HD4 := Lib.hid (HD.out.below b4)
            have HW4 := Lib.hid (HWT.out w4 b4)
            clear b4 x0 x1 HFT HWT
            have x0 := HD4.out.c0
            have x1 := HD4.out.c1
            go_wp2_with fail
            refine HW4.out.mono ?_
            rintro e w5 ⟨rfl, b5⟩
            have HD5 := Lib.hid (HD4.out.below b5)
            clear b5 x0 x1 HW4 HD4
            have z0 := HD5.out.res.c0
            have z1 := HD5.out.res.c1
            have zf0 := HD5.out.res.f 0
            have zf1 := HD5.out.res.f 1
            go_wp2_with fail
            refine bodyPost_cellE (V := .agg #[.slice none 0 0, .slice none 0 0]) rfl rfl ?_ rfl ?_
            · go_simp
            · rw [HE.out, HN.out]
              obtain ⟨t1, t2⟩ := told_nil (D := w.heap.size) HD5.out.low (Nat.le_refl _)
              exact ⟨_, _, rfl, t1, freshV_nil _ _ _, t2⟩

end Go.Proofs.Yteidlngffikboaa
