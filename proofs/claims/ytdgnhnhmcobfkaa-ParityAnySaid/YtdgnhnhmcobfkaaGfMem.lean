/- Rows of bytes: made by a conversion, by make; appended to; read as a text. -/
import Derived.Test.YtdgnhnhmcobfkaaGfAdd
import Derived.Deep.MidRow
import Derived.Lib.ConvBytes
import Derived.Laws.MakeOwn
import Derived.OwnWalk
namespace Go.Proofs.Ytdgnhnhmcobfkaa
open Go.RowKit
set_option linter.unusedVariables false
theorem byteInfo : (Try.prog.info? 5).map (fun i => (i.zero, i.size, i.bytes)) = some (some (.int .u8 0), 1, 1) := by kernel_rfl
/-- the bytes of a text, as a function -/
def rw' (s : ByteArray) (k : Nat) : UInt8 := s.data.toList.getD k 0
def bytesF (n : Nat) (f : Nat → UInt8) : ByteArray := ⟨((List.range n).map f).toArray⟩
theorem bytesF_size (n : Nat) (f : Nat → UInt8) : (bytesF n f).size = n := by simp [bytesF, ByteArray.size]
theorem bytesF_congr {n : Nat} {f g : Nat → UInt8} (h : ∀ k, k < n → f k = g k) : bytesF n f = bytesF n g := by
  unfold bytesF
  congr 2
  exact List.map_congr_left fun k hk => h k (by simpa using hk)
theorem rw_bytesF {n k : Nat} (f : Nat → UInt8) (h : k < n) : rw' (bytesF n f) k = f k := by simp [rw', bytesF, h]
theorem bytesF_rw (s : ByteArray) : bytesF s.size (rw' s) = s := by
  apply ByteArray.ext
  have hs : s.size = s.data.size := rfl
  apply Array.ext
  · simp only [bytesF, List.size_toArray, List.length_map, List.length_range, hs]
  · intro i h1 h2
    simp only [bytesF, rw', List.getElem_toArray, List.getElem_map, List.getElem_range, List.getD_eq_getElem?_getD, Array.getElem?_toList, Array.getElem?_eq_getElem h2, Option.getD_some]
structure RowB (w : World) (B g cap : Nat) (l : List UInt8) : Prop where
  base : B ≤ g
  lt : g < w.heap.size
  len : l.length ≤ cap
  max : cap ≤ maxLen
  there : w.there g 0 cap
  cells : ∀ j (h : j < l.length), w.cell? ⟨g, j, none⟩ = some (.int .u8 (l[j]).toNat)
theorem RowB.same {w w' : World} {B g cap : Nat} {l : List UInt8} (h : RowB w B g cap l) (hs : w.heap.size ≤ w'.heap.size) (hb : w'.heap[g]? = w.heap[g]?) : RowB w' B g cap l :=
  ⟨h.base, Nat.lt_of_lt_of_le h.lt hs, h.len, h.max, fun j hj => ⟨by rw [World.cell?_of_block (a := ⟨g, 0 + j, none⟩) hb]; exact (h.there j hj).1, by rw [World.frozen?_of_block (a := ⟨g, 0 + j, none⟩) hb]; exact (h.there j hj).2⟩, fun j hj => (World.cell?_of_block (a := ⟨g, j, none⟩) hb).trans (h.cells j hj)⟩
theorem RowB.grown {w w' : World} {B g cap : Nat} {l : List UInt8} {row : Option Nat} (h : RowB w B g cap l) (hg : w.grownBy w' row) (hne : some g ≠ row) : RowB w' B g cap l := h.same hg.size (hg.block g h.lt hne)
theorem RowB.below {w w' : World} {C B g cap : Nat} {l : List UInt8} (h : RowB w B g cap l) (hb : Below C w w') (hg : g < C) : RowB w' B g cap l := h.same hb.size (hb.block g hg)
theorem RowB.alloc {w : World} {B g cap : Nat} {l : List UInt8} (h : RowB w B g cap l) (o : Obj) : RowB (w.alloc o) B g cap l :=
  h.same (by simp) (Lib.alloc_old w o g h.lt)
theorem RowB.at {w : World} {B g cap : Nat} {l : List UInt8} (h : RowB w B g cap l) (j : Nat) (hj : j < l.length) : w.cell? ⟨g, j, none⟩ = some (.int .u8 (l.getD j 0).toNat) := by
  rw [h.cells j hj, List.getD_eq_getElem?_getD, List.getElem?_eq_getElem hj]; rfl
/-- '[]byte(s)' -/
theorem RowB.made (w : World) (s : ByteArray) (hs : s.size ≤ 140737488351232) : ∃ (W2 : World) (cap : Nat), (convert 9 63 (.string s)).run Try.prog w = .ok (.slice (some ⟨w.heap.size, 0, none⟩) s.size cap) W2 ∧ RowB W2 w.heap.size w.heap.size cap s.data.toList ∧ Below w.heap.size w W2 := by
  have hnew := Lib.bytesWorld_at_new w 5 s
  have hge := grownCap_ge w s.size 0 5
  have hsz : (Lib.bytesCells w 5 s).size = grownCap w s.size 0 5 := by simp [Lib.bytesCells]; omega
  refine ⟨_, _, Lib.run_convert_string_bytes w _ _ 5 s Try.underlying9 Try.underlying63 Try.underlying5, ⟨Nat.le_refl _, by rw [Lib.bytesWorld_size]; omega, by simpa using hge, grownCap_le_maxLen w s.size 0 _ (by unfold maxLen; omega), fun j hj => ⟨?_, ?_⟩, fun j hj => ?_⟩, ⟨rfl, rfl, rfl, by rw [Lib.bytesWorld_size]; omega, fun i hi => Lib.bytesWorld_at_old _ _ _ _ hi⟩⟩
  · rw [Nat.zero_add, World.cell?, hnew]
    simp; omega
  · rw [Nat.zero_add]
    simp only [World.frozen?, hnew, Bool.and_eq_false_iff, decide_eq_false_iff_not]
    left; omega
  · rw [Lib.bytesWorld_cell _ _ _ _ (by simpa using hj)]
    simp only [List.getD_eq_getElem?_getD, List.getElem?_eq_getElem hj, Option.getD_some]
theorem RowB.frow {w : World} {B g cap : Nat} {l : List UInt8} (h : RowB w B g cap l) : FRow w g l.length (fun k => l.getD k 0) :=
  ⟨h.lt, fun j hj => h.at j hj, fun j hj => by have := (h.there j (Nat.lt_of_lt_of_le hj h.len)).2; rwa [Nat.zero_add] at this⟩
/-- '[]byte(s)' -/
theorem conv_bytes (w : World) (s : ByteArray) (hs : s.size ≤ 140737488351232) : ∃ (W2 : World) (cap : Nat), (convert 9 63 (.string s)).run Try.prog w = .ok (.slice (some ⟨w.heap.size, 0, none⟩) s.size cap) W2 ∧ FRow W2 w.heap.size s.size (rw' s) ∧ Below w.heap.size w W2 := by
  obtain ⟨W2, cap, h1, h2, h3⟩ := RowB.made w s hs
  refine ⟨W2, cap, h1, ?_, h3⟩
  have := h2.frow
  rwa [show s.data.toList.length = s.size by simp] at this
/-- 'string(r[off:off+n])' -/
theorem conv_str {w : World} {g m : Nat} {f : Nat → UInt8} (h : FRow w g m f) (off n cap : Nat) (hn : off + n ≤ m) :
    (convert 63 9 (.slice (some ⟨g, off, none⟩) n cap)).run Try.prog w = .ok (.string (bytesF n (fun k => f (off + k)))) w := by
  refine run_bytes_str _ 63 9 5 Try.underlying63 Try.underlying5 Try.underlying9 g off n cap ((List.range n).map (fun k => f (off + k))) (by simp) ?_
  intro i hi
  have hi' : i < n := by simpa using hi
  rw [h.cell (off + i) (by omega)]
  simp
/-- 'make([]byte, n)' -/
theorem FRow.made {w : World} {B g n cap : Nat} (h : w.ownsRow B 5 1 (.slice (some ⟨g, 0, none⟩) n cap) n (madeCells (Value.int .u8 0).cells (n * 1)).toList) : FRow w g n (fun _ => 0) := by
  rcases h.2 with ⟨h1, _⟩ | ⟨g', cap', cur, hv, hb, hg, hn, hm, hc, ht⟩
  · cases h1
  · cases hv
    refine ⟨(Array.getElem?_eq_some_iff.1 hg).1, fun j hj => ?_, fun j hj => frozen_of_row w g j cur _ hg⟩
    have := h.cells (g := g) rfl j (.int .u8 0) (by
      have : (Value.int .u8 0).cells = #[.int .u8 0] := rfl
      rw [this]
      simp [madeCells, hj, Nat.mod_one])
    rw [Addr.add_mid, Nat.zero_add] at this
    exact this
theorem wpList_make_bytes {w : World} {ops : Array Oper} {rest : List Oper} {o : Oper} {a : Act} {Q : Exit → Act → World → Prop} (hg : o.guard = none) (l c : Operand) (t : TypeId) (hop : o.op = Op.makeSlice t l c)
    (h1 : Try.prog.underlying t = some (.slice 5)) (n : Nat) (hl : a.eval l = .int .i64 (n : Int)) (hc : a.eval c = .int .i64 (n : Int)) (hn : n ≤ 1000000000)
    (h : ∀ w', FRow w' w.heap.size n (fun _ => 0) → Below w.heap.size w w' → wpList Try.prog ops Q rest (a.put o.dst (.slice (some ⟨w.heap.size, 0, none⟩) n n)) w') : wpList Try.prog ops Q (o :: rest) a w := by
  obtain ⟨i0, hi0, hz0, hz1, hz2⟩ := info_parts byteInfo
  refine wpList_make_full w hg l c t hop w.heap.size 5 i0 (.int .u8 0) 1 h1 hi0 hz0 hz1 .i64 .i64 _ _ n hl hc rfl rfl (by rw [hz2]; omega) (by unfold maxLen; omega) (Nat.le_refl _) ?_
  intro w' hown hgr
  exact h w' (FRow.made hown) ((Below.refl _ _).grown hgr (Nat.le_refl _) (fun k e => by cases e))
theorem run_storeCells_free (P : Program) (g : Nat) : ∀ (ys : List UInt8) (o i : Nat) (w : World), g < w.heap.size → (∀ j, j < ys.length → (w.cell? ⟨g, o + i + j, none⟩).isSome = true ∧ w.frozen? ⟨g, o + i + j, none⟩ = false) →
    ∃ w', (storeCells ⟨g, o, none⟩ (ys.map fun y => Value.int .u8 y.toNat) i).run P w = .ok () w' ∧ w.grownBy w' (some g) ∧ (∀ j (h : j < ys.length), w'.cell? ⟨g, o + i + j, none⟩ = some (.int .u8 ys[j].toNat)) ∧
      (∀ k, k < o + i → w'.cell? ⟨g, k, none⟩ = w.cell? ⟨g, k, none⟩) ∧ ∀ k, w'.frozen? ⟨g, k, none⟩ = w.frozen? ⟨g, k, none⟩
  | [], o, i, w, _, _ => ⟨w, rfl, grown_refl w _, fun j h => absurd h (by simp), fun _ _ => rfl, fun _ => rfl⟩
  | y :: ys, o, i, w, hg, h => by
    obtain ⟨h0, h1⟩ := h 0 (by simp)
    rw [Nat.add_zero] at h0 h1
    obtain ⟨x, hx⟩ := Option.isSome_iff_exists.1 h0
    obtain ⟨w', r1, r2, r3, r4, r5⟩ := run_storeCells_free P g ys o (i + 1) (w.setCell ⟨g, o + i, none⟩ (.int .u8 y.toNat)) (by rw [World.size_setCell]; exact hg) (fun j hj => by
      obtain ⟨a, b⟩ := h (j + 1) (by simp; omega)
      rw [show o + i + (j + 1) = o + (i + 1) + j by omega] at a b
      refine ⟨?_, by rw [World.frozen?_setCell]; exact b⟩
      rw [World.cell?_setCell_other _ _ _ _ (by intro e; injection e with _ e; omega)]; exact a)
    refine ⟨w', ?_, grown_trans (grown_set _ ⟨g, o + i, none⟩ _) r2, fun j hj => ?_, fun k hk => ?_, fun k => by rw [r5, World.frozen?_setCell]⟩
    · simp only [List.map_cons, storeCells, Sem.run_bind, Addr.add_mid]
      rw [run_store P w _ _ _ rfl, hx]
      simp only [h1, Bool.false_eq_true, if_false, Result.andThen_ok]
      exact r1
    · cases j with
      | zero => rw [Nat.add_zero, r4 (o + i) (by omega), World.cell?_setCell_same _ _ _ hx]; rfl
      | succ j =>
        have := r3 j (by simpa using hj)
        rw [show o + i + (j + 1) = o + (i + 1) + j by omega, this]; rfl
    · rw [r4 k (by omega), World.cell?_setCell_other _ _ _ _ (by intro e; injection e with _ e; omega)]
/-- 'append([]byte(s), one...)' -/
theorem frow_append {P : Program} (w : World) (B g cap : Nat) (l : List UInt8) (t ty e : TypeId) (i : TypeInfo) (ht : P.underlying t = some (.slice e)) (hi : P.info? e = some i) (hz : i.zero = some (.int .u8 0)) (hs : i.size = 1) (hby : i.bytes = 1)
    (hr : RowB w B g cap l) (b2 m c2 : Nat) (f2 : Nat → UInt8) (h2 : FRow w b2 m f2) (hn : l.length + m ≤ 1000000000) :
    ∃ g' cap' w', (Builtin.append_ #[t, t] ty #[.slice (some ⟨g, 0, none⟩) l.length cap, .slice (some ⟨b2, 0, none⟩) m c2]).run P w = .ok (.slice (some ⟨g', 0, none⟩) (l.length + m) cap') w' ∧
      FRow w' g' (l.length + m) (fun j => if j < l.length then l.getD j 0 else f2 (j - l.length)) ∧ w.grownBy w' (some g) ∧ (g' = g ∨ w.heap.size ≤ g') ∧ l.length + m ≤ cap' ∧ cap' ≤ maxLen := by
  let ys := (List.range m).map f2
  have hyl : ys.length = m := by simp [ys]
  have hnews : ∀ j u, (ys.map fun y => Value.int .u8 y.toNat)[j]? = some u → w.cell? ((⟨b2, 0, none⟩ : Addr).add j) = some u := by
    intro j u hj
    have hjm : j < m := by have := (List.getElem?_eq_some_iff.1 hj).1; simpa [ys] using this
    rw [Addr.add_mid, Nat.zero_add, h2.cell j hjm, ← hj]
    simp [ys, hjm]
  by_cases hroom : l.length + m ≤ cap
  · have hf := run_firstCells_some (P := P) w i.size m ⟨b2, 0, none⟩ m c2 (ys.map fun y => Value.int .u8 y.toNat) (by rw [hs]; simp [ys]) hnews
    obtain ⟨w', r1, r2, r3, r4, r5⟩ := run_storeCells_free P g ys l.length 0 w hr.lt (fun j hj => by
      have := hr.there (l.length + j) (by omega)
      rw [Nat.zero_add] at this
      exact this)
    refine ⟨g, cap, w', ?_, ⟨Nat.lt_of_lt_of_le hr.lt r2.size, fun j hj => ?_, fun j hj => ?_⟩, r2, .inl rfl, hroom, hr.max⟩
    · simp [Builtin.append_, run_underlying ht, sizeOf, typeInfo, hi, hs, Builtin.lenOf, hroom, Addr.add_lit]
      rw [hs] at hf
      simp [hf, r1]
    · by_cases hjl : j < l.length
      · rw [if_pos hjl, r4 j (by omega), hr.at j hjl]
      · rw [if_neg hjl]
        have := r3 (j - l.length) (by omega)
        rw [show l.length + 0 + (j - l.length) = j by omega] at this
        rw [this]
        simp [ys]
    · rw [r5]; have := (hr.there j (by omega)).2; rwa [Nat.zero_add] at this
  · have holds : ∀ j v, (Lib.byteCells l)[j]? = some v → w.cell? ((⟨g, 0, none⟩ : Addr).add j) = some v := by
      intro j v hj
      have hjl : j < l.length := by have := (List.getElem?_eq_some_iff.1 hj).1; rwa [Lib.byteCells_length] at this
      rw [Addr.add_mid, Nat.zero_add, hr.cells j hjl, ← hj]
      simp [Lib.byteCells, hjl]
    have hll := hr.len
    have hmx' := hr.max
    have hrun := run_append_grow (P := P) w t ty e i (.int .u8 0) ht hi hz ⟨g, 0, none⟩ l.length cap (Lib.byteCells l) (by rw [Lib.byteCells_length, hs]; omega) holds ⟨b2, 0, none⟩ m c2 (ys.map fun y => Value.int .u8 y.toNat) (by rw [hs]; simp [ys]) hnews (by omega) (by omega) (growslice_fits (by omega) (by rw [hby]; omega))
    have hge := grownCap_ge w (l.length + m) cap e
    have hmx := grownCap_le_maxLen w (l.length + m) cap e (by unfold maxLen; omega)
    refine ⟨w.heap.size, _, _, hrun, ?_, ⟨rfl, rfl, rfl, by simp, fun k hk _ => Below.heap_alloc w.drew _ k hk⟩, .inr (Nat.le_refl _), hge, hmx⟩
    generalize hC : ((Lib.byteCells l).toArray ++ (ys.map fun y => Value.int .u8 y.toNat).toArray ++ Builtin.zeroCells (Value.int .u8 0).cells (grownCap w (l.length + m) cap e - (l.length + m))) = C at *
    have hh : (w.drew.alloc (.cells C e)).heap[w.heap.size]? = some (.cells C e (0, 0)) := heap_alloc_new w.drew _
    refine ⟨by simp, fun j hj => ?_, fun j hj => frozen_of_row _ _ j C e hh⟩
    rw [cell_of_row _ _ j C e _ hh, ← hC, Array.getElem?_append, Array.getElem?_append]
    have s1 : (Lib.byteCells l).toArray.size = l.length := by rw [List.size_toArray, Lib.byteCells_length]
    have s2 : ((Lib.byteCells l).toArray ++ (ys.map fun y => Value.int .u8 y.toNat).toArray).size = l.length + m := by rw [Array.size_append, s1]; simp [ys]
    rw [s2, if_pos hj, s1]
    by_cases e2 : j < l.length
    · rw [if_pos e2, if_pos e2]; simp [Lib.byteCells, e2]
    · rw [if_neg e2, if_neg e2]
      simp [ys, show j - l.length < m by omega]
theorem wpList_frow_append {P : Program} {w : World} {ops : Array Oper} {rest : List Oper} {o : Oper} {a : Act} {Q : Exit → Act → World → Prop} (hgd : o.guard = none) (s x : Operand) (t : TypeId)
    (ho : o.op = .call { callee := .builtin .append, args := #[s, x], argTypes := #[t, t] }) (B g cap : Nat) (l : List UInt8) (e : TypeId) (i : TypeInfo) (ht : P.underlying t = some (.slice e)) (hi : P.info? e = some i) (hz : i.zero = some (.int .u8 0)) (hsz : i.size = 1) (hby : i.bytes = 1)
    (hs : a.eval s = .slice (some ⟨g, 0, none⟩) l.length cap) (hr : RowB w B g cap l) (b2 m c2 : Nat) (f2 : Nat → UInt8) (hx : a.eval x = .slice (some ⟨b2, 0, none⟩) m c2) (h2 : FRow w b2 m f2) (hn : l.length + m ≤ 1000000000)
    (h : ∀ g' cap' w', FRow w' g' (l.length + m) (fun j => if j < l.length then l.getD j 0 else f2 (j - l.length)) → w.grownBy w' (some g) → (g' = g ∨ w.heap.size ≤ g') → l.length + m ≤ cap' → cap' ≤ maxLen → wpList P ops Q rest (a.put o.dst (.slice (some ⟨g', 0, none⟩) (l.length + m) cap')) w') : wpList P ops Q (o :: rest) a w := by
  refine wpList_plain hgd fun K hK => ?_
  obtain ⟨g', cap', w', hrun, h1, h3, h4, h5, h6⟩ := frow_append (P := P) w B g cap l t o.type e i ht hi hz hsz hby hr b2 m c2 f2 h2 hn
  unfold Oper.wp execOp
  simp only [ho, resolve, invoke, builtin, Sem.run_bind, Sem.run_pure, Result.andThen_ok, List.map_toArray, List.map_cons, List.map_nil, hs, hx, hrun]
  exact hK _ _ (h g' cap' w' h1 h3 h4 h5 h6)
end Go.Proofs.Ytdgnhnhmcobfkaa
