/- pack.Scan: its walk. -/
import Derived.Test.YtkbpkodakfknoaaPackIter
namespace Go.Proofs.Ytkbpkodakfknoaa
open Go.RowKit Go.Shelf
attribute [local go_sem] Oper.semAt_some
set_option linter.unusedVariables false
set_option linter.unusedSimpArgs false
def stepS (st : List Slt × Nat) (f : Frm) : List Slt × Nat := (addS st.1 (f.2.2.extract 0 32, (f.1 : Int), (f.2.1 : Int)), f.1 + f.2.1)
def foldS (l : List Frm) : List Slt × Nat := l.foldl stepS ([], 0)
def goods (l : List Frm) : List Frm := l.takeWhile fun f => goodT f.2.2
/-- the slots that bytes have, and where they end -/
def scanP (s : List UInt8) : List Slt × Nat := foldS (goods (allF s))
theorem foldS_snoc (l : List Frm) (f : Frm) : foldS (l ++ [f]) = stepS (foldS l) f := by simp [foldS]
theorem foldS_ris (l : List Frm) : RisS (foldS l).1 := by
  have : ∀ (l : List Frm) (st : List Slt × Nat), RisS st.1 → RisS (l.foldl stepS st).1 := by
    intro l
    induction l with
    | nil => intro st h; exact h
    | cons f l ih => intro st h; exact ih _ (addS_ris _ h)
  exact this l _ List.Pairwise.nil
theorem foldS_len (l : List Frm) : (foldS l).1.length ≤ l.length := by
  have : ∀ (l : List Frm) (st : List Slt × Nat), (l.foldl stepS st).1.length ≤ st.1.length + l.length := by
    intro l
    induction l with
    | nil => intro st; simp
    | cons f l ih =>
      intro st
      have h1 := ih (stepS st f)
      have h2 := addS_len st.1 (f.2.2.extract 0 32, (f.1 : Int), (f.2.1 : Int))
      simp only [List.foldl_cons, List.length_cons]
      unfold stepS at h1 ⊢
      dsimp only at h1
      omega
  simpa [foldS] using this l ([], 0)
def okF (f : Frm) : Prop := f.1 + f.2.1 ≤ 1000000000 ∧ f.2.2.size ≤ 1000000000
abbrev FrmO := {f : Frm // okF f}
def vals (l : List FrmO) : List Frm := l.map Subtype.val
theorem own_orP (v : Value) : v.ownBlock = none ∨ v.ownBlock ≠ none := by
  by_cases e : v.ownBlock = none
  · exact .inl e
  · exact .inr e
structure SS (w : World) (s : ByteArray) (v : Value) (st : List Slt × Nat) (W : World) : Prop where
  box : Boxed W w.heap.size 26 v
  own : W.ownsRow (w.heap.size + 3) 30 3 v st.1.length (slts st.1)
  fin : Boxed W (w.heap.size + 1) 3 (.int .i64 (st.2 : Nat))
  str : Boxed W (w.heap.size + 1 + 1) 9 (.string s)
  size : w.heap.size + 3 ≤ W.heap.size
  b : Below w.heap.size w W
theorem SS.step {w W W' : World} {s : ByteArray} {v : Value} {st : List Slt × Nat} (h : SS w s v st W) (hb : Below W.heap.size W W') : SS w s v st W' :=
  ⟨(hb.block _ h.box.lt).trans h.box, h.own.kept (only_of_belowP hb none) (own_orP v), (hb.block _ h.fin.lt).trans h.fin, (hb.block _ h.str.lt).trans h.str, Nat.le_trans h.size hb.size, h.b.trans (hb.mono h.b.size)⟩
theorem SS.keep {w W W' : World} {s : ByteArray} {v : Value} {st : List Slt × Nat} {row : Option Nat} (h : SS w s v st W) (hg : W.grownBy W' row) (hr : ∀ r, row = some r → w.heap.size + 3 ≤ r ∧ ∃ o : Obj, W.heap[r]? = some o ∧ o.isCells = false) : SS w s v st W' :=
  ⟨boxed_keep h.box hg (fun r e => (hr r e).2), h.own.kept hg (by
    rcases h.own.2 with ⟨rfl, _⟩ | ⟨g, cap, cur, rfl, _, hgb, _⟩
    · exact .inl rfl
    · refine .inr fun e' => ?_
      obtain ⟨o, ho, hc⟩ := (hr g (by simpa [Value.ownBlock] using e'.symm)).2
      rw [hgb] at ho; cases ho; cases hc), boxed_keep h.fin hg (fun r e => (hr r e).2), boxed_keep h.str hg (fun r e => (hr r e).2), Nat.le_trans h.size hg.size, h.b.grown hg h.b.size (fun k e => by have := (hr k e).1; omega)⟩
/-- a store to a cell of the round's own -/
theorem SS.setOther {w W : World} {s : ByteArray} {v : Value} {st : List Slt × Nat} (h : SS w s v st W) (B j : Nat) (u : Value) (hB : w.heap.size + 3 ≤ B) (hne : v.ownBlock ≠ some B) : SS w s v st (W.setCell ⟨B, j, none⟩ u) := by
  have hg : W.grownBy (W.setCell ⟨B, j, none⟩ u) (some B) := ⟨rfl, rfl, rfl, by rw [World.size_setCell]; exact Nat.le_refl _, fun k hk hne' => Below.heap_setCell _ _ _ _ (by dsimp only; exact fun e => hne' (by rw [e]))⟩
  exact ⟨h.box.kept hg (by intro e; injection e; omega), h.own.kept hg (.inr hne), h.fin.kept hg (by intro e; injection e; omega), h.str.kept hg (by intro e; injection e; omega), by rw [World.size_setCell]; exact h.size, h.b.setCell (p := ⟨B, j, none⟩) (by dsimp only; omega) u⟩
theorem SS.setFin {w W : World} {s : ByteArray} {v : Value} {l : List Slt} {e0 : Nat} (h : SS w s v (l, e0) W) (e1 : Nat) : SS w s v (l, e1) (W.setCell ⟨w.heap.size + 1, 0, none⟩ (.int .i64 (e1 : Nat))) :=
  ⟨h.box.other (by omega) _, h.own.kept (grownBy_setCell' _ _ _) (.inr (h.fin.not_row (by decide) h.own).symm), h.fin.set _, h.str.other (by omega) _, by rw [World.size_setCell]; exact h.size, h.b.setCell (p := ⟨w.heap.size + 1, 0, none⟩) (by dsimp only; omega) _⟩
/-- what Insert leaves, stored -/
theorem SS.ins {w W W1 : World} {s : ByteArray} {v v' : Value} {l l' : List Slt} {e0 : Nat} {tmp : Obj} (h : SS w s v (l, e0) W) (hown : W1.ownsRow (w.heap.size + 3) 30 3 v' l'.length (slts l')) (hg : (W.alloc tmp).grownBy W1 v.ownBlock) :
    Boxed W1 w.heap.size 26 v ∧ Boxed W1 (w.heap.size + 1) 3 (.int .i64 (e0 : Nat)) ∧ Boxed W1 (w.heap.size + 1 + 1) 9 (.string s) ∧ SS w s v' (l', e0) (W1.setCell ⟨w.heap.size, 0, none⟩ v') ∧ KeepsOthers W (W1.setCell ⟨w.heap.size, 0, none⟩ v') := by
  have hb1 : Boxed W1 w.heap.size 26 v := (h.box.alloc tmp).kept hg (h.box.not_row (by decide) h.own)
  have hf1 : Boxed W1 (w.heap.size + 1) 3 (.int .i64 (e0 : Nat)) := (h.fin.alloc tmp).kept hg (h.fin.not_row (by decide) h.own)
  have hs1 : Boxed W1 (w.heap.size + 1 + 1) 9 (.string s) := (h.str.alloc tmp).kept hg (h.str.not_row (by decide) h.own)
  refine ⟨hb1, hf1, hs1, ⟨hb1.set v', hown.kept (grownBy_setCell' W1 w.heap.size v') (.inr (hb1.not_row (by decide) hown).symm), hf1.other (by omega) _, hs1.other (by omega) _, ?_, ?_⟩, ?_⟩
  · rw [World.size_setCell]; have := hg.size; have := h.size; simp at *; omega
  · exact (((h.b.alloc h.b.size tmp).grown hg (by have := h.b.size; simp; omega) (fun j ej => by
      rcases h.own.2 with ⟨rfl, _⟩ | ⟨g, cap, cur, rfl, hb, _, _⟩
      · simp [Value.ownBlock] at ej
      · obtain rfl : g = j := by simpa [Value.ownBlock] using ej
        omega))).setCell (p := ⟨w.heap.size, 0, none⟩) (Nat.le_refl _) v'
  · refine ((KeepsOthers.alloc W tmp).trans (KeepsOthers.of_grownBy hg fun j o ej hj => ?_)).trans (KeepsOthers.setCell _ _ _)
    rcases (h.own.alloc tmp).2 with ⟨rfl, _⟩ | ⟨g, cap, cur, rfl, _, hgb, _⟩
    · simp [Value.ownBlock] at ej
    · obtain rfl : g = j := by simpa [Value.ownBlock] using ej
      rw [hgb] at hj; cases hj; rfl
def IS (w : World) (s : ByteArray) (pre : List FrmO) (W : World) : Prop := (∀ f ∈ vals pre, goodT f.2.2 = true) ∧ ∃ v, SS w s v (foldS (vals pre)) W
def IX (w : World) (s : ByteArray) (c : Code) (pre : List FrmO) (W : World) : Prop := c = .exit 0 ∧ ∃ pre0 x, pre = pre0 ++ [x] ∧ goodT x.1.2.2 = false ∧ IS w s pre0 W
def AX (w : World) (s : ByteArray) (x : FrmO) (a' : Act) (W : World) : Prop := ∃ B4 : Nat, a' = { tmps := #[.string s, undef, .pointer (some ⟨w.heap.size, 0, none⟩), .pointer (some ⟨w.heap.size + 1, 0, none⟩), .pointer (some ⟨B4, 0, none⟩), .string x.1.2.2, undef, undef, undef, undef, undef, .string s, .func (.func 42) #[] #[.pointer (some ⟨w.heap.size + 1 + 1, 0, none⟩)], .agg #[.string ⟨#[]⟩, .int .i64 (x.1.1 : Nat), .int .i64 (x.1.2.1 : Nat)], .string x.1.2.2, undef, undef, undef, undef, undef, undef, undef, undef, undef, undef, undef, undef, undef, undef, undef, undef, undef, undef, undef, undef, undef, undef, undef, undef, undef, undef, undef, undef, undef, undef], defers := [] } ∧ W.heap[B4]? = some (.cells #[.string ⟨#[]⟩, .int .i64 (x.1.1 : Nat), .int .i64 (x.1.2.1 : Nat)] 30 (0, 0)) ∧ w.heap.size + 3 ≤ B4 ∧ ∀ v, Boxed W w.heap.size 26 v → v.ownBlock ≠ some B4
theorem iS_own (w : World) (s : ByteArray) : OwnFrom (w.heap.size + 3) (IS w s) := fun pre W W' row hs hg hr => ⟨hs.1, by
  obtain ⟨v, h⟩ := hs.2
  exact ⟨v, h.keep hg hr⟩⟩
theorem iX_own (w : World) (s : ByteArray) (c : Code) : OwnFrom (w.heap.size + 3) (IX w s c) := fun pre W W' row hs hg hr => by
  obtain ⟨e, pre0, x, e1, e2, e3⟩ := hs
  exact ⟨e, pre0, x, e1, e2, iS_own w s pre0 W W' row e3 hg hr⟩
theorem aX_own (w : World) (s : ByteArray) (x : FrmO) (a' : Act) : OwnFrom (w.heap.size + 3) (fun (_ : Unit) W => AX w s x a' W) := fun _ W W' row hs hg hr => by
  obtain ⟨B4, e, h4, hB, hne⟩ := hs
  have hlt : B4 < W.heap.size := (Array.getElem?_eq_some_iff.1 h4).1
  refine ⟨B4, e, ?_, hB, fun v hv => hne v ?_⟩
  · rw [hg.block B4 hlt (fun e => by obtain ⟨o, ho, hc⟩ := (hr B4 e.symm).2; rw [h4] at ho; cases ho; cases hc)]
    exact h4
  · have : W'.heap[w.heap.size]? = W.heap[w.heap.size]? := hg.block _ (by omega) (fun e => by have := (hr _ e.symm).1; omega)
    unfold Boxed at hv ⊢
    rw [← this]; exact hv
def fEncO (x : FrmO) : Array Value := fEncF x.1
theorem fOpen_lenP (s : List UInt8) : (fOpen s).1.length ≤ s.length := by
  unfold fOpen
  split
  · simp
  · split
    · simp
    · split
      · simp
      · show (vTakeText s).1.length ≤ s.length
        unfold vTakeText
        split
        · simp
        · split
          · simp
          · split
            · simp
            · simp only [List.length_take, List.length_drop]; omega
set_option maxRecDepth 100000 in
set_option maxHeartbeats 2000000 in
theorem frames1_o (n : Nat) (hn : 1 ≤ n) (Bn : Nat) (s : ByteArray) (hs : s.size ≤ 1000000000) (w : World) (hBn : w.cell? ⟨Bn, 0, none⟩ = some (.string s)) (hlt : Bn < w.heap.size) :
    SeqStopsK Fence.wide n Try.prog 42 #[.pointer (some ⟨Bn, 0, none⟩)] fEncO (KpCell Bn (.string s)) (fun xs => vals xs = allF s.data.toList) (fun pre => ∃ rest, allF s.data.toList = vals pre ++ rest) (s.size + 1) w := fun l J Jx W hW hJ hJx hY h0 => by
  have hcW : W.cell? ⟨Bn, 0, none⟩ = some (.string s) := (hW.cell (p := ⟨Bn, 0, none⟩) (by simpa using hlt)).trans hBn
  have hlW : Bn < W.heap.size := Nat.lt_of_lt_of_le hlt hW.size
  refine callsIn_of_wp Try.func42 rfl trivial ?_ rfl
  simp only [Try.ntmps42, List.size_toArray, List.length_cons, List.length_nil, Nat.reduceAdd, Nat.reduceSub, Array.replicate_succ, Array.replicate_zero, List.push_toArray, List.append_toArray, List.nil_append, List.cons_append]
  gi_wp2
  gi_loopw [3] (fun i wr => ∃ (k m : Nat) (ds : List FrmO), (k ≤ s.size ∧ s.size ≤ k + m ∧ ds.length ≤ k) ∧ i = .int .i64 k ∧ Hid (allF s.data.toList = vals ds ++ fFrames m k s.data.toList) ∧ J ds wr ∧ wr.cell? ⟨Bn, 0, none⟩ = some (.string s) ∧ Bn < wr.heap.size) (fun i _ => s.size - (intOf i).toNat)
  case atStart => exact ⟨0, s.size, [], ⟨Nat.zero_le _, by omega, Nat.le_refl _⟩, rfl, by unfold Hid allF vals; simp, h0, hcW, hlW⟩
  case round =>
    obtain ⟨k, m, ds, ⟨hk, hm, hd⟩, rfl, HV, hJs, hcell, hsz⟩ := hrel
    have hlen : s.data.toList.length = s.size := by simp
    by_cases hks : k < s.size
    · obtain ⟨m, rfl⟩ : ∃ q, m = q + 1 := ⟨m - 1, by omega⟩
      have ho := open_any (s.extract k s.size) (by simp; omega)
      rw [extract_toP] at ho
      have hlT := fOpen_lenP (s.data.toList.drop k)
      rw [List.length_drop, hlen] at hlT
      obtain ⟨hle, hle2⟩ := fOpen_leP (s.data.toList.drop k)
      have HR : Hid (fFrames (m + 1) k s.data.toList = if (fOpen (s.data.toList.drop k)).2.2 ≠ 0 then [] else (k, (fOpen (s.data.toList.drop k)).2.1, ⟨(fOpen (s.data.toList.drop k)).1.toArray⟩) :: fFrames m (k + (fOpen (s.data.toList.drop k)).2.1) s.data.toList) := by
        unfold Hid; rw [fFrames, if_neg (by omega)]
      rw [List.length_drop, hlen] at hle
      generalize fOpen (s.data.toList.drop k) = r at *
      obtain ⟨t, n', e'⟩ := r
      dsimp only at *
      have HO := Lib.hid ho; clear ho hlen
      by_cases he : e' = 0
      · subst he
        obtain ⟨hn1, hn2⟩ := hle rfl
        have hok : okF (k, n', (⟨t.toArray⟩ : ByteArray)) := by
          refine ⟨?_, ?_⟩
          · show k + n' ≤ _; omega
          · show t.toArray.size ≤ _; rw [List.size_toArray]; omega
        obtain ⟨xo, hxo⟩ : ∃ xo : FrmO, xo = ⟨(k, n', (⟨t.toArray⟩ : ByteArray)), hok⟩ := ⟨_, rfl⟩
        have hxv : xo.1 = (k, n', (⟨t.toArray⟩ : ByteArray)) := by rw [hxo]
        have HE : Hid (allF s.data.toList = vals (ds ++ [xo]) ++ fFrames m (k + n') s.data.toList) := by
          unfold Hid; rw [HV.out, HR.out]; simp [vals, hxv]
        have HXV := Lib.hid hxv
        clear hxv hxo hle hle2 HR hok hlT
        gi_wp2_with fail
        refine ⟨trivial, (callsIn_wide.2 (HO.out _)).mono ?_⟩
        rintro e W1 ⟨rfl, b1⟩
        have hJ1 := hJ ds _ W1 none hJs (only_of_belowP b1 none) (fun r e => by cases e)
        have hc1 := (b1.cell (p := ⟨Bn, 0, none⟩) hsz).trans hcell
        have hz1 := Nat.lt_of_lt_of_le hsz b1.size
        obtain ⟨fn, tmps, assign, body, hy, hR⟩ := hY ds xo W1 hJ1 (by omega)
        unfold fEncO at hy
        rw [HXV.out] at hy
        dsimp only [fEncF] at hy
        have HRx := Lib.hid hR
        clear hR
        gi_wp2
        refine HRx.out.mono ?_
        rintro e W3 (⟨rfl, hJ3, hk3⟩ | ⟨rfl, hJx3⟩)
        · have hcell3 : W3.cell? ⟨Bn, 0, none⟩ = some (.string s) := hk3 hc1
          have hz3 : Bn < W3.heap.size := by
            refine Decidable.byContradiction fun hh => ?_
            simp [World.cell?, Array.getElem?_eq_none (Nat.le_of_not_lt hh)] at hcell3
          gi_wp2
          go_roundw
          case rel => exact ⟨k + n', m, _, ⟨by omega, by omega, by simp; omega⟩, by go_num, HE, hJ3, hcell3, hz3⟩
          case measure => simp [intOf]; omega
        · gi_wp2
          refine bodyPost_ret (results_none rfl _ _ _) rfl ?_
          exact ⟨⟨_, rfl⟩, .inr ⟨_, ⟨_, HE.out⟩, hJx3⟩⟩
      · have HE : Hid (allF s.data.toList = vals ds) := by unfold Hid; rw [HV.out, HR.out, if_pos he]; simp
        have he' : ((e' : Int) != 0) = true := by simp; omega
        obtain ⟨rfl, rfl⟩ := hle2 he
        clear hle HR hlT
        gi_wp2_with fail
        refine ⟨trivial, (callsIn_wide.2 (HO.out _)).mono ?_⟩
        rintro e W1 ⟨rfl, b1⟩
        have hJ1 := hJ ds _ W1 none hJs (only_of_belowP b1 none) (fun r e => by cases e)
        have hc1 := (b1.cell (p := ⟨Bn, 0, none⟩) hsz).trans hcell
        gi_wp2
        refine ⟨fun f h => (by cases h), ?_⟩
        gi_wp2
        refine bodyPost_ret (results_none rfl _ _ _) rfl ?_
        exact ⟨⟨_, rfl⟩, .inl ⟨_, HE.out.symm, hJ1⟩⟩
    · have HE : Hid (allF s.data.toList = vals ds) := by
        unfold Hid; rw [HV.out]
        cases m with
        | zero => simp [fFrames]
        | succ m => rw [fFrames, if_pos (by omega)]; simp
      gi_wp2
      go_end0
      exact ⟨⟨_, rfl⟩, .inl ⟨_, HE.out.symm, hJs⟩⟩
end Go.Proofs.Ytkbpkodakfknoaa
