/- LsmSums: what the law's walk asks of its variables, packed. -/
import Derived.Test.YteidlngffikboaaLsmCntP
import Derived.Test.YteidlngffikboaaLsmBytesQ
import Derived.Test.YteidlngffikboaaLsmSumW
import Derived.Test.YteidlngffikboaaLsmSame
import Derived.Test.YteidlngffikboaaLsmRead
import Derived.Deep.MidRow
namespace Go.Proofs.Yteidlngffikboaa
set_option linter.unusedVariables false
/-- behind j changes: the counts s, the table T -/
structure SumS (s : CntS) (T : List Int) (j : Nat) : Prop where
  fit : fitP s
  size : sizeS s ≤ j
  abs : ∀ q, absS s q ≤ 32768 * j
  tot : ∀ q, getL s.1 s.2 q = totT T q 256
  len : T.length = 256
  bd : ∀ x ∈ T, -(32768 * (j : Int)) ≤ x ∧ x ≤ 32768 * (j : Int)
theorem SumS.new : SumS ([], []) (List.replicate 256 0) 0 :=
  ⟨⟨okS_nil, Nat.zero_le _, Nat.zero_le _⟩, Nat.le_refl _, fun q => Nat.le_refl _, fun q => by rw [tot_zero]; rfl, List.length_replicate, fun x hx => by rw [(List.mem_replicate.1 hx).2]; simp⟩
theorem name_size (c : UInt8) : (nameB c).size = 32 := rfl
theorem SumS.put {s : CntS} {T : List Int} {j : Nat} (h : SumS s T j) (hj : j ≤ 150) (c : UInt8) (b : Int) (hb : -32768 ≤ b ∧ b ≤ 32767) :
    (putL s (nameB c) b).2 = 0 ∧ ∀ t, T[c.toNat]? = some t → SumS (putL s (nameB c) b).1 (T.set c.toNat (t + b)) (j + 1) := by
  have hc := c.toNat_lt
  have hl := h.len
  obtain ⟨h1, h2⟩ := put_get h.fit (by have := h.size; omega) (name_size c) hb (fun q => by have := h.abs q; omega)
  obtain ⟨h3, h4⟩ := put_fit h.fit (nameB c) b
  refine ⟨h1, fun t ht => ⟨h3, by have := h.size; omega, fun q => by have := (h2 q).2; have := h.abs q; omega, fun q => ?_, by rw [List.length_set]; exact hl, fun x hx => ?_⟩⟩
  · rw [(h2 q).1, h.tot q]
    have hp := tot_put hl c b q
    have hlt : c.toNat < T.length := by omega
    have ht2 : T[c.toNat] = t := Option.some.inj ((List.getElem?_eq_getElem hlt).symm.trans ht)
    rw [ht2] at hp
    generalize totT (T.set c.toNat (t + b)) q 256 = A at *
    generalize totT T q 256 = B at *
    exact hp.symm
  · rcases List.mem_or_eq_of_mem_set hx with hx | rfl
    · have := h.bd x hx; omega
    · have := h.bd t (List.mem_of_getElem? ht); omega
theorem SumS.flush {s : CntS} {T : List Int} {j : Nat} (h : SumS s T j) (hj : j ≤ 151) : SumS (flushL s) T j := by
  obtain ⟨h1, h2⟩ := flush_fit h.fit
  have hg := fun q => flush_get h.fit.1 q (by have := h.abs q; omega)
  exact ⟨h1, Nat.le_trans h2 h.size, fun q => Nat.le_trans (hg q).2 (h.abs q), fun q => (hg q).1.trans (h.tot q), h.len, h.bd⟩
theorem SumS.pack {s : CntS} {T : List Int} {j : Nat} (h : SumS s T j) : SumS (packL s) T j := by
  obtain ⟨h1, h2⟩ := pack_fit h.fit
  have hg := fun q => pack_get h.fit.1 q
  exact ⟨h1, Nat.le_trans h2 h.size, fun q => Nat.le_trans (hg q).2 (h.abs q), fun q => (hg q).1.trans (h.tot q), h.len, h.bd⟩
theorem SumS.read {s : CntS} {T : List Int} {j : Nat} (h : SumS s T j) (hj : j ≤ 151) : fitB s = true ∧ readL (writeL s) = some s := by
  have hs := h.size
  have hf := fitB_of h.fit (by omega)
  exact ⟨hf, readL_there hf (by omega)⟩
theorem SumS.alls {s : CntS} {T : List Int} {j : Nat} (h : SumS s T j) (hj : j ≤ 151) : allL (packL s) = allL s ∧ allL (flushL s) = allL s ∧ (∀ k, inL (allL s) k = totT T k 256) ∧ (allL s).length = cntN (fun k => totT T k 256) 256 := by
  have hk : ∀ k, inL (allL s) k = totT T k 256 := fun k => by rw [all_in h.fit.1, h.tot]
  refine ⟨all_ext h.pack.fit.1 h.fit.1 fun k => ?_, all_ext (h.flush hj).fit.1 h.fit.1 fun k => ?_, hk, all_count (all_ris s) (all_nz s) hk⟩
  · rw [h.pack.tot, h.tot]
  · rw [(h.flush hj).tot, h.tot]
end Go.Proofs.Yteidlngffikboaa

/- Here ends the text LsmSumS; here begins LsmSumK. -/
namespace Go.Proofs.Yteidlngffikboaa
open Go.RowKit
set_option linter.unusedVariables false
theorem yieldsIf_loadAt {P : Program} {ops : Array Oper} {S : World → Prop} {op : Oper} {a : Act} (hw : Region.wanted op (yielded ops a.tmps) = true) (ty : TypeId) (x : Operand) (ho : op.op = .load ty x)
    (p v : Value) (hx : a.eval x = p) (hS : ∀ w, S w → (Instr.loadAt ty p).run P w = .ok v w) : YieldsIf P ops S op v a :=
  .inl ⟨hw, fun w hw' => by
    unfold execOp
    simp only [ho, hx, Sem.run_bind, hS w hw', Result.andThen_ok, Sem.run_pure]⟩
/-- the counts and the table of the law -/
structure LT (w : World) (vm vr : Value) (s : CntS) (T : List Int) (W : World) : Prop where
  box : BoxL w w.heap.size vm vr s W
  tab : TabB (w.heap.size + 1) T W
section
variable {w W W' : World} {vm vr : Value} {s s' : CntS} {T : List Int} {j : Nat}
theorem LT.below (h : LT w vm vr s T W) (hb : Below W.heap.size W W') : LT w vm vr s T W' := ⟨h.box.below hb, h.tab.below hb⟩
theorem LT.low (h : LT w vm vr s T W) : Below w.heap.size w W := h.box.low
theorem agg2 {a b c d : Value} (e : LsmV a b = LsmV c d) : a = c ∧ b = d := by
  unfold LsmV at e; injection e with e; injection e with e; injection e with e1 e; injection e with e2; exact ⟨e1, e2⟩
theorem LT.store {v' : Value} (h : LT w vm vr s T W) (hb : Below W.heap.size W W') (hr : LsmN W' v' s') (hf : FreshS W.heap.size (LsmV vm vr) v') {vm' vr' : Value} (hv : v' = LsmV vm' vr') :
    LT w vm' vr' s' T ((W'.setCell ⟨w.heap.size, 0, none⟩ vm').setCell ⟨w.heap.size, 1, none⟩ vr') := by
  obtain ⟨a, b, e, hB⟩ := h.box.store hb hr hf
  obtain ⟨rfl, rfl⟩ := agg2 (hv.symm.trans e)
  exact ⟨hB, (h.tab.below hb).kept (set2_keep _ _ _ _ _ (by omega))⟩
theorem LT.put (h : LT w vm vr s T W) (i : Nat) (v : Int) : LT w vm vr s (T.set i v) (W.setCell ⟨w.heap.size + 1, i, none⟩ (.int .i64 v)) := by
  obtain ⟨h1, h2⟩ := h.box.tab h.tab (by omega) (by omega) i v
  exact ⟨h1, h2⟩
theorem LT.new (w : World) : LT w (.slice none 0 0) (.slice none 0 0) ([], []) (List.replicate 256 0) ((w.alloc (.cells #[.slice none 0 0, .slice none 0 0] 25)).alloc (.cells (tabV (List.replicate 256 0)) 44)) := by
  refine ⟨(boxL_new w w (Below.refl _ _)).below ((Below.refl _ _).alloc (Nat.le_refl _) _), ?_⟩
  have h := World.alloc_heap_new (w.alloc (.cells #[.slice none 0 0, .slice none 0 0] 25)) (.cells (tabV (List.replicate 256 0)) 44)
  rwa [World.size_alloc] at h
theorem LT.c0 (h : LT w vm vr s T W) : W.cell? ⟨w.heap.size, 0, none⟩ = some vm := h.box.c0
theorem LT.c1 (h : LT w vm vr s T W) : W.cell? ⟨w.heap.size, 1, none⟩ = some vr := h.box.c1
theorem LT.f0 (h : LT w vm vr s T W) : W.frozen? ⟨w.heap.size, 0, none⟩ = false := h.box.f 0
theorem LT.f1 (h : LT w vm vr s T W) : W.frozen? ⟨w.heap.size, 1, none⟩ = false := h.box.f 1
theorem tabS_bd (S : SumS s T j) (hj : j ≤ 151) : ∀ x ∈ T, -1000000000 ≤ x ∧ x ≤ 1000000000 := fun x hx => by have := S.bd x hx; omega
theorem LT.get (h : LT w vm vr s T W) (S : SumS s T j) (hj : j ≤ 151) (k : ByteArray) : Calls Try.prog 22 #[.agg #[vm, vr], .string k] W fun e w' => e = .returned (.int .i64 (totT T k 256)) ∧ Below W.heap.size W w' := by
  have hv := h.box.rows.vals
  have hs := S.size
  have hf := S.fit
  have e := pGet_any W vm vr s.1 s.2 k hv.1 hv.2 (fun r hr => by rcases List.mem_cons.1 hr with rfl | hr; exact hf.1.1; exact (hf.1.2.1 r hr).2) (by unfold sizeS at hs; omega) (by have := hf.2.2; omega)
  rw [S.tot] at e
  exact e
theorem tot_call (W : World) (S : SumS s T j) (hj : j ≤ 151) (k : ByteArray) : Calls Try.prog 28 #[.agg (tabV T), .string k] W fun e w' => e = .returned (.int .i64 (totT T k 256)) ∧ Below W.heap.size W w' :=
  total_any W T S.len k (tabS_bd S hj)
theorem LT.fit (h : LT w vm vr s T W) (S : SumS s T j) (hj : j ≤ 151) : Calls Try.prog 14 #[.agg #[vm, vr]] W fun e w' => e = .returned (.bool true) ∧ Below W.heap.size W w' := by
  have hs := S.size
  have e := rfit2_any W _ s h.box.rows (by omega) (by have := S.fit.2.2; omega)
  rw [(S.read hj).1] at e
  exact e
theorem LT.put_call (h : LT w vm vr s T W) (S : SumS s T j) (hj : j ≤ 150) (c : UInt8) (b : Int) (hb : -32768 ≤ b ∧ b ≤ 32767) : Calls Try.prog 16 #[.agg #[vm, vr], .string (nameB c), .int .i64 b] W fun e w' => ∃ A1 n1 c1 A2 n2 c2, e = .returned (.tuple #[.agg #[.slice A1 n1 c1, .slice A2 n2 c2], .int .i64 0]) ∧ LsmN w' (LsmV (.slice A1 n1 c1) (.slice A2 n2 c2)) (putL s (nameB c) b).1 ∧ Below W.heap.size W w' ∧ FreshS W.heap.size (LsmV vm vr) (LsmV (.slice A1 n1 c1) (.slice A2 n2 c2)) := by
  have hs := S.size
  refine (pput_any W _ s (nameB c) b h.box.rows S.fit.1 (by omega) (by have := S.fit.2.2; omega) (by omega) (by rw [name_size]; omega)).mono ?_
  rintro e w' ⟨v', rfl, h1, h2, h3⟩
  obtain ⟨A1, c1, A2, c2, rfl⟩ := h1.shapes
  rw [(S.put hj c b hb).1]
  exact ⟨_, _, _, _, _, _, rfl, h1, h2, h3⟩
theorem LT.flush_call (h : LT w vm vr s T W) (S : SumS s T j) (hj : j ≤ 151) : Calls Try.prog 18 #[.agg #[vm, vr]] W fun e w' => ∃ A1 n1 c1 A2 n2 c2, e = .returned (.agg #[.slice A1 n1 c1, .slice A2 n2 c2]) ∧ LsmN w' (LsmV (.slice A1 n1 c1) (.slice A2 n2 c2)) (flushL s) ∧ Below W.heap.size W w' ∧ FreshS W.heap.size (LsmV vm vr) (LsmV (.slice A1 n1 c1) (.slice A2 n2 c2)) := by
  have hs := S.size
  refine (pflush_any W _ s h.box.rows S.fit.1 (by omega) (by have := S.fit.2.2; omega)).mono ?_
  rintro e w' ⟨v', rfl, h1, h2, h3⟩
  obtain ⟨A1, c1, A2, c2, rfl⟩ := h1.shapes
  exact ⟨_, _, _, _, _, _, rfl, h1, h2, h3⟩
theorem LT.pack_call (h : LT w vm vr s T W) (S : SumS s T j) (hj : j ≤ 151) : Calls Try.prog 19 #[.agg #[vm, vr]] W fun e w' => ∃ A1 n1 c1 A2 n2 c2, e = .returned (.agg #[.slice A1 n1 c1, .slice A2 n2 c2]) ∧ LsmN w' (LsmV (.slice A1 n1 c1) (.slice A2 n2 c2)) (packL s) ∧ Below W.heap.size W w' ∧ FreshS W.heap.size (LsmV vm vr) (LsmV (.slice A1 n1 c1) (.slice A2 n2 c2)) := by
  have hs := S.size
  refine (ppack_any W _ s h.box.rows S.fit.1 (by omega) (by have := S.fit.2.2; omega)).mono ?_
  rintro e w' ⟨v', rfl, h1, h2, h3⟩
  obtain ⟨A1, c1, A2, c2, rfl⟩ := h1.shapes
  exact ⟨_, _, _, _, _, _, rfl, h1, h2, h3⟩
theorem LT.write_call (h : LT w vm vr s T W) (S : SumS s T j) (hj : j ≤ 151) : Calls Try.prog 10 #[.agg #[vm, vr]] W fun e w' => e = .returned (.string (Bs (writeL s))) ∧ Below W.heap.size W w' := by
  have hs := S.size
  exact pwrite_any W _ s h.box.rows (by omega) (by have := S.fit.2.2; omega)
theorem LT.read_call (W0 : World) (h : LT w vm vr s T W0) (hW : W0.heap.size ≤ W.heap.size) (S : SumS s T j) (hj : j ≤ 151) : Calls Try.prog 8 #[.string (Bs (writeL s))] W fun e w' => ∃ A1 n1 c1 A2 n2 c2, e = .returned (.tuple #[.agg #[.slice A1 n1 c1, .slice A2 n2 c2], .int .i64 0]) ∧ LsmN w' (LsmV (.slice A1 n1 c1) (.slice A2 n2 c2)) s ∧ Below W.heap.size W w' ∧ FreshS W0.heap.size (LsmV vm vr) (LsmV (.slice A1 n1 c1) (.slice A2 n2 c2)) := by
  have hs := S.size
  obtain ⟨hft, hrd⟩ := S.read hj
  have HTT : (Bs (writeL s)).size ≤ 1000000 ∧ ∀ x, formL (Bs (writeL s)).data.toList = some x → sizeS x ≤ 1500 ∧ x.2.length ≤ 1000 := by
    rw [bs_size, bs_list]
    have e : writeL s = bytesS s := by unfold writeL; rw [if_pos hft]
    have ok := (fitB_ok (by omega)).1 hft
    have hfo := formL_there ok.1 (by omega)
    have hrf := rows_fit ok.1 (by omega)
    have hbl : (bytesS s).length ≤ 70000 * (s.1 :: s.2).length := by
      have := outC_len (s.1 :: s.2) (fun r h => (wrapT_len (hrf r h).1 (hrf r h).2).1) (s.1 :: s.2).length
      unfold outC at this
      rwa [List.take_length] at this
    rw [List.length_cons] at hbl
    rw [e]
    refine ⟨by have := ok.2.2; omega, fun x hx => ?_⟩
    rw [hfo] at hx
    cases hx
    exact ⟨by omega, by have := ok.2.2; omega⟩
  refine (pread_any W (Bs (writeL s)) HTT.1 HTT.2).mono ?_
  rw [bs_list, hrd, Option.isSome_some, if_pos rfl, Option.getD_some]
  rintro e w' ⟨vm', vr', rfl, h1, h2, h3⟩
  obtain ⟨A1, c1, A2, c2, e⟩ := h1.shapes
  obtain ⟨rfl, rfl⟩ := agg2 e
  exact ⟨_, _, _, _, _, _, rfl, h1, h3, _, _, _, _, rfl, rfl, .inr (h2.mono hW)⟩
theorem all_callN (h : LsmN W (LsmV vm vr) s) (S : SumS s T j) (hj : j ≤ 151) : Calls Try.prog 25 #[.agg #[vm, vr]] W fun e w' => ∃ A c, e = .returned (.slice A (allL s).length c) ∧ CntN w' (.slice A (allL s).length c) (allL s) ∧ Below W.heap.size W w' := by
  have hs := S.size
  refine (pAll_any W _ s h S.fit.1 (by omega) (by have := S.fit.2.2; omega)).mono ?_
  rintro e w' ⟨v', rfl, h1, h2⟩
  obtain ⟨A, c, rfl, z⟩ := h1.1.shape
  exact ⟨A, c, rfl, h1, h2⟩
theorem same_call {va vb : Value} {la : List Cnt} (ha : CntN W va la) (hb : CntN W vb la) : Calls Try.prog 24 #[va, vb] W fun e w' => e = .returned (.bool true) ∧ Below W.heap.size W w' := by
  have h := samerow_any W va vb la la ha.1 hb.1
  rwa [show rowE la la = true by simp [rowE]] at h
end
/-- the first j names are none of the i-th -/
def firstJ (i j : Nat) : Bool := decide (∀ j', j' < j → nameB (UInt8.ofNat j') ≠ nameB (UInt8.ofNat i))
theorem firstJ_succ (i j : Nat) : firstJ i (j + 1) = (firstJ i j && decide (nameB (UInt8.ofNat j) ≠ nameB (UInt8.ofNat i))) := by
  unfold firstJ
  rw [← Bool.decide_and]
  refine decide_eq_decide.2 ⟨fun h => ⟨fun j' hj => h j' (by omega), h j (by omega)⟩, ?_⟩
  rintro ⟨h1, h2⟩ j' hj
  by_cases e : j' = j
  · rw [e]; exact h2
  · exact h1 j' (by omega)
theorem cntN_le (g : ByteArray → Int) : ∀ i : Nat, cntN g i ≤ i
  | 0 => Nat.le_refl _
  | i + 1 => by
    have := cntN_le g i
    rw [cntN]
    split <;> omega
/-- a change in its own block -/
def ChgX (C : Nat) (x : Chg) (W : World) : Prop := W.heap[C]? = some (.cells #[.int .u8 x.1.toNat, .int .i16 x.2.1, .int .u8 x.2.2.toNat] 47)
section
variable {C : Nat} {x : Chg} {W W' : World}
theorem ChgX.lt (h : ChgX C x W) : C < W.heap.size := (Array.getElem?_eq_some_iff.1 h).1
theorem ChgX.below (h : ChgX C x W) (hb : Below W.heap.size W W') : ChgX C x W' := (hb.block _ h.lt).trans h
theorem ChgX.c0 (h : ChgX C x W) : W.cell? ⟨C, 0, none⟩ = some (.int .u8 x.1.toNat) := by unfold World.cell?; rw [show W.heap[C]? = _ from h]; rfl
theorem ChgX.c1 (h : ChgX C x W) : W.cell? ⟨C, 1, none⟩ = some (.int .i16 x.2.1) := by unfold World.cell?; rw [show W.heap[C]? = _ from h]; rfl
theorem ChgX.c2 (h : ChgX C x W) : W.cell? ⟨C, 2, none⟩ = some (.int .u8 x.2.2.toNat) := by unfold World.cell?; rw [show W.heap[C]? = _ from h]; rfl
theorem ChgX.kept (h : ChgX C x W) (hb : W'.heap[C]? = W.heap[C]?) : ChgX C x W' := hb.trans h
theorem ChgX.new (W : World) (x : Chg) : ChgX W.heap.size x (W.alloc (.cells #[.int .u8 x.1.toNat, .int .i16 x.2.1, .int .u8 x.2.2.toNat] 47)) := World.alloc_heap_new W _
end
theorem ChgB.below {w w' : World} {v : Value} {l : List Chg} (h : ChgB w v l) (hb : Below w.heap.size w w') : ChgB w' v l := by
  obtain ⟨A, c, e, h1, h2, h3⟩ := h
  refine ⟨A, c, e, h1, h2, fun hl => ?_⟩
  obtain ⟨b, off, e1, e2, e3⟩ := h3 hl
  exact ⟨b, off, e1, Nat.lt_of_lt_of_le e2 hb.size, fun i hi => ⟨(World.cell?_of_block (hb.block b e2)).trans (e3 i hi).1, (World.cell?_of_block (hb.block b e2)).trans (e3 i hi).2.1, (World.cell?_of_block (hb.block b e2)).trans (e3 i hi).2.2⟩⟩
end Go.Proofs.Yteidlngffikboaa
