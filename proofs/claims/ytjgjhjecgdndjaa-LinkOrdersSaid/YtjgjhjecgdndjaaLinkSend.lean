/- An end at its beginning; a message of one byte sent. -/
import Derived.Test.YtjgjhjecgdndjaaLinkRead
import Derived.Lib.BufferMore
import Derived.Maps.AppendAt
namespace Go.Proofs.Ytjgjhjecgdndjaa
open Go.RowKit
set_option linter.unusedVariables false
set_option linter.unusedSimpArgs false
theorem bodyPost_cell1 {P : Program} {fn : Func} {R : Ending → World → Prop} {a : Act} {w : World} {V : Value} {a1 : Tmp} {t1 : TypeId} {ad : Addr} (h : fn.results = #[.cell a1 t1]) (hp : a.tmps.getD a1 undef = .pointer (some ad)) (hl : (loadVar t1 ad).run P w = .ok V w) (hd : a.defers = [])
    (hR : R (.returned V) w) : bodyPost P fn R .ret a w :=
  ⟨hd, _, by simp only [results, h, List.mapM_toArray, List.mapM_cons, List.mapM_nil, hp, asAddr]; simp [hl], hR⟩
def End8 (ses : Int) (base : Int) (out wait : Value) (next : Int) (early : Value) (idle : Int) (dead : Bool) : Value := .agg #[.int .u64 ses, .int .i64 base, out, wait, .int .i64 next, early, .int .i64 idle, .bool dead]
set_option maxRecDepth 20000 in
set_option maxHeartbeats 1000000 in
theorem lopen_any (ses : UInt64) (w : World) : Calls Try.prog 11 #[.int .u64 ses.toNat] w fun e w' => e = .returned (End8 ses.toNat 0 (.slice none 0 0) (.slice none 0 0) 0 (.slice none 0 0) 0 false) ∧ Below w.heap.size w w' := by
  unfold End8
  go_enter Try.func11, Try.ntmps11
  go_wp2_with fail
  (try simp only [Exit.inBlock, Exit.then])
  refine bodyPost_cell1 (V := .agg #[.int .u64 ses.toNat, .int .i64 0, .slice none 0 0, .slice none 0 0, .int .i64 0, .slice none 0 0, .int .i64 0, .bool false]) rfl rfl ?_ rfl ?_
  · go_simp
  · refine ⟨rfl, ?_⟩
    exact (Below.refl _ _).alloc (Nat.le_refl _) _
set_option maxRecDepth 20000 in
set_option maxHeartbeats 1000000 in
theorem badText_a (s : ByteArray) (h0 : s ≠ ⟨#[]⟩) (h1 : s.size ≤ 60000) (w : World) : Calls Try.prog 29 #[.string s] w fun e w' => e = .returned (.bool false) ∧ w = w' := by
  have he : (s.toList == (⟨#[]⟩ : ByteArray).toList) = false := by
    rw [beq_eq_false_iff_ne, ByteArray.toList_eq, ByteArray.toList_eq]
    intro e; exact h0 (ByteArray.ext (Array.toList_inj.1 e))
  have hd : decide ((60000 : Int) < (s.size : Int)) = false := by simp; omega
  have he2 : ¬ s.toList = [] := by
    intro e
    rw [ByteArray.toList_eq] at e
    exact h0 (ByteArray.ext (Array.toList_inj.1 e))
  have he3 : s.toList.isEmpty = false := by simpa using he2
  have he4 : (s.toList == []) = false := by simpa using he2
  clear h1
  go_enter Try.func29, Try.ntmps29
  go_wp2
  go_ret
  exact ⟨rfl, rfl⟩
set_option maxRecDepth 20000 in
set_option maxHeartbeats 1000000 in
theorem cloneS_nil (w : World) : Calls Try.prog 30 #[.slice none 0 0] w fun e w' => e = .returned (.slice none 0 0) ∧ w = w' := by
  have hnil : ∀ W, (binOp .eql 33 (.slice none 0 0) (.slice none 0 0)).run Try.prog W = .ok (.bool true) W := fun W => Lib.run_eql_slice_nil_nil W _ _ Try.underlying33
  go_enter Try.func30, Try.ntmps30
  go_wp2_with fail
  go_ret
  exact ⟨rfl, rfl⟩
theorem strInfoL : (Try.prog.info? 9).map (fun i => (i.zero, i.size, i.bytes)) = some (some (.string ByteArray.empty), 1, 16) := by kernel_rfl
/-- one text -/
def Str1 (w : World) (v : Value) (s : ByteArray) : Prop := ∃ g c, v = .slice (some ⟨g, 0, none⟩) 1 c ∧ 1 ≤ c ∧ c ≤ maxLen ∧ g < w.heap.size ∧ w.cell? ⟨g, 0, none⟩ = some (.string s)
theorem Str1.below {w w' : World} {v : Value} {s : ByteArray} {B : Nat} (h : Str1 w v s) (b : Below B w w') (hB : w.heap.size ≤ B) : Str1 w' v s := by
  obtain ⟨g, c, h1, h2, h3, h4, h5⟩ := h
  exact ⟨g, c, h1, h2, h3, Nat.lt_of_lt_of_le h4 b.size, (b.cell (p := ⟨g, 0, none⟩) (Nat.lt_of_lt_of_le h4 hB)).trans h5⟩
theorem wpList_push_s {w : World} {ops : Array Oper} {rest : List Oper} {o : Oper} {a : Act} {Q : Exit → Act → World → Prop} (hgd : o.guard = none) (s x : Operand)
    (ho : o.op = .call { callee := .builtin .append, args := #[s, x], argTypes := #[33, 33] }) (hs : a.eval s = .slice none 0 0) (g c : Nat) (y : ByteArray) (hx : a.eval x = .slice (some ⟨g, 0, none⟩) 1 c) (hc : w.cell? ⟨g, 0, none⟩ = some (.string y))
    (h : ∀ v' w', Str1 w' v' y → w.grownBy w' none → (∀ g c, v' = .slice (some ⟨g, 0, none⟩) 1 c → w.heap.size ≤ g) → wpList Try.prog ops Q rest (a.put o.dst v') w') : wpList Try.prog ops Q (o :: rest) a w := by
  obtain ⟨i0, hi, hz0, hz1, hz2⟩ := info_parts strInfoL
  refine wpList_append_own_at w hgd s x 33 ho w.heap.size 9 i0 (.string ByteArray.empty) 1 16 Try.underlying33 hi hz0 hz1 hz2 rfl (by decide) (.slice none 0 0) 0 [] hs (World.ownsRow_nil _ _ _ _) ⟨g, 0, none⟩ 1 c [.string y] hx rfl ?_ ?_ (by unfold maxLen; omega) (by omega) (Nat.le_refl _) ?_
  · intro j u' hj
    match j, hj with
    | 0, hj => simp at hj; subst hj; simpa [Addr.add] using hc
  · intro u' hu'
    simp at hu'; subst hu'; rfl
  · intro v' w' h1 h2 _ _
    rcases h1.2 with ⟨_, h3⟩ | ⟨g', cap, cur, hv, hb, hg, hn, hm, hcc, ht⟩
    · omega
    · subst hv
      have e0 := h1.cells (g := g') rfl 0 (.string y) rfl
      exact h _ w' ⟨g', cap, by simp, by simpa using hn, hm, (Array.getElem?_eq_some_iff.1 hg).1, by simpa [Addr.add] using e0⟩ h2 (fun g2 c2 e => by cases e; exact hb)
/-- a block with these eight cells, not frozen -/
structure Box8 (b : Nat) (x0 x1 x2 x3 x4 x5 x6 x7 : Value) (w : World) : Prop where
  c0 : w.cell? ⟨b, 0, none⟩ = some x0
  c1 : w.cell? ⟨b, 1, none⟩ = some x1
  c2 : w.cell? ⟨b, 2, none⟩ = some x2
  c3 : w.cell? ⟨b, 3, none⟩ = some x3
  c4 : w.cell? ⟨b, 4, none⟩ = some x4
  c5 : w.cell? ⟨b, 5, none⟩ = some x5
  c6 : w.cell? ⟨b, 6, none⟩ = some x6
  c7 : w.cell? ⟨b, 7, none⟩ = some x7
  f : ∀ j, w.frozen? ⟨b, j, none⟩ = false
  lt : b < w.heap.size
theorem Box8.below {b B : Nat} {x0 x1 x2 x3 x4 x5 x6 x7 : Value} {w w' : World} (h : Box8 b x0 x1 x2 x3 x4 x5 x6 x7 w) (hb : Below B w w') (hB : b < B) : Box8 b x0 x1 x2 x3 x4 x5 x6 x7 w' :=
  ⟨(hb.cell (p := ⟨b, 0, none⟩) hB).trans h.c0, (hb.cell (p := ⟨b, 1, none⟩) hB).trans h.c1, (hb.cell (p := ⟨b, 2, none⟩) hB).trans h.c2, (hb.cell (p := ⟨b, 3, none⟩) hB).trans h.c3, (hb.cell (p := ⟨b, 4, none⟩) hB).trans h.c4, (hb.cell (p := ⟨b, 5, none⟩) hB).trans h.c5, (hb.cell (p := ⟨b, 6, none⟩) hB).trans h.c6, (hb.cell (p := ⟨b, 7, none⟩) hB).trans h.c7, fun j => (hb.frozen (p := ⟨b, j, none⟩) hB).trans (h.f j), Nat.lt_of_lt_of_le h.lt hb.size⟩
theorem cells8 {w : World} {b : Nat} {x0 x1 x2 x3 x4 x5 x6 x7 : Value} {t : TypeId} (h : w.heap[b]? = some (.cells #[x0, x1, x2, x3, x4, x5, x6, x7] t)) : Box8 b x0 x1 x2 x3 x4 x5 x6 x7 w := by
  refine ⟨?_, ?_, ?_, ?_, ?_, ?_, ?_, ?_, fun j => frozen_of_row w _ j _ _ h, (Array.getElem?_eq_some_iff.1 h).1⟩ <;> (unfold World.cell?; simp [h])
theorem below_set8 {B : Nat} {w w' : World} {b : Nat} (h : Below B w w') (hB : B ≤ b) (x0 x1 x2 x3 x4 x5 x6 x7 : Value) : Below B w ((((((((w'.setCell ⟨b, 0, none⟩ x0).setCell ⟨b, 1, none⟩ x1).setCell ⟨b, 2, none⟩ x2).setCell ⟨b, 3, none⟩ x3).setCell ⟨b, 4, none⟩ x4).setCell ⟨b, 5, none⟩ x5).setCell ⟨b, 6, none⟩ x6).setCell ⟨b, 7, none⟩ x7) :=
  (((((((h.setCell (p := ⟨b, 0, none⟩) hB _).setCell (p := ⟨b, 1, none⟩) hB _).setCell (p := ⟨b, 2, none⟩) hB _).setCell (p := ⟨b, 3, none⟩) hB _).setCell (p := ⟨b, 4, none⟩) hB _).setCell (p := ⟨b, 5, none⟩) hB _).setCell (p := ⟨b, 6, none⟩) hB _).setCell (p := ⟨b, 7, none⟩) hB _
theorem Str1.set_other {w : World} {g c n j b : Nat} {u : Value} {s : ByteArray} (h : Str1 w (.slice (some ⟨g, 0, none⟩) n c) s) (hne : b ≠ g) : Str1 (w.setCell ⟨b, j, none⟩ u) (.slice (some ⟨g, 0, none⟩) n c) s := by
  obtain ⟨g', c', e, h2, h3, h4, h5⟩ := h
  cases e
  exact ⟨g, c, rfl, h2, h3, by rw [World.size_setCell]; exact h4, (World.cell?_setCell_other _ _ _ _ (by intro e; injection e with e _; exact hne e)).trans h5⟩
set_option maxRecDepth 20000 in
set_option maxHeartbeats 2000000 in
theorem send_first (ses : UInt64) (s : ByteArray) (h0 : s ≠ ⟨#[]⟩) (h1 : s.size ≤ 60000) (w : World) :
    Calls Try.prog 12 #[End8 ses.toNat 0 (.slice none 0 0) (.slice none 0 0) 0 (.slice none 0 0) 0 false, .string s] w fun e w' => ∃ v', e = .returned (.tuple #[End8 ses.toNat 0 (.slice none 0 0) v' 0 (.slice none 0 0) 0 false, .int .i64 0]) ∧ Str1 w' v' s ∧ Below w.heap.size w w' := by
  have HBT := Lib.hid (badText_a s h0 h1)
  have HCL := Lib.hid cloneS_nil
  clear h0 h1
  unfold End8
  go_enter Try.func12, Try.ntmps12
  go_wp2_with fail
  refine (HBT.out _).mono ?_
  rintro e w' ⟨rfl, rfl⟩
  go_wp2_with fail
  refine (HCL.out _).mono ?_
  rintro e w' ⟨rfl, rfl⟩
  have q1 := heap_alloc_new w (.cells #[.int .u64 ses.toNat, .int .i64 0, .slice none 0 0, .slice none 0 0, .int .i64 0, .slice none 0 0, .int .i64 0, .bool false] 37)
  have q2 := heap_alloc_new (w.alloc (.cells #[.int .u64 ses.toNat, .int .i64 0, .slice none 0 0, .slice none 0 0, .int .i64 0, .slice none 0 0, .int .i64 0, .bool false] 37)) (.cells #[.int .u64 0, .int .i64 0, .slice none 0 0, .slice none 0 0, .int .i64 0, .slice none 0 0, .int .i64 0, .bool false] 37)
  rw [← heap_alloc_old _ (.cells #[.int .u64 0, .int .i64 0, .slice none 0 0, .slice none 0 0, .int .i64 0, .slice none 0 0, .int .i64 0, .bool false] 37) (by simp)] at q1
  have hbx : Below w.heap.size w ((w.alloc (.cells #[.int .u64 ses.toNat, .int .i64 0, .slice none 0 0, .slice none 0 0, .int .i64 0, .slice none 0 0, .int .i64 0, .bool false] 37)).alloc (.cells #[.int .u64 0, .int .i64 0, .slice none 0 0, .slice none 0 0, .int .i64 0, .slice none 0 0, .int .i64 0, .bool false] 37)) := ((Below.refl _ _).alloc (Nat.le_refl _) _).alloc (by simp) _
  have hsz : ((w.alloc (.cells #[.int .u64 ses.toNat, .int .i64 0, .slice none 0 0, .slice none 0 0, .int .i64 0, .slice none 0 0, .int .i64 0, .bool false] 37)).alloc (.cells #[.int .u64 0, .int .i64 0, .slice none 0 0, .slice none 0 0, .int .i64 0, .slice none 0 0, .int .i64 0, .bool false] 37)).heap.size = w.heap.size + 2 := by simp
  rw [World.size_alloc] at q2
  have HX1 := Lib.hid (cells8 q1)
  have HX2 := Lib.hid (cells8 q2)
  obtain ⟨wq, hwq⟩ : ∃ wq, wq = (w.alloc (.cells #[.int .u64 ses.toNat, .int .i64 0, .slice none 0 0, .slice none 0 0, .int .i64 0, .slice none 0 0, .int .i64 0, .bool false] 37)).alloc (.cells #[.int .u64 0, .int .i64 0, .slice none 0 0, .slice none 0 0, .int .i64 0, .slice none 0 0, .int .i64 0, .bool false] 37) := ⟨_, rfl⟩
  rw [← hwq] at HX1 HX2 hbx hsz
  rw [← hwq]
  have HSZ := Lib.hid hsz
  have HBX := Lib.hid hbx
  clear q1 q2 hwq hsz hbx HBT HCL
  go_wp2_with (at_builtin; refine wpList_push_s rfl _ _ rfl rfl wq.heap.size 1 s rfl (by simp) ?_)
  intro v' w2 hv hg hgb
  have hb2 : Below wq.heap.size wq w2 := ((Below.refl _ _).alloc (Nat.le_refl _) _).grown hg (by simp) (fun k hk => by cases hk)
  have HV := Lib.hid hv
  obtain ⟨gv, cv, hve, _, _, _, _⟩ := hv
  subst hve
  have hgv : wq.heap.size + 1 ≤ gv := by have := hgb _ _ rfl; (try simp at this); omega
  have k1 : w.heap.size ≠ gv := by have := HSZ.out; omega
  have k2 : w.heap.size + 1 ≠ gv := by have := HSZ.out; omega
  have HB2 := Lib.hid (HBX.out.trans (hb2.mono HBX.out.size))
  obtain ⟨a0, a1, a2, a3, a4, a5, a6, a7, af, alt⟩ := HX1.out.below hb2 HX1.out.lt
  obtain ⟨d0, d1, d2, d3, d4, d5, d6, d7, df, dlt⟩ := HX2.out.below hb2 HX2.out.lt
  have af3 := af 3
  have df0 := df 0
  have df1 := df 1
  have df2 := df 2
  have df3 := df 3
  have df4 := df 4
  have df5 := df 5
  have df6 := df 6
  have df7 := df 7
  clear af df hg hgb hb2 HX1 HX2 HBX HSZ hgv
  go_wp2_with fail
  (try simp only [Exit.inBlock, Exit.then])
  refine bodyPost_cell (V := .agg #[.int .u64 ses.toNat, .int .i64 0, .slice none 0 0, .slice (some ⟨gv, 0, none⟩) 1 cv, .int .i64 0, .slice none 0 0, .int .i64 0, .bool false]) rfl rfl ?_ rfl ?_
  · go_simp
  · refine ⟨_, rfl, ?_, ?_⟩
    · exact ((((((((HV.out.set_other k1).set_other k2).set_other k2).set_other k2).set_other k2).set_other k2).set_other k2).set_other k2).set_other k2
    · exact below_set8 (HB2.out.setCell (p := ⟨w.heap.size, 3, none⟩) (Nat.le_refl _) _) (by omega) _ _ _ _ _ _ _ _
end Go.Proofs.Ytjgjhjecgdndjaa
