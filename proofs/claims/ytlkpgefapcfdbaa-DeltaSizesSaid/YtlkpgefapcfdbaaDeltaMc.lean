/- Walks: chapter 33's Make. (written by gen-delta-make.py) -/
import Derived.Test.YtlkpgefapcfdbaaDeltaMb
namespace Go.Proofs.Ytlkpgefapcfdbaa
open Go.RowKit Go.Maps
set_option linter.unusedVariables false
set_option linter.unusedSimpArgs false
theorem or1i64 (a : Nat) (ha : a < 4611686018427387904) : bits .or .i64 ((a : Int) * 2) 1 = ((2 * a + 1 : Nat) : Int) := by
  have e : (a : Int) * 2 = ((2 * a : Nat) : Int) := by omega
  rw [e]
  show IntKind.i64.wrap ((BitVec.ofInt 64 ((2 * a : Nat) : Int) ||| BitVec.ofInt 64 ((1 : Nat) : Int)).toNat : Int) = _
  have h := Nat.shiftLeft_add_eq_or_of_lt (show 1 < 2 ^ 1 by decide) a
  rw [Nat.shiftLeft_eq, show a * 2 ^ 1 = 2 * a by omega] at h
  rw [BitVec.toNat_or, ofInt_u64 _ (by omega), ofInt_u64 _ (by omega), ← h, IntKind.wrap_i64]
  omega
theorem InR.none (w : World) (mb : Nat) (v : Value) (hmb : mb < w.heap.size) (hv : ∀ g, v.ownBlock = some g → g < w.heap.size) : InR w mb v (.slice none 0 0) [] := ⟨fun _ => rfl, w.heap.size, hv, hmb, Nat.le_refl _, World.ownsRow_nil _ _ _ _⟩
theorem EB.vlt {T : TypeId} {rest : List Value} {B : Nat} {w : World} {b : Nat} {p v : Value} {l : List UInt8} (h : EB T rest B w b p v l) : ∀ g, v.ownBlock = some g → g < w.heap.size := fun g e => (h.own.lt g e).2
theorem mk_alloc (w : World) : EB 45 [.slice none 0 0] w.heap.size (w.alloc (.cells #[.pointer none, .slice none 0 0, .slice none 0 0] 45)) w.heap.size (.pointer none) (.slice none 0 0) [] :=
  ⟨(MapKept.heap_alloc w _).1, World.ownsRow_nil _ _ _ _, by simp [Value.ownBlock], Or.inl rfl, fun _ => rfl⟩
/-- the maker's state -/
def MkAt (w : World) (mb : Nat) (W1 : World) (l ys : List UInt8) (inn : Value) : Prop := (∃ p v, EB 45 [inn] mb w mb p v l ∧ InR w mb v inn ys) ∧ Below mb W1 w
theorem InR.below {w w' : World} {mb : Nat} {v inn : Value} {ys : List UInt8} (h : InR w mb v inn ys) (hm : inn.ownBlock ≠ some mb) (hb : Below w.heap.size w w') : InR w' mb v inn ys := by
  obtain ⟨h1, B1, h2, h3, h5, h4⟩ := h
  exact ⟨h1, B1, h2, h3, Nat.le_trans h5 hb.size, h4.kept (gr_below hb (some mb)) (Or.inr hm)⟩
theorem InR.ne {w : World} {mb : Nat} {v inn : Value} {ys : List UInt8} (h : InR w mb v inn ys) : inn.ownBlock ≠ some mb := by
  obtain ⟨h1, B1, h2, h3, _, h4⟩ := h
  intro e
  have := (h4.lt mb e).1
  omega
theorem MkAt.below {w w' : World} {mb : Nat} {W1 : World} {l ys : List UInt8} {inn : Value} (h : MkAt w mb W1 l ys inn) (hb : Below w.heap.size w w') : MkAt w' mb W1 l ys inn := by
  obtain ⟨⟨p, v, h1, h2⟩, h3⟩ := h
  exact ⟨⟨p, v, h1.below hb, h2.below h2.ne hb⟩, h3.trans (hb.mono (Nat.le_of_lt h1.lt))⟩
theorem MkAt.drew {w : World} {mb : Nat} {W1 : World} {l ys : List UInt8} {inn : Value} (h : MkAt w mb W1 l ys inn) : MkAt w.drew mb W1 l ys inn := h.below (Below.refl _ _).drew
theorem MkAt.text {w w' : World} {mb : Nat} {W1 : World} {l s : List UInt8} {p v : Value} (h : EB 45 [.slice none 0 0] mb w mb p v l) (hb : Below mb W1 w) (he : ∃ v', EB 45 [.slice none 0 0] mb w' mb (.pointer (some ⟨mb, 0, none⟩)) v' (l ++ s)) (t : Two w w' mb v.ownBlock) : MkAt w' mb W1 (l ++ s) [] (.slice none 0 0) := by
  obtain ⟨v', he⟩ := he
  exact ⟨⟨_, v', he, InR.none _ _ _ he.lt he.vlt⟩, hb.trans (t.below (Nat.le_refl _) (fun g hg => (h.own.lt g hg).1) (Nat.le_of_lt h.lt))⟩
theorem MkAt.eb {w : World} {mb : Nat} {W1 : World} {l : List UInt8} {inn : Value} (h : MkAt w mb W1 l [] inn) : ∃ p v, EB 45 [.slice none 0 0] mb w mb p v l ∧ Below mb W1 w := by
  obtain ⟨⟨p, v, h1, h2⟩, h3⟩ := h
  rw [h2.1 rfl] at h1
  exact ⟨p, v, h1, h3⟩
theorem push_end {w w1 W1 : World} {mb B1 : Nat} {p v inn v' : Value} {l ys : List UInt8} {c : UInt8} (he : EB 45 [inn] mb w mb p v l) (hb : Below mb W1 w) (hv : ∀ g, v.ownBlock = some g → g < B1) (hm : mb < B1) (hBw : B1 ≤ w.heap.size) (hown : w.ownsRow B1 5 1 inn ys.length (Lib.byteCells ys))
    (g1 : w.grownBy w1 inn.ownBlock) (hown' : w1.ownsRow B1 5 1 v' (ys.length + 1) (Lib.byteCells ys ++ [.int .u8 c.toNat])) : MkAt (w1.setCell ⟨mb, 2, none⟩ v') mb W1 l (ys ++ [c]) v' := by
  have hne : inn.ownBlock ≠ some mb := fun e => by have := (hown.lt mb e).1; omega
  have hne' : v'.ownBlock ≠ some mb := fun e => by have := (hown'.lt mb e).1; omega
  have hvn : v.ownBlock = none ∨ v.ownBlock ≠ inn.ownBlock := by
    cases hv0 : v.ownBlock with
    | none => exact Or.inl rfl
    | some g =>
      refine Or.inr (fun e => ?_)
      have := (hown.lt g e.symm).1
      have := hv g hv0
      omega
  have he1 : EB 45 [inn] mb w1 mb p v l := ⟨(g1.block mb he.lt (fun e => hne e.symm)).trans he.blk, he.own.kept g1 hvn, he.ne, he.self, he.nil⟩
  refine ⟨⟨p, v, he1.set2 v', ⟨fun e => by simp at e, B1, hv, hm, ?_, ?_⟩⟩, ?_⟩
  · have := g1.size; simp [World.setCell]; omega
  · have e1 : (ys ++ [c]).length = ys.length + 1 := by simp
    have e2 : Lib.byteCells (ys ++ [c]) = Lib.byteCells ys ++ [.int .u8 c.toNat] := by simp [Lib.byteCells]
    rw [e1, e2]
    exact hown'.kept (two_set w1 mb 2 v') (Or.inr hne')
  · refine Below.setCell (p := ⟨mb, 2, none⟩) (hb.trans ⟨g1.os, g1.tape, g1.output, g1.size, fun k hk => g1.block k (by have := he.lt; omega) (fun e => ?_)⟩) (Nat.le_refl _) _
    have := (hown.lt k e.symm).1
    omega
theorem mText {w : World} {mb : Nat} {W1 : World} {l : List UInt8} (s : ByteArray) (h : MkAt w mb W1 l [] (.slice none 0 0)) (hl : l.length + s.size ≤ 140737488355328) :
    Calls Try.prog 15 #[.pointer (some ⟨mb, 0, none⟩), .string s] w fun e w' => e = .returned (.tuple #[.int .i64 s.size, .nilIface]) ∧ MkAt w' mb W1 (l ++ s.data.toList) [] (.slice none 0 0) := by
  obtain ⟨p, v, h1, h2⟩ := h.eb
  exact (eText _ _ _ (bldLies45 _) (by decide) _ _ _ _ s _ h1 hl (Nat.le_of_lt h1.lt)).mono fun e w' q => ⟨q.1, MkAt.text h1 h2 q.2.1 q.2.2⟩
theorem mFlush {w : World} {mb : Nat} {W1 : World} {l ys : List UInt8} {inn : Value} (h : MkAt w mb W1 l ys inn) (hl : l.length ≤ 100000000) (hy : ys.length ≤ 1000000) :
    Calls Try.prog 20 #[.pointer (some ⟨mb, 0, none⟩)] w fun e w' => e = .returned (.tuple #[]) ∧ MkAt w' mb W1 (l ++ flushB ys) [] (.slice none 0 0) := by
  obtain ⟨⟨p, v, h1, h2⟩, h3⟩ := h
  refine (flush_any mb mb p v inn l ys w h1 (Nat.le_refl _) h2 hl hy).mono fun e w' q => ⟨q.1, ?_⟩
  obtain ⟨p', v', he⟩ := q.2.1
  exact ⟨⟨p', v', he, InR.none _ _ _ he.lt he.vlt⟩, h3.trans q.2.2⟩
theorem mString {w : World} {mb : Nat} {W1 : World} {l : List UInt8} {inn : Value} (h : MkAt w mb W1 l [] inn) :
    Calls Try.prog 21 #[.pointer (some ⟨mb, 0, none⟩)] w fun e w' => e = .returned (.string ⟨l.toArray⟩) ∧ Below mb W1 w' := by
  obtain ⟨p, v, h1, h2⟩ := h.eb
  refine (eString mb v l w h1.br).mono fun e w' q => ⟨q.1, ?_⟩
  refine h2.trans ⟨q.2.2.os, q.2.2.tape, q.2.2.output, q.2.2.size, fun k hk => q.2.2.block k (by have := h1.lt; omega) (fun e => ?_)⟩
  have := (h1.own.lt k e.symm).1
  omega
set_option maxRecDepth 20000 in
set_option maxHeartbeats 8000000 in
theorem make_any (b t : ByteArray) (hb : b.size ≤ 1000000) (ht : t.size ≤ 1000000) (w : World) :
    Calls Try.prog 8 #[.string b, .string t] w fun e w' => e = .returned (.string ⟨(mkD b.data.toList t.data.toList).toArray⟩) ∧ Below w.heap.size w w' := by
  have hbl : b.data.toList.length = b.size := by simp
  have htl : t.data.toList.length = t.size := by simp
  have HIX := Lib.hid (fun w => indexed_any (H := Unit) b hb w)
  have HPB := Lib.hid (fun w => number_any b.size (by omega) w)
  have HPT := Lib.hid (fun w => number_any t.size (by omega) w)
  have HS := Lib.hid (fun w => crcSum_any t w (by unfold maxLen; omega))
  have HC := Lib.hid (fun w => crcBytes_any (crcMore 0 t.data.toList) w)
  have HM : Hid (mkD b.data.toList t.data.toList = ((⟨(vPut b.size).toArray⟩ : ByteArray) ++ ⟨(vPut t.size).toArray⟩ ++ ⟨(crcBytes (crcMore 0 t.data.toList)).toArray⟩).data.toList ++ (mkP b.data.toList t.size (t.data.toList.drop 0) []).flatMap encP) := by
    unfold Hid mkD
    rw [hbl, htl]
    simp
  have hl1 : (⟨(vPut b.size).toArray⟩ : ByteArray).size ≤ 10 := vPut_len10 _ (by omega)
  have hl2 : (⟨(vPut t.size).toArray⟩ : ByteArray).size ≤ 10 := vPut_len10 _ (by omega)
  have hl3 : (⟨(crcBytes (crcMore 0 t.data.toList)).toArray⟩ : ByteArray).size ≤ 10 := by rw [show (⟨(crcBytes (crcMore 0 t.data.toList)).toArray⟩ : ByteArray).size = (crcBytes (crcMore 0 t.data.toList)).length from List.size_toArray]; simp [crcBytes]
  clear hbl htl
  generalize mkD b.data.toList t.data.toList = M at *
  generalize crcMore 0 t.data.toList = c at *
  generalize (⟨(vPut b.size).toArray⟩ : ByteArray) = pb at *
  generalize (⟨(vPut t.size).toArray⟩ : ByteArray) = pt at *
  generalize (⟨(crcBytes c).toArray⟩ : ByteArray) = pc at *
  have hl4 : (pb ++ pt ++ pc).size ≤ 30 := by rw [ByteArray.size_append, ByteArray.size_append]; omega
  go_enter Try.func8, Try.ntmps8
  go_wp2_with fail
  refine (HIX.out _).mono ?_
  rintro e w1 ⟨m, bm, B, D, rfl, ⟨hm1, hm2⟩, hP, hown, b1⟩
  obtain ⟨w2, hw2⟩ : ∃ w2, w2 = w1.alloc (.cells #[.string b, .map (some bm)] 37) := ⟨_, rfl⟩
  have hX : Hid (w2.heap[w1.heap.size]? = some (.cells #[.string b, .map (some bm)] 37 (0, 0))) := by rw [hw2]; exact (MapKept.heap_alloc w1 _).1
  have hO : Hid (w2.ownsGroups Try.prog 9 B 3 .i64 bm m D) := by rw [hw2]; exact groups_grow hown (World.grownBy_alloc _ _ _)
  have hB2 : Hid (Below w.heap.size w w2) := by rw [hw2]; exact b1.alloc b1.size _
  have hs2 : w2.heap.size = w1.heap.size + 1 := by rw [hw2]; simp
  have HP := Lib.hid hP
  clear b1 hown hP HIX
  go_wp2_with fail
  rw [← hw2]
  have hsz : ∀ o, (w1.alloc o).heap.size = w1.heap.size + 1 := fun o => by simp
  have hMk : Hid (MkAt (w2.alloc (.cells #[.pointer none, .slice none 0 0, .slice none 0 0] 45)) w2.heap.size w2 [] [] (.slice none 0 0)) := by
    refine ⟨⟨_, _, mk_alloc w2, InR.none _ _ _ (by simp) (by simp [Value.ownBlock])⟩, (Below.refl _ _).alloc (Nat.le_refl _) _⟩
  rw [← hs2]
  clear hw2 hsz
  have hMk2 := Lib.hid (hMk.out.drew)
  obtain ⟨mb, hmb⟩ : ∃ mb, mb = w2.heap.size := ⟨_, rfl⟩
  rw [← hmb] at hMk2 hs2 ⊢
  have HMB := Lib.hid hmb
  have HS2 := Lib.hid hs2
  clear hmb hs2
  refine wp_region_held_drew (S := fun _ => True) (by kernel_rfl) trivial (fun hHeld => ?_)
  clear hMk
  refine' wpAnyH_take (i := 0) (v := ?v1) rfl (by kernel_rfl) (by kernel_rfl) (by kernel_rfl) (fun _ _ _ h => h) (Or.inl ⟨by kernel_rfl, ?hy1⟩) (by assumption) ?rest1
  case hy1 => (intro w hSw; (try dsimp only at hSw); go_simp; try with_reducible rfl)
  try simp only [Act.put, List.setIfInBounds_toArray, List.set_cons_zero, List.set_cons_succ]
  refine' wpAnyH_take (i := 1) (v := ?v2) rfl (by kernel_rfl) (by kernel_rfl) (by kernel_rfl) (fun _ _ _ h => h) (Or.inl ⟨by kernel_rfl, ?hy2⟩) (by assumption) ?rest2
  case hy2 => (intro w hSw; (try dsimp only at hSw); go_simp; try with_reducible rfl)
  try simp only [Act.put, List.setIfInBounds_toArray, List.set_cons_zero, List.set_cons_succ]
  refine' wpAnyH_take (i := 2) (v := ?v3) rfl (by kernel_rfl) (by kernel_rfl) (by kernel_rfl) (fun _ _ _ h => h) (Or.inl ⟨by kernel_rfl, ?hy3⟩) (by assumption) ?rest3
  case hy3 => (intro w hSw; (try dsimp only at hSw); go_simp; try with_reducible rfl)
  try simp only [Act.put, List.setIfInBounds_toArray, List.set_cons_zero, List.set_cons_succ]
  refine' wpAnyH_take (i := 3) (v := ?v4) rfl (by kernel_rfl) (by kernel_rfl) (by kernel_rfl) (fun _ _ _ h => h) (Or.inl ⟨by kernel_rfl, ?hy4⟩) (by assumption) ?rest4
  case hy4 => (intro w hSw; (try dsimp only at hSw); go_simp; try with_reducible rfl)
  try simp only [Act.put, List.setIfInBounds_toArray, List.set_cons_zero, List.set_cons_succ]
  refine' wpAnyH_take (i := 4) (v := ?v5) rfl (by kernel_rfl) (by kernel_rfl) (by kernel_rfl) (fun _ _ _ h => h) (Or.inl ⟨by kernel_rfl, ?hy5⟩) (by assumption) ?rest5
  case hy5 => (intro w hSw; (try dsimp only at hSw); go_simp; try with_reducible rfl)
  try simp only [Act.put, List.setIfInBounds_toArray, List.set_cons_zero, List.set_cons_succ]
  refine' wpAnyH_take (i := 6) (v := ?v6) rfl (by kernel_rfl) (by kernel_rfl) (by kernel_rfl) (fun _ _ _ h => h) (Or.inl ⟨by kernel_rfl, ?hy6⟩) (by assumption) ?rest6
  case hy6 => (intro w hSw; (try dsimp only at hSw); go_simp; try with_reducible rfl)
  try simp only [Act.put, List.setIfInBounds_toArray, List.set_cons_zero, List.set_cons_succ]
  refine' wpAnyH_take (i := 7) (v := ?v7) rfl (by kernel_rfl) (by kernel_rfl) (by kernel_rfl) (fun _ _ _ h => h) (Or.inl ⟨by kernel_rfl, ?hy7⟩) (by assumption) ?rest7
  case hy7 => (intro w hSw; (try dsimp only at hSw); go_simp; try with_reducible rfl)
  try simp only [Act.put, List.setIfInBounds_toArray, List.set_cons_zero, List.set_cons_succ]
  refine' wpAnyH_take (i := 10) (v := ?v8) rfl (by kernel_rfl) (by kernel_rfl) (by kernel_rfl) (fun _ _ _ h => h) (Or.inl ⟨by kernel_rfl, ?hy8⟩) (by assumption) ?rest8
  case hy8 => (intro w hSw; (try dsimp only at hSw); go_simp; try with_reducible rfl)
  try simp only [Act.put, List.setIfInBounds_toArray, List.set_cons_zero, List.set_cons_succ]
  refine wpAnyH_ready (rs := [5]) (by kernel_rfl) (by simp) ?_
  refine AllReadyH.cons rfl (fun K hK => ?_) AllReadyH.nil
  go_simp
  go_at_call 16
  refine (HPB.out _).mono ?_
  rintro er w4 ⟨rfl, b4⟩
  have hMk4 := Lib.hid (hMk2.out.below b4)
  clear hMk2 b4
  clear hHeld
  go_wp2_with fail
  refine hK.out _ _ trivial (fun hHeld => ?_)
  clear hK K
  try simp only [Act.put, List.setIfInBounds_toArray, List.set_cons_zero, List.set_cons_succ]
  refine wpAnyH_ready (rs := [8]) (by kernel_rfl) (by simp) ?_
  refine AllReadyH.cons rfl (fun K hK => ?_) AllReadyH.nil
  go_simp
  go_at_call 16
  refine (HPT.out _).mono ?_
  rintro er w5 ⟨rfl, b5⟩
  have hMk5 := Lib.hid (hMk4.out.below b5)
  clear hMk4 b5
  clear hHeld
  go_wp2_with fail
  refine hK.out _ _ trivial (fun hHeld => ?_)
  clear hK K
  try simp only [Act.put, List.setIfInBounds_toArray, List.set_cons_zero, List.set_cons_succ]
  refine wpAnyH_take (i := 9) (v := (.string (pb ++ pt))) rfl (by kernel_rfl) (by kernel_rfl) (by kernel_rfl) (fun _ _ _ h => h) (Or.inl ⟨by kernel_rfl, ?_⟩) hHeld ?_
  · intro w hSw
    go_simp
    first | done | omega | ((try simp only [ByteArray.size_append]); omega)
  try simp only [Act.put, List.setIfInBounds_toArray, List.set_cons_zero, List.set_cons_succ]
  refine wpAnyH_ready (rs := [11]) (by kernel_rfl) (by simp) ?_
  refine AllReadyH.cons rfl (fun K hK => ?_) AllReadyH.nil
  go_simp
  go_at_call 18
  refine (HS.out _).mono ?_
  rintro er w6 ⟨rfl, rfl⟩
  skip
  clear hHeld
  go_wp2_with fail
  refine hK.out _ _ trivial (fun hHeld => ?_)
  clear hK K
  try simp only [Act.put, List.setIfInBounds_toArray, List.set_cons_zero, List.set_cons_succ]
  refine wpAnyH_ready (rs := [12]) (by kernel_rfl) (by simp) ?_
  refine AllReadyH.cons rfl (fun K hK => ?_) AllReadyH.nil
  go_simp
  go_at_call 17
  refine (HC.out _).mono ?_
  rintro er w6 ⟨rfl, b6⟩
  have hMk6 := Lib.hid (hMk5.out.below b6)
  clear hMk5 b6
  clear hHeld
  go_wp2_with fail
  refine hK.out _ _ trivial (fun hHeld => ?_)
  clear hK K
  try simp only [Act.put, List.setIfInBounds_toArray, List.set_cons_zero, List.set_cons_succ]
  refine wpAnyH_take (i := 13) (v := (.string (pb ++ pt ++ pc))) rfl (by kernel_rfl) (by kernel_rfl) (by kernel_rfl) (fun _ _ _ h => h) (Or.inl ⟨by kernel_rfl, ?_⟩) hHeld ?_
  · intro w hSw
    go_simp
    first | done | omega | ((try simp only [ByteArray.size_append]); omega)
  try simp only [Act.put, List.setIfInBounds_toArray, List.set_cons_zero, List.set_cons_succ]
  refine wpAnyH_ready (rs := [14]) (by kernel_rfl) (by simp) ?_
  refine AllReadyH.cons rfl (fun K hK => ?_) AllReadyH.nil
  go_simp
  go_at_call 15
  refine (mText (pb ++ pt ++ pc) hMk6.out (by rw [List.length_nil]; omega)).mono ?_
  rintro er w7 ⟨rfl, hk7⟩
  have hMk7 := Lib.hid hk7
  clear hMk6 hk7
  clear hHeld
  go_wp2_with fail
  refine hK.out _ _ trivial (fun hHeld => ?_)
  clear hK K
  try simp only [Act.put, List.setIfInBounds_toArray, List.set_cons_zero, List.set_cons_succ]
  refine wpAnyH_done (by kernel_rfl) ?_ _
  go_wp2_with fail
  go_loopw [7] (fun v7 wr => ∃ (f : Nat) (sv : ByteArray) (l ys : List UInt8) (inn : Value), v7 = .string sv ∧ (sv.size ≤ f ∧ ys.length + sv.size ≤ t.size ∧ l.length + ys.length + 4 * sv.size ≤ 100 + 4 * t.size) ∧
      Hid (M = l ++ (mkP b.data.toList f sv.data.toList ys).flatMap encP) ∧ Hid (MkAt wr mb w2 l ys inn)) (fun v7 _ => strLen v7)
  case atStart =>
    refine ⟨t.size, t, _, [], _, rfl, ⟨Nat.le_refl _, by rw [List.length_nil]; omega, ?_⟩, ?_, hMk7⟩
    · have : (pb ++ pt ++ pc).data.toList.length = (pb ++ pt ++ pc).size := Array.length_toList
      rw [List.nil_append, this, List.length_nil]
      omega
    · unfold Hid; rw [HM.out, List.nil_append]; rfl
  case round =>
    clear HPB HPT HS HC HM hMk7 hl1 hl2 hl3 hl4
    obtain ⟨f, sv, l, ys, inn, rfl, ⟨q1, q2, q3⟩, HM, HK⟩ := hrel
    have hsvl : sv.data.toList.length = sv.size := by simp
    by_cases hi : 0 < sv.size
    · have hne : sv.toList.isEmpty = false := by rw [ByteArray.toList_eq, List.isEmpty_eq_false_iff]; intro e; rw [e] at hsvl; simp at hsvl; omega
      have hbk := HK.out.2
      have hxr : wr.heap[w1.heap.size]? = some (.cells #[.string b, .map (some bm)] 37 (0, 0)) := (hbk.block _ (by rw [HS2.out]; omega)).trans hX.out
      have x0 : wr.cell? ⟨w1.heap.size, 0, none⟩ = some (.string b) := by rw [Lib.cell_of_heap hxr]; rfl
      have x1 : wr.cell? ⟨w1.heap.size, 1, none⟩ = some (.map (some bm)) := by rw [Lib.cell_of_heap hxr]; rfl
      have HB := Lib.hid (best_any b sv bm m B D wr hb (by omega) hm1 hm2 HP.out (groups_grow hO.out (gr_below (by rw [← HMB.out]; exact hbk) none)))
      have hcons := drop_consB sv 0 hi
      rw [List.drop_zero] at hcons
      obtain ⟨f, rfl⟩ : ∃ g, f = g + 1 := ⟨f - 1, by omega⟩
      clear hxr hbk
      by_cases h0 : (bestD b.data.toList sv.data.toList).1 = 0
      · have HM2 : Hid (M = l ++ (mkP b.data.toList f (sv.extract 1 sv.size).data.toList (ys ++ [sv[0]])).flatMap encP) := by
          unfold Hid
          rw [hcons] at h0
          rw [HM.out, hcons, mkP_lit _ _ _ _ _ h0, from_list]
        have hsz1 : (sv.extract 1 sv.size).size = sv.size - 1 := by rw [ByteArray.size_extract]; omega
        rw [h0] at HB
        have hs1 : (1 : Int) ≤ (sv.size : Int) := by omega
        clear hcons HM h0 hsvl
        generalize (bestD b.data.toList sv.data.toList).2 = z at *
        obtain ⟨i0, hi0, hz0, hz1, hz2⟩ := info_parts bldByte
        go_wp2_with fail
        refine HB.out.mono ?_
        rintro e w8 ⟨rfl, b8⟩
        have HK8 := Lib.hid ((HK.out.below b8).drew)
        clear b8 HB HK x0 x1
        go_wp2_with fail
        refine wp_region_held_drew (S := fun _ => True) (by kernel_rfl) trivial (fun hHeld => ?_)
        refine' wpAnyH_take (i := 0) (v := ?v9) rfl (by kernel_rfl) (by kernel_rfl) (by kernel_rfl) (fun _ _ _ h => h) (Or.inl ⟨by kernel_rfl, ?hy9⟩) (by assumption) ?rest9
        case hy9 => (intro w hSw; (try dsimp only at hSw); go_simp; try with_reducible rfl)
        try simp only [Act.put, List.setIfInBounds_toArray, List.set_cons_zero, List.set_cons_succ]
        refine' wpAnyH_take (i := 1) (v := ?v10) rfl (by kernel_rfl) (by kernel_rfl) (by kernel_rfl) (fun _ _ _ h => h) (Or.inl ⟨by kernel_rfl, ?hy10⟩) (by assumption) ?rest10
        case hy10 => (intro w hSw; (try dsimp only at hSw); go_simp; try with_reducible rfl)
        try simp only [Act.put, List.setIfInBounds_toArray, List.set_cons_zero, List.set_cons_succ]
        refine' wpAnyH_take (i := 2) (v := ?v11) rfl (by kernel_rfl) (by kernel_rfl) (by kernel_rfl) (fun _ _ _ h => h) (Or.inl ⟨by kernel_rfl, ?hy11⟩) (by assumption) ?rest11
        case hy11 => (intro w hSw; (try dsimp only at hSw); go_simp; try with_reducible rfl)
        try simp only [Act.put, List.setIfInBounds_toArray, List.set_cons_zero, List.set_cons_succ]
        refine' wpAnyH_take (i := 3) (v := ?v12) rfl (by kernel_rfl) (by kernel_rfl) (by kernel_rfl) (fun _ _ _ h => h) (Or.inl ⟨by kernel_rfl, ?hy12⟩) (by assumption) ?rest12
        case hy12 => (intro w hSw; (try dsimp only at hSw); go_simp; try with_reducible rfl)
        try simp only [Act.put, List.setIfInBounds_toArray, List.set_cons_zero, List.set_cons_succ]
        refine' wpAnyH_take (i := 5) (v := ?v13) rfl (by kernel_rfl) (by kernel_rfl) (by kernel_rfl) (fun _ _ _ h => h) (Or.inl ⟨by kernel_rfl, ?hy13⟩) (by assumption) ?rest13
        case hy13 => (intro w hSw; (try dsimp only at hSw); go_simp; try with_reducible rfl)
        try simp only [Act.put, List.setIfInBounds_toArray, List.set_cons_zero, List.set_cons_succ]
        refine' wpAnyH_take (i := 6) (v := ?v14) rfl (by kernel_rfl) (by kernel_rfl) (by kernel_rfl) (fun _ _ _ h => h) (Or.inl ⟨by kernel_rfl, ?hy14⟩) (by assumption) ?rest14
        case hy14 => (intro w hSw; (try dsimp only at hSw); go_simp; try with_reducible rfl)
        try simp only [Act.put, List.setIfInBounds_toArray, List.set_cons_zero, List.set_cons_succ]
        obtain ⟨⟨p, v, he, hin⟩, hbk⟩ := HK8.out
        obtain ⟨_, B1, hv, hm, hBw, hown⟩ := hin
        have hne : inn.ownBlock ≠ some mb := fun e => by have := (hown.lt mb e).1; omega
        have c8 := he.c2
        have hlt8 := he.lt
        have f8 : w8.drew.frozen? ⟨mb, 2, none⟩ = false := Lib.frozen_of_heap he.blk 2
        have cB : (w8.drew.alloc (.cells #[.int .u8 (sv[0]).toNat] 5)).cell? ⟨mb, 2, none⟩ = some inn := (World.cell?_of_block (Lib.alloc_old _ _ mb hlt8)).trans c8
        have fB : (w8.drew.alloc (.cells #[.int .u8 (sv[0]).toNat] 5)).frozen? ⟨mb, 2, none⟩ = false := (World.frozen?_of_block (Lib.alloc_old _ _ mb hlt8)).trans f8
        have hltB : mb < (w8.drew.alloc (.cells #[.int .u8 (sv[0]).toNat] 5)).heap.size := Nat.lt_of_lt_of_le hlt8 (by simp)
        refine wpAnyH_ready (rs := [4, 7]) (by kernel_rfl) (by simp) ?_
        refine AllReadyH.cons rfl (fun K hK => ?_) (AllReadyH.cons rfl (fun K hK => ?_) AllReadyH.nil)
        · rw [if_pos (by kernel_rfl)]
          unfold Oper.wp
          go_simp
          refine hK.out _ _ trivial (fun hHeld => ?_)
          clear hK K
          try simp only [Act.put, List.setIfInBounds_toArray, List.set_cons_zero, List.set_cons_succ]
          refine one_val 7 { dst := some 47, op := Op.buildSlice 41 1 #[(0, .tmp 46)], type := 41, pos := "delta.go:79", after := #[{ on := 6, ground := Ground.data }], guard := none } (by kernel_rfl) rfl (by kernel_rfl) (.slice (some ⟨w8.drew.heap.size, 0, none⟩) 1 1) (w8.drew.alloc (.cells #[.int .u8 (sv[0]).toNat] 5)) (by go_simp) trivial ?_
          try simp only [Act.put, List.setIfInBounds_toArray, List.set_cons_zero, List.set_cons_succ]
          refine one_ready 8 { dst := some 48, op := Op.call { callee := Callee.builtin Builtin.append, args := #[.tmp 44, .tmp 47], argTypes := #[41, 41] }, type := 41, pos := "delta.go:79", after := #[{ on := 4, ground := Ground.data }, { on := 7, ground := Ground.data }], guard := none } (by kernel_rfl) rfl (by kernel_rfl) (fun K hK => wp_append_at (.tmp 44) (.tmp 47) 41 rfl B1 5 i0 (.int .u8 0) 1 1 Try.underlying41 hi0 hz0 hz1 hz2 rfl (by decide) inn ys.length (Lib.byteCells ys) (by go_simp) (hown.alloc _) ⟨w8.drew.heap.size, 0, none⟩ 1 1 [.int .u8 (sv[0]).toNat] (by go_simp) rfl (cell_one_new _ _ _) (fun u hu => by simp at hu; subst hu; rfl) (by unfold maxLen; omega) (by omega) (Nat.le_trans hBw (by simp)) (fun v' w10 hown' hgrow _ => ?_))
          obtain ⟨g', cap', rfl⟩ : ∃ g' cap', v' = .slice (some ⟨g', 0, none⟩) (ys.length + 1) cap' := by
            rcases hown'.2 with ⟨_, hz⟩ | ⟨g', cap', cur, hv', _⟩
            · omega
            · exact ⟨g', cap', hv'⟩
          have HE10 := Lib.hid (push_end he hbk hv hm hBw hown ((World.grownBy_alloc _ _ _).trans hgrow) hown')
          have c10 : w10.cell? ⟨mb, 2, none⟩ = some inn := (hgrow.cell (a := ⟨mb, 2, none⟩) cB (fun e => hne e.symm))
          have f10 : w10.frozen? ⟨mb, 2, none⟩ = false := (World.frozen?_of_block (hgrow.block mb hltB (fun e => hne e.symm))).trans fB
          refine hK.out _ _ trivial (fun hHeld => ?_)
          clear hK K hown' hgrow
          try simp only [Act.put, List.setIfInBounds_toArray, List.set_cons_zero, List.set_cons_succ]
          refine wpAnyH_take (i := 9) (v := .pointer (some ⟨mb, 0, none⟩)) rfl (by kernel_rfl) (by kernel_rfl) (by kernel_rfl) (fun _ _ _ h => h) (Or.inl ⟨by kernel_rfl, ?_⟩) hHeld ?_
          · intro w hSw
            go_simp
          try simp only [Act.put, List.setIfInBounds_toArray, List.set_cons_zero, List.set_cons_succ]
          refine wpAnyH_take (i := 10) (v := .pointer (some ⟨mb, 2, none⟩)) rfl (by kernel_rfl) (by kernel_rfl) (by kernel_rfl) (fun _ _ _ h => h) (Or.inl ⟨by kernel_rfl, ?_⟩) hHeld ?_
          · intro w hSw
            go_simp
          try simp only [Act.put, List.setIfInBounds_toArray, List.set_cons_zero, List.set_cons_succ]
          refine wpAnyH_ready (rs := [11]) (by kernel_rfl) (by simp) ?_
          refine AllReadyH.cons rfl (fun K hK => ?_) AllReadyH.nil
          go_simp
          refine hK.out _ _ trivial (fun hHeld => ?_)
          clear hK K
          try simp only [Act.put, List.setIfInBounds_toArray, List.set_cons_zero, List.set_cons_succ]
          refine wpAnyH_done (by kernel_rfl) ?_ _
          go_wp2_with fail
          refine ⟨⟨f, sv.extract 1 sv.size, l, ys ++ [sv[0]], _, rfl, ⟨by omega, by rw [List.length_append, List.length_singleton]; omega, by rw [List.length_append, List.length_singleton]; omega⟩, HM2, HE10⟩, ?_⟩
          simp only [strLen]
          omega
        · have cB' : (w8.alloc (.cells #[.int .u8 (sv[0]).toNat] 5)).drew.cell? ⟨mb, 2, none⟩ = some inn := cB
          rw [if_pos (by kernel_rfl)]
          unfold Oper.wp
          go_simp
          refine hK.out _ (w8.drew.alloc (.cells #[.int .u8 (sv[0]).toNat] 5)) trivial (fun hHeld => ?_)
          clear hK K
          try simp only [Act.put, List.setIfInBounds_toArray, List.set_cons_zero, List.set_cons_succ]
          refine one_val 4 { dst := some 44, op := Op.load 41 (.tmp 43), type := 41, pos := "delta.go:79", after := #[{ on := 3, ground := Ground.data }], guard := none } (by kernel_rfl) rfl (by kernel_rfl) inn (w8.drew.alloc (.cells #[.int .u8 (sv[0]).toNat] 5)) (by go_simp) trivial ?_
          try simp only [Act.put, List.setIfInBounds_toArray, List.set_cons_zero, List.set_cons_succ]
          refine one_ready 8 { dst := some 48, op := Op.call { callee := Callee.builtin Builtin.append, args := #[.tmp 44, .tmp 47], argTypes := #[41, 41] }, type := 41, pos := "delta.go:79", after := #[{ on := 4, ground := Ground.data }, { on := 7, ground := Ground.data }], guard := none } (by kernel_rfl) rfl (by kernel_rfl) (fun K hK => wp_append_at (.tmp 44) (.tmp 47) 41 rfl B1 5 i0 (.int .u8 0) 1 1 Try.underlying41 hi0 hz0 hz1 hz2 rfl (by decide) inn ys.length (Lib.byteCells ys) (by go_simp) (hown.alloc _) ⟨w8.drew.heap.size, 0, none⟩ 1 1 [.int .u8 (sv[0]).toNat] (by go_simp) rfl (cell_one_new _ _ _) (fun u hu => by simp at hu; subst hu; rfl) (by unfold maxLen; omega) (by omega) (Nat.le_trans hBw (by simp)) (fun v' w10 hown' hgrow _ => ?_))
          obtain ⟨g', cap', rfl⟩ : ∃ g' cap', v' = .slice (some ⟨g', 0, none⟩) (ys.length + 1) cap' := by
            rcases hown'.2 with ⟨_, hz⟩ | ⟨g', cap', cur, hv', _⟩
            · omega
            · exact ⟨g', cap', hv'⟩
          have HE10 := Lib.hid (push_end he hbk hv hm hBw hown ((World.grownBy_alloc _ _ _).trans hgrow) hown')
          have c10 : w10.cell? ⟨mb, 2, none⟩ = some inn := (hgrow.cell (a := ⟨mb, 2, none⟩) cB (fun e => hne e.symm))
          have f10 : w10.frozen? ⟨mb, 2, none⟩ = false := (World.frozen?_of_block (hgrow.block mb hltB (fun e => hne e.symm))).trans fB
          refine hK.out _ _ trivial (fun hHeld => ?_)
          clear hK K hown' hgrow
          try simp only [Act.put, List.setIfInBounds_toArray, List.set_cons_zero, List.set_cons_succ]
          refine wpAnyH_take (i := 9) (v := .pointer (some ⟨mb, 0, none⟩)) rfl (by kernel_rfl) (by kernel_rfl) (by kernel_rfl) (fun _ _ _ h => h) (Or.inl ⟨by kernel_rfl, ?_⟩) hHeld ?_
          · intro w hSw
            go_simp
          try simp only [Act.put, List.setIfInBounds_toArray, List.set_cons_zero, List.set_cons_succ]
          refine wpAnyH_take (i := 10) (v := .pointer (some ⟨mb, 2, none⟩)) rfl (by kernel_rfl) (by kernel_rfl) (by kernel_rfl) (fun _ _ _ h => h) (Or.inl ⟨by kernel_rfl, ?_⟩) hHeld ?_
          · intro w hSw
            go_simp
          try simp only [Act.put, List.setIfInBounds_toArray, List.set_cons_zero, List.set_cons_succ]
          refine wpAnyH_ready (rs := [11]) (by kernel_rfl) (by simp) ?_
          refine AllReadyH.cons rfl (fun K hK => ?_) AllReadyH.nil
          go_simp
          refine hK.out _ _ trivial (fun hHeld => ?_)
          clear hK K
          try simp only [Act.put, List.setIfInBounds_toArray, List.set_cons_zero, List.set_cons_succ]
          refine wpAnyH_done (by kernel_rfl) ?_ _
          go_wp2_with fail
          refine ⟨⟨f, sv.extract 1 sv.size, l, ys ++ [sv[0]], _, rfl, ⟨by omega, by rw [List.length_append, List.length_singleton]; omega, by rw [List.length_append, List.length_singleton]; omega⟩, HM2, HE10⟩, ?_⟩
          simp only [strLen]
          omega
      · obtain ⟨r1, r2, r3, _⟩ := bestD_ok _ _ h0
        have hbl : b.data.toList.length = b.size := by simp
        rw [hsvl] at r2
        rw [hbl] at r3
        have HM2 : Hid (M = l ++ flushB ys ++ (⟨(vPut (2 * (bestD b.data.toList sv.data.toList).1 + 1)).toArray⟩ ++ ⟨(vPut (bestD b.data.toList sv.data.toList).2).toArray⟩ : ByteArray).data.toList ++ (mkP b.data.toList f (sv.extract (bestD b.data.toList sv.data.toList).1 sv.size).data.toList []).flatMap encP) := by
          unfold Hid
          rw [hcons] at h0
          rw [HM.out, from_list, hcons, mkP_cop _ _ _ _ _ h0]
          simp [flushB, encP]
        have HF := Lib.hid (fun w' (h : MkAt w' mb w2 l ys inn) => mFlush h (by omega) (by omega))
        have hfl := flushB_len ys (by omega)
        have HP1 := Lib.hid (fun w => number_any (2 * (bestD b.data.toList sv.data.toList).1 + 1) (by omega) w)
        have HP2 := Lib.hid (fun w => number_any (bestD b.data.toList sv.data.toList).2 (by omega) w)
        have hor := or1i64 (bestD b.data.toList sv.data.toList).1 (by omega)
        have hl1 : (⟨(vPut (2 * (bestD b.data.toList sv.data.toList).1 + 1)).toArray⟩ : ByteArray).size ≤ 10 := vPut_len10 _ (by omega)
        have hl2 : (⟨(vPut (bestD b.data.toList sv.data.toList).2).toArray⟩ : ByteArray).size ≤ 10 := vPut_len10 _ (by omega)
        clear hcons HM hbl hsvl
        generalize bestD b.data.toList sv.data.toList = r at *
        obtain ⟨z1, z2⟩ := r
        dsimp only at *
        have h0' : ¬ ((z1 : Int) = 0) := by omega
        have hz1' : (z1 : Int) ≤ (sv.size : Int) := by omega
        have hsz1 : (sv.extract z1 sv.size).size = sv.size - z1 := by rw [ByteArray.size_extract]; omega
        generalize hnn : 2 * z1 + 1 = nn at *
        have HNN := Lib.hid hnn
        clear h0 hnn
        generalize (⟨(vPut nn).toArray⟩ : ByteArray) = p1 at *
        generalize (⟨(vPut z2).toArray⟩ : ByteArray) = p2 at *
        have hl4 : (p1 ++ p2).size ≤ 20 := by rw [ByteArray.size_append]; omega
        have hps : (p1 ++ p2).data.toList.length = (p1 ++ p2).size := Array.length_toList
        go_wp2_with fail
        refine HB.out.mono ?_
        rintro e w8 ⟨rfl, b8⟩
        have HK8 := Lib.hid (HK.out.below b8)
        clear b8 HB HK x0 x1
        go_wp2_with fail
        refine (HF.out _ HK8.out).mono ?_
        rintro e w9 ⟨rfl, k9⟩
        have HK9 := Lib.hid k9.drew
        clear k9 HK8 HF
        go_wp2_with fail
        refine wp_region_held_drew (S := fun _ => True) (by kernel_rfl) trivial (fun hHeld => ?_)
        refine' wpAnyH_take (i := 0) (v := ?v15) rfl (by kernel_rfl) (by kernel_rfl) (by kernel_rfl) (fun _ _ _ h => h) (Or.inl ⟨by kernel_rfl, ?hy15⟩) (by assumption) ?rest15
        case hy15 => (intro w hSw; (try dsimp only at hSw); go_simp; try with_reducible rfl)
        try simp only [Act.put, List.setIfInBounds_toArray, List.set_cons_zero, List.set_cons_succ]
        refine' wpAnyH_take (i := 1) (v := ?v16) rfl (by kernel_rfl) (by kernel_rfl) (by kernel_rfl) (fun _ _ _ h => h) (Or.inl ⟨by kernel_rfl, ?hy16⟩) (by assumption) ?rest16
        case hy16 => (intro w hSw; (try dsimp only at hSw); go_simp; try with_reducible rfl)
        try simp only [Act.put, List.setIfInBounds_toArray, List.set_cons_zero, List.set_cons_succ]
        refine' wpAnyH_take (i := 2) (v := ?v17) rfl (by kernel_rfl) (by kernel_rfl) (by kernel_rfl) (fun _ _ _ h => h) (Or.inl ⟨by kernel_rfl, ?hy17⟩) (by assumption) ?rest17
        case hy17 => (intro w hSw; (try dsimp only at hSw); go_simp; try with_reducible rfl)
        try simp only [Act.put, List.setIfInBounds_toArray, List.set_cons_zero, List.set_cons_succ]
        refine' wpAnyH_take (i := 3) (v := ?v18) rfl (by kernel_rfl) (by kernel_rfl) (by kernel_rfl) (fun _ _ _ h => h) (Or.inl ⟨by kernel_rfl, ?hy18⟩) (by assumption) ?rest18
        case hy18 => (intro w hSw; (try dsimp only at hSw); go_simp; try with_reducible rfl)
        try simp only [Act.put, List.setIfInBounds_toArray, List.set_cons_zero, List.set_cons_succ]
        refine wpAnyH_take (i := 4) (v := (.int .i64 ((z1 : Int) * 2))) rfl (by kernel_rfl) (by kernel_rfl) (by kernel_rfl) (fun _ _ _ h => h) (Or.inl ⟨by kernel_rfl, ?_⟩) hHeld ?_
        · intro w hSw
          go_simp
          first | done | ((try rw [Int.tdiv_eq_ediv_of_nonneg (by omega)]); (try rw [Int.tmod_eq_emod_of_nonneg (by omega)]); (try rw [IntKind.wrap_i64]); (try omega))
        try simp only [Act.put, List.setIfInBounds_toArray, List.set_cons_zero, List.set_cons_succ]
        refine wpAnyH_take (i := 5) (v := (.int .i64 (nn : Nat))) rfl (by kernel_rfl) (by kernel_rfl) (by kernel_rfl) (fun _ _ _ h => h) (Or.inl ⟨by kernel_rfl, ?_⟩) hHeld ?_
        · intro w hSw
          go_simp
        refine' wpAnyH_take (i := 7) (v := ?v19) rfl (by kernel_rfl) (by kernel_rfl) (by kernel_rfl) (fun _ _ _ h => h) (Or.inl ⟨by kernel_rfl, ?hy19⟩) (by assumption) ?rest19
        case hy19 => (intro w hSw; (try dsimp only at hSw); go_simp; try with_reducible rfl)
        try simp only [Act.put, List.setIfInBounds_toArray, List.set_cons_zero, List.set_cons_succ]
        refine wpAnyH_ready (rs := [6]) (by kernel_rfl) (by simp) ?_
        refine AllReadyH.cons rfl (fun K hK => ?_) AllReadyH.nil
        go_simp
        go_at_call 16
        refine (HP1.out _).mono ?_
        rintro er w4 ⟨rfl, b4⟩
        have HKa := Lib.hid (HK9.out.below b4)
        clear HK9 b4
        clear hHeld
        go_wp2_with fail
        refine hK.out _ _ trivial (fun hHeld => ?_)
        clear hK K
        try simp only [Act.put, List.setIfInBounds_toArray, List.set_cons_zero, List.set_cons_succ]
        refine wpAnyH_ready (rs := [8]) (by kernel_rfl) (by simp) ?_
        refine AllReadyH.cons rfl (fun K hK => ?_) AllReadyH.nil
        go_simp
        go_at_call 16
        refine (HP2.out _).mono ?_
        rintro er w5 ⟨rfl, b5⟩
        have HKb := Lib.hid (HKa.out.below b5)
        clear HKa b5
        clear hHeld
        go_wp2_with fail
        refine hK.out _ _ trivial (fun hHeld => ?_)
        clear hK K
        try simp only [Act.put, List.setIfInBounds_toArray, List.set_cons_zero, List.set_cons_succ]
        refine wpAnyH_take (i := 9) (v := (.string (p1 ++ p2))) rfl (by kernel_rfl) (by kernel_rfl) (by kernel_rfl) (fun _ _ _ h => h) (Or.inl ⟨by kernel_rfl, ?_⟩) hHeld ?_
        · intro w hSw
          go_simp
          first | done | omega | ((try simp only [ByteArray.size_append]); omega)
        try simp only [Act.put, List.setIfInBounds_toArray, List.set_cons_zero, List.set_cons_succ]
        refine wpAnyH_ready (rs := [10]) (by kernel_rfl) (by simp) ?_
        refine AllReadyH.cons rfl (fun K hK => ?_) AllReadyH.nil
        go_simp
        go_at_call 15
        refine (mText (p1 ++ p2) HKb.out (by rw [List.length_append]; omega)).mono ?_
        rintro er w7 ⟨rfl, hk7⟩
        have HKc := Lib.hid hk7
        clear HKb hk7
        clear hHeld
        go_wp2_with fail
        refine hK.out _ _ trivial (fun hHeld => ?_)
        clear hK K
        try simp only [Act.put, List.setIfInBounds_toArray, List.set_cons_zero, List.set_cons_succ]
        refine wpAnyH_done (by kernel_rfl) ?_ _
        go_wp2_with fail
        refine ⟨⟨f, sv.extract z1 sv.size, _, [], _, rfl, ⟨by omega, by rw [List.length_nil]; omega, by rw [List.length_nil, List.length_append, List.length_append, hps]; omega⟩, HM2, HKc⟩, ?_⟩
        simp only [strLen]
        omega
    · have hem : sv.toList.isEmpty = true := by rw [ByteArray.toList_eq, List.isEmpty_iff]; exact List.eq_nil_of_length_eq_zero (by omega)
      have HE : Hid (M = l ++ flushB ys) := by unfold Hid; rw [HM.out, List.eq_nil_of_length_eq_zero (show sv.data.toList.length = 0 by omega), mkP_end]; rfl
      have HF := Lib.hid (mFlush HK.out (by omega) (by omega))
      go_wp2_with fail
      refine HF.out.mono ?_
      rintro e w8 ⟨rfl, k8⟩
      have HG := Lib.hid (mString k8)
      clear k8
      go_wp2_with fail
      refine HG.out.mono ?_
      rintro e w9 ⟨rfl, b9⟩
      have HB9 : Hid (Below w.heap.size w w9) := hB2.out.trans (b9.mono (by rw [HMB.out]; exact hB2.out.size))
      clear b9
      go_wp2_with fail
      go_ret
      rw [HE.out]
      exact ⟨rfl, HB9.out⟩
end Go.Proofs.Ytlkpgefapcfdbaa
