/- Walks: chapter 33's apply: it throws. -/
import Derived.Test.YtlkpgefapcfdbaaDeltaM3
import Derived.Test.YtlkpgefapcfdbaaDeltaBld
import Derived.StillTailTactics
import Derived.Deep.RegionHeld3
namespace Go.Proofs.Ytlkpgefapcfdbaa
open Go.RowKit
set_option linter.unusedVariables false
set_option linter.unusedSimpArgs false
def sizeP : Part → Nat
  | .lit b => b.length
  | .cop n _ => n
def atP : Part → Nat
  | .lit _ => 0
  | .cop _ k => k
def okP (base : List UInt8) : Part → Prop
  | .lit _ => True
  | .cop n k => k + n ≤ base.length
instance (base : List UInt8) (p : Part) : Decidable (okP base p) := by cases p <;> unfold okP <;> infer_instance
theorem apP_step (base : List UInt8) (b : Nat) (sum : List UInt8) (f : Nat) (rest out : List UInt8) (p : Part) (more : List UInt8) (h0 : rest ≠ []) (hr : rdPart rest = some (p, more)) :
    apP base b sum (f + 1) rest out = if sizeP p > b - out.length then ([], 4) else if ¬ okP base p then ([], 4) else apP base b sum f more (out ++ textP base p) := by
  rw [apP, if_neg h0, hr]
  cases p with
  | lit s =>
    show (if s.length > b - out.length then _ else _) = _
    by_cases h1 : s.length > b - out.length
    · rw [if_pos h1, if_pos (show sizeP (.lit s) > b - out.length from h1)]
    · rw [if_neg h1, if_neg (show ¬ sizeP (.lit s) > b - out.length from h1), if_neg (show ¬ ¬ okP base (.lit s) from fun h => h trivial)]
      rfl
  | cop n k =>
    show (if k > base.length ∨ n > base.length - k ∨ n > b - out.length then _ else _) = _
    by_cases h1 : n > b - out.length
    · rw [if_pos (.inr (.inr h1)), if_pos (show sizeP (.cop n k) > b - out.length from h1)]
    · rw [if_neg (show ¬ sizeP (.cop n k) > b - out.length from h1)]
      by_cases h2 : k + n ≤ base.length
      · rw [if_neg (by omega), if_neg (show ¬ ¬ okP base (.cop n k) from fun h => h h2)]
      · rw [if_pos (by omega), if_pos (show ¬ okP base (.cop n k) from h2)]
theorem rdPart_lt64 (d : List UInt8) (p : Part) (more : List UInt8) (h : rdPart d = some (p, more)) : sizeP p < 18446744073709551616 ∧ 1 ≤ sizeP p ∧ atP p < 18446744073709551616 := by
  have h1 := (vTake_lt d).1
  have h2 := (vTake_lt (d.drop (vTake d).2.1)).1
  unfold rdPart at h
  split at h
  · cases h
  · rename_i hn
    split at h
    · split at h
      · cases h
      · injection h with h
        injection h with h3 h4
        subst h3
        dsimp only [sizeP, atP]
        omega
    · split at h
      · cases h
      · injection h with h
        injection h with h3 h4
        subst h3
        dsimp only [sizeP, atP]
        rw [List.length_take]
        omega
theorem partA_eq (p : Part) : ∃ (c : Bool) (k : Nat) (s : ByteArray), partA p = .agg #[.bool c, .int .u64 (sizeP p : Nat), .int .u64 (k : Nat), .string s] := by
  cases p with
  | lit b => exact ⟨false, 0, _, rfl⟩
  | cop n k => exact ⟨true, k, ⟨#[]⟩, rfl⟩
theorem pText_any (p : Part) (base : ByteArray) (w : World) (hb : base.size ≤ 1000000) (h1 : sizeP p < 18446744073709551616) (h2 : atP p < 18446744073709551616) :
    Calls Try.prog 46 #[partA p, .string base] w fun e w' => (if okP base.data.toList p then e = .returned (.string ⟨(textP base.data.toList p).toArray⟩) else e = thrownE 4) ∧ Below w.heap.size w w' := by
  have hbl : base.data.toList.length = base.size := by simp
  cases p with
  | lit l => exact (pText_lit l base w).mono fun e w' h => ⟨by rw [if_pos (show okP base.data.toList (.lit l) from trivial)]; exact h.1, h.2⟩
  | cop n k =>
    by_cases ho : k + n ≤ base.size
    · refine (pText_ok n k base w ho hb).mono fun e w' h => ⟨?_, h.2⟩
      rw [if_pos (show okP base.data.toList (.cop n k) by show _ ≤ _; rw [hbl]; exact ho), h.1]
      congr 2
      apply ByteArray.ext; apply Array.toList_inj.1
      rw [Lib.extract_data]
      simp [textP]
    · refine (pText_bad n k base w (by omega) hb h1 h2).mono fun e w' h => ⟨?_, h.2⟩
      rw [if_neg (show ¬ okP base.data.toList (.cop n k) by show ¬ _ ≤ _; rw [hbl]; exact ho)]
      exact h.1
def outE (r : List UInt8 × Nat) : Ending := if r.2 = 0 then .returned (.string ⟨r.1.toArray⟩) else thrownE r.2
theorem outE_none (k : Nat) : outE ([], k + 1) = thrownE (k + 1) := rfl
theorem outE_some (l : List UInt8) : outE (l, 0) = .returned (.string ⟨l.toArray⟩) := rfl
/-- a head in a block of its own -/
def HdAt (w : World) (n a c : Nat) (sum : ByteArray) : Prop := w.heap[n]? = some (.cells #[.int .u64 (a : Nat), .int .u64 (c : Nat), .string sum] 70 (0, 0))
theorem cells3 {w : World} {n : Nat} {a b c : Value} {T : TypeId} (h : w.heap[n]? = some (.cells #[a, b, c] T (0, 0))) :
    w.cell? ⟨n, 0, none⟩ = some a ∧ w.cell? ⟨n, 1, none⟩ = some b ∧ w.cell? ⟨n, 2, none⟩ = some c := by
  refine ⟨?_, ?_, ?_⟩ <;> (rw [Lib.cell_of_heap h]; rfl)
def rdLeft (w : World) (b : Nat) : Nat := match w.cell? ⟨b, 0, none⟩ with
  | some (.string s) => s.size
  | _ => 0
theorem RdAt.left {w : World} {b : Nat} {s : ByteArray} (h : RdAt w b s) : rdLeft w b = s.size := by unfold rdLeft; rw [h.cell]
theorem bldLies43 : liesAt Try.prog Try.prog.depth 43 ((([] : List Value).length + 2) / Try.prog.cellsOf 43) 0 43 1 = true := by kernel_rfl
/-- all but block b as before, out of worlds where all else lies above -/
theorem gr_two {w w1 w2 : World} {b n : Nat} {ob : Option Nat} (h : w.grownBy w1 (some b)) (k : Two w1 w2 n ob) (hn : w.heap.size ≤ n) (ho : ∀ g, ob = some g → w.heap.size ≤ g) : w.grownBy w2 (some b) :=
  ⟨k.os.trans h.os, k.tape.trans h.tape, k.output.trans h.output, Nat.le_trans h.size k.size, fun i hi hne => (k.block i (Nat.lt_of_lt_of_le hi h.size) (by omega) (fun e => by have := ho i e.symm; omega)).trans (h.block i hi hne)⟩
theorem EB.drew {T : TypeId} {rest : List Value} {B : Nat} {w : World} {b : Nat} {p v : Value} {l : List UInt8} (h : EB T rest B w b p v l) : EB T rest B w.drew b p v l := ⟨h.blk, h.own.drew, h.ne, h.self, h.nil⟩
theorem eLen2 {T : TypeId} {rest : List Value} {B : Nat} {w : World} {b : Nat} {p v : Value} {l : List UInt8} (h : EB T rest B w b p v l) :
    Calls Try.prog 45 #[.pointer (some ⟨b, 0, none⟩)] w fun e w' => e = .returned (.int .i64 (l.length : Nat)) ∧ w' = w := (eLen T rest B b p v l w h).mono fun e w' h => ⟨h.1, h.2.symm⟩
theorem EB.below {T : TypeId} {rest : List Value} {B : Nat} {w w' : World} {b : Nat} {p v : Value} {l : List UInt8} (h : EB T rest B w b p v l) (hb : Below w.heap.size w w') : EB T rest B w' b p v l :=
  ⟨(hb.block _ h.lt).trans h.blk, h.own.kept (gr_below hb (some b)) (Or.inr h.ne), h.ne, h.self, h.nil⟩
theorem textP_len (base : List UInt8) (q : Part) (h : okP base q) : (textP base q).length = sizeP q := by
  cases q with
  | lit l => rfl
  | cop n k =>
    have : k + n ≤ base.length := h
    show ((base.drop k).take n).length = n
    rw [List.length_take, List.length_drop]
    omega
theorem BR.off {w : World} {b : Nat} {v : Value} {l : List UInt8} {n : Nat} {cs : Array Value} {T : TypeId} {fr : Nat × Nat} (h : BR w b v l) (hn : w.heap[n]? = some (.cells cs T fr)) (hT : T ≠ 5) : some n ≠ v.ownBlock := by
  intro e
  rcases h.2.2 with ⟨_, rfl⟩ | ⟨_, g, cap, cur, fr', rfl, _, _, hg, _⟩
  · cases e
  · cases e
    rw [hg] at hn
    cases hn
    exact hT rfl
theorem hd_lt {w : World} {n a c : Nat} {sum : ByteArray} (h : HdAt w n a c sum) : n < w.heap.size := by
  rcases Nat.lt_or_ge n w.heap.size with h' | h'
  · exact h'
  · have hb : w.heap[n]? = _ := h
    simp [Array.getElem?_eq_none h'] at hb
theorem apply_keep {w w4 w5 : World} {n a c b N : Nat} {sum : ByteArray} {v : Value} {o : List UInt8} (h1 : HdAt w4 n a c sum) (h2 : BR w4 N v o) (h3 : w.grownBy w4 (some b)) (h4 : BR w5 N v o) (h5 : w4.grownBy w5 v.ownBlock) (h6 : ∀ g, v.ownBlock = some g → w.heap.size ≤ g) :
    HdAt w5 n a c sum ∧ BR w5 N v o ∧ w.grownBy w5 (some b) := by
  refine ⟨(h5.block n (hd_lt h1) (h2.off h1 (by decide))).trans h1, h4, ?_⟩
  exact ⟨h5.os.trans h3.os, h5.tape.trans h3.tape, h5.output.trans h3.output, Nat.le_trans h3.size h5.size, fun i hi hne => (h5.block i (Nat.lt_of_lt_of_le hi h3.size) (fun e => by have := h6 i e.symm; omega)).trans (h3.block i hi hne)⟩
theorem BR.below {w w' : World} {b : Nat} {v : Value} {l : List UInt8} (h : BR w b v l) (hb : Below w.heap.size w w') : BR w' b v l := by
  obtain ⟨h1, h2, h3⟩ := h
  have hlt := World.block_lt_of_cell? w _ h1
  refine ⟨(World.cell?_of_block (hb.block b hlt)).trans h1, h2, ?_⟩
  rcases h3 with h3 | ⟨h0, g, cap, cur, fr, h4, h5, h6, h7, h8⟩
  · exact Or.inl h3
  · have hg : g < w.heap.size := by
      rcases Nat.lt_or_ge g w.heap.size with h' | h'
      · exact h'
      · simp [Array.getElem?_eq_none h'] at h7
    exact Or.inr ⟨h0, g, cap, cur, fr, h4, h5, h6, (hb.block g hg).trans h7, h8⟩
theorem apply_keep2 {w w4 w5 : World} {n a c b N : Nat} {sum : ByteArray} {v : Value} {o : List UInt8} (h : HdAt w4 n a c sum ∧ BR w4 N v o ∧ w.grownBy w4 (some b)) (hb : Below w4.heap.size w4 w5) :
    HdAt w5 n a c sum ∧ BR w5 N v o ∧ w.grownBy w5 (some b) :=
  ⟨(hb.block n (hd_lt h.1)).trans h.1, h.2.1.below hb, h.2.2.trans (gr_below hb (some b))⟩
set_option maxRecDepth 20000 in
set_option maxHeartbeats 4000000 in
theorem rApply_any (b : Nat) (base s : ByteArray) (w : World) (h : RdAt w b s) (hb : base.size ≤ 1000000) (hs : s.size ≤ 1000000) :
    Calls Try.prog 29 #[.pointer (some ⟨b, 0, none⟩), .string base] w fun e w' => e = outE (apD base.data.toList s.data.toList) ∧ w.grownBy w' (some b) := by
  have hbl : base.data.toList.length = base.size := by simp
  have hbN := h.lt
  have hv : apD base.data.toList s.data.toList = apD base.data.toList s.data.toList := rfl
  conv at hv => rhs; unfold apD
  cases hr : rdHead s.data.toList with
  | none =>
    rw [hr] at hv
    have HV := Lib.hid hv
    have HH := Lib.hid (rHead_none b s w h hs hr)
    clear hv hr h
    go_enter Try.func29, Try.ntmps29
    go_wp2_with fail
    refine HH.out.mono ?_
    rintro e w1 ⟨rfl, b1⟩
    unfold thrownE
    go_wp2_with fail
    exact ⟨rfl, by rw [HV.out]; rfl, b1⟩
  | some r =>
    obtain ⟨a, c, sum, rest⟩ := r
    obtain ⟨ha1, hc1, hs4, hrl⟩ : a < 18446744073709551616 ∧ c < 18446744073709551616 ∧ sum.length = 4 ∧ rest.length ≤ s.size := by
      obtain ⟨i1, i2, i3, i4, i5, i6, i7⟩ := rdHead_inv _ _ _ _ _ hr
      have j1 := (vTake_lt s.data.toList).1
      have j2 := (vTake_lt (s.data.toList.drop (vTake s.data.toList).2.1)).1
      have hsl : s.data.toList.length = s.size := by simp
      refine ⟨by omega, by omega, ?_, ?_⟩
      · rw [i6, List.length_take]; omega
      · rw [i7, List.length_drop, List.length_drop, List.length_drop]; omega
    have HH := Lib.hid (rHead_some b s w h hs a c sum rest hr)
    rw [hr] at hv
    dsimp only at hv
    rw [hbl] at hv
    clear hr h
    by_cases hab : a = base.size
    · rw [if_neg (by omega)] at hv
      have hd1 : ((a : Int) == (base.size : Int)) = true := by simp; omega
      have HM1 := Lib.hid (fun w => must_ok 10 w)
      by_cases hm : c > 65536
      · rw [if_pos hm] at hv
        have HV := Lib.hid hv; clear hv
        have hm' : decide ((c : Int) ≤ 65536) = false := by simp; omega
        have hm2 : decide (c ≤ 65536) = false := by simp; omega
        have HM2 := Lib.hid (fun w => must_bad 4 w)
        go_enter Try.func29, Try.ntmps29
        go_wp2_with fail
        refine HH.out.mono ?_
        rintro e w1 ⟨rfl, r1, b1⟩
        go_wp2_with fail
        refine (HM1.out _).mono ?_
        rintro e w2 ⟨rfl, rfl⟩
        go_wp2_with fail
        refine (HM2.out _).mono ?_
        rintro e w2 ⟨rfl, rfl⟩
        unfold thrownE
        go_wp2_with fail
        refine ⟨rfl, by rw [HV.out]; rfl, ?_⟩
        exact b1.trans (World.grownBy_alloc w1 _ _)
      · rw [if_neg hm] at hv
        have HV := Lib.hid hv; clear hv
        have hm' : decide ((c : Int) ≤ 65536) = true := by simp; omega
        have hm2 : decide (c ≤ 65536) = true := by simp; omega
        have HM2 := Lib.hid (fun w => must_ok 4 w)
        go_enter Try.func29, Try.ntmps29
        go_wp2_with fail
        refine HH.out.mono ?_
        rintro e w1 ⟨rfl, r1, b1⟩
        have R1 := Lib.hid r1
        have B1 := Lib.hid b1
        have hNN := b1.size
        have hbN1 : b ≠ w1.heap.size := by omega
        clear r1 b1
        go_wp2_with fail
        refine (HM1.out _).mono ?_
        rintro e w2 ⟨rfl, rfl⟩
        go_wp2_with fail
        refine (HM2.out _).mono ?_
        rintro e w2 ⟨rfl, rfl⟩
        go_wp2_with fail
        have HI : Hid (RdAt ((w1.alloc (.cells #[.int .u64 (base.size : Nat), .int .u64 (c : Nat), .string ⟨sum.toArray⟩] 70)).alloc (.cells #[.pointer none, .slice none 0 0] 43)) b ⟨rest.toArray⟩ ∧
            HdAt ((w1.alloc (.cells #[.int .u64 (base.size : Nat), .int .u64 (c : Nat), .string ⟨sum.toArray⟩] 70)).alloc (.cells #[.pointer none, .slice none 0 0] 43)) w1.heap.size base.size c ⟨sum.toArray⟩ ∧
            EB 43 [] w.heap.size ((w1.alloc (.cells #[.int .u64 (base.size : Nat), .int .u64 (c : Nat), .string ⟨sum.toArray⟩] 70)).alloc (.cells #[.pointer none, .slice none 0 0] 43)) (w1.heap.size + 1) (.pointer none) (.slice none 0 0) [] ∧
            w.grownBy ((w1.alloc (.cells #[.int .u64 (base.size : Nat), .int .u64 (c : Nat), .string ⟨sum.toArray⟩] 70)).alloc (.cells #[.pointer none, .slice none 0 0] 43)) (some b)) := by
          refine ⟨(R1.out.alloc _).alloc _, ?_, ⟨?_, World.ownsRow_nil _ _ _ _, by simp [Value.ownBlock], Or.inl rfl, fun _ => rfl⟩, (B1.out.trans (World.grownBy_alloc _ _ _)).trans (World.grownBy_alloc _ _ _)⟩
          · unfold HdAt
            rw [Lib.alloc_old _ _ _ (by simp)]
            exact (MapKept.heap_alloc w1 _).1
          · have := (MapKept.heap_alloc (w1.alloc (.cells #[.int .u64 (base.size : Nat), .int .u64 (c : Nat), .string ⟨sum.toArray⟩] 70)) (.cells #[.pointer none, .slice none 0 0] 43)).1
            rw [show ∀ o, (w1.alloc o).heap.size = w1.heap.size + 1 from fun o => by simp] at this
            exact this
        have hrs : (⟨rest.toArray⟩ : ByteArray).size = rest.length := List.size_toArray
        subst hab
        clear HH HM1 HM2
        go_loopw [] (fun wr => ∃ (f : Nat) (t : ByteArray) (o : List UInt8) (p v : Value), (t.size ≤ s.size ∧ t.size < f ∧ o.length ≤ c) ∧ Hid (apD base.data.toList s.data.toList = apP base.data.toList c sum f t.data.toList o) ∧
          Hid (RdAt wr b t ∧ HdAt wr w1.heap.size base.size c ⟨sum.toArray⟩ ∧ EB 43 [] w.heap.size wr (w1.heap.size + 1) p v o ∧ w.grownBy wr (some b))) (fun wr => rdLeft wr b)
        case atStart => exact ⟨rest.length + 1, ⟨rest.toArray⟩, [], _, _, ⟨by rw [hrs]; exact hrl, by rw [hrs]; exact Nat.lt_succ_self _, Nat.zero_le _⟩, HV, HI⟩
        case round =>
          clear HI R1 B1
          obtain ⟨f, t, o, p, v, ⟨h1, h2, h3⟩, HZ, HX⟩ := hrel
          have hlt := rdPart_lt t.data.toList
          have htl : t.data.toList.length = t.size := by simp
          have hmeas := Lib.hid (HX.out.1.left)
          have c0 := HX.out.1.cell
          obtain ⟨f, rfl⟩ : ∃ g, f = g + 1 := ⟨f - 1, by omega⟩
          by_cases h0 : t.data.toList = []
          · have ht : t.toList.isEmpty = true := by rw [ByteArray.toList_eq, h0]; rfl
            have hz := HZ.out
            rw [h0, apP, if_pos rfl] at hz
            have HS := Lib.hid hz
            have HH := HX.out.2.1
            obtain ⟨i0, i1, i2⟩ := cells3 HH
            have i1' : wr.drew.cell? ⟨w1.heap.size, 1, none⟩ = some (.int .u64 (c : Nat)) := i1
            have HL := Lib.hid (eLen2 HX.out.2.2.1.drew)
            have HE4 := Lib.hid (HX.out.2.2.1.drew)
            have HH4 : Hid (HdAt wr.drew w1.heap.size base.size c ⟨sum.toArray⟩) := HH
            have HG4 : Hid (w.grownBy wr.drew (some b)) := ⟨HX.out.2.2.2.os, HX.out.2.2.2.tape, HX.out.2.2.2.output, HX.out.2.2.2.size, HX.out.2.2.2.block⟩
            clear hz HZ hlt htl HX HH hmeas i0 i1 i2
            by_cases hob : o.length < c
            · rw [if_pos hob] at HS
              have HMb := Lib.hid (fun w => must_bad 1 w)
              have hd4 : ((o.length : Int) == (c : Int)) = false := by simp; omega
              go_wp2_with fail
              refine wp_region_still_tail 5 (by kernel_rfl) (by kernel_rfl) ?_
              simp only [List.take_succ_cons, List.take_zero, List.drop_succ_cons, List.drop_zero]
              change wpStill _ _ wr.drew _ _ _
              obtain ⟨w4, hw4⟩ : ∃ w4, w4 = wr.drew := ⟨_, rfl⟩
              rw [← hw4] at i1' HL HE4 HG4 HH4 ⊢
              have HW4 := Lib.hid hw4
              clear hw4
              still_call HL.out
              iterate 4 still_step
              refine wpStill_nil ?_
              have hw4 := HW4.out
              clear HW4
              subst hw4
              change wpList _ _ _ _ _ wr.drew
              obtain ⟨w4, hw4⟩ : ∃ w4, w4 = wr.drew := ⟨_, rfl⟩
              rw [← hw4] at i1' HL HE4 HG4 HH4 ⊢
              clear hw4
              go_wp2_with fail
              rw [hd4]
              refine (HMb.out _).mono ?_
              rintro e w5 ⟨rfl, rfl⟩
              unfold thrownE
              go_wp2_with fail
              exact ⟨rfl, by rw [HS.out]; rfl, HG4.out⟩
            · rw [if_neg hob] at HS
              have HMb := Lib.hid (fun w => must_ok 1 w)
              have hd4 : ((o.length : Int) == (c : Int)) = true := by simp; omega
              go_wp2_with fail
              refine wp_region_still_tail 5 (by kernel_rfl) (by kernel_rfl) ?_
              simp only [List.take_succ_cons, List.take_zero, List.drop_succ_cons, List.drop_zero]
              change wpStill _ _ wr.drew _ _ _
              obtain ⟨w4, hw4⟩ : ∃ w4, w4 = wr.drew := ⟨_, rfl⟩
              rw [← hw4] at i1' HL HE4 HG4 HH4 ⊢
              have HW4 := Lib.hid hw4
              clear hw4
              still_call HL.out
              iterate 4 still_step
              refine wpStill_nil ?_
              have hw4 := HW4.out
              clear HW4
              subst hw4
              change wpList _ _ _ _ _ wr.drew
              obtain ⟨w4, hw4⟩ : ∃ w4, w4 = wr.drew := ⟨_, rfl⟩
              rw [← hw4] at i1' HL HE4 HG4 HH4 ⊢
              clear hw4
              go_wp2_with fail
              rw [hd4]
              refine (HMb.out _).mono ?_
              rintro e w5 ⟨rfl, rfl⟩
              go_wp2_with fail
              have HVG : Hid (∀ g, v.ownBlock = some g → w.heap.size ≤ g) := fun g hg => (HE4.out.own.lt g hg).1
              have HCS : Hid (∀ w, Calls Try.prog 18 #[.string ⟨o.toArray⟩] w fun e w' => e = .returned (.int .u32 (crcMore 0 o).toNat) ∧ w = w') := fun w => crcSum_any ⟨o.toArray⟩ w (by rw [show (⟨o.toArray⟩ : ByteArray).size = o.length from List.size_toArray]; unfold maxLen; omega)
              have HCB := Lib.hid (fun w => crcBytes_any (crcMore 0 o) w)
              generalize crcMore 0 o = cr at *
              by_cases hq : crcBytes cr = sum
              · rw [if_neg (fun h => h hq)] at HS
                have hq' : ((⟨(crcBytes cr).toArray⟩ : ByteArray).toList == (⟨sum.toArray⟩ : ByteArray).toList) = true := by rw [hq]; simp
                have hq2 : ((⟨(crcBytes cr).toArray⟩ : ByteArray).toList == sum) = true := by rw [hq, ByteArray.toList_eq]; simp
                have HMc := Lib.hid (fun w => must_ok 3 w)
                refine wp_region_held_drew (S := fun w' => HdAt w' w1.heap.size base.size c ⟨sum.toArray⟩ ∧ BR w' (w1.heap.size + 1) v o ∧ w.grownBy w' (some b)) (by kernel_rfl) ⟨HH4.out, HE4.out.br, ⟨HG4.out.os, HG4.out.tape, HG4.out.output, HG4.out.size, HG4.out.block⟩⟩ (fun hHeld => ?_)
                clear HH4 HE4 HG4 HL i1'
                refine' wpAnyH_take (i := 3) (v := ?v1) rfl (by kernel_rfl) (by kernel_rfl) (by kernel_rfl) (fun _ _ _ h => h) (Or.inl ⟨by kernel_rfl, ?hy1⟩) (by assumption) ?rest1
                case hy1 => (intro w hSw; (try dsimp only at hSw); go_simp; try with_reducible rfl)
                try simp only [Act.put, List.setIfInBounds_toArray, List.set_cons_zero, List.set_cons_succ]
                refine wpAnyH_take (i := 4) (v := (.string ⟨sum.toArray⟩)) rfl (by kernel_rfl) (by kernel_rfl) (by kernel_rfl) (fun _ _ _ h => h) (Or.inl ⟨by kernel_rfl, ?_⟩) hHeld ?_
                · intro w hSw
                  have hh := (cells3 hSw.1).2.2
                  go_simp
                try simp only [Act.put, List.setIfInBounds_toArray, List.set_cons_zero, List.set_cons_succ]
                refine wpAnyH_ready (rs := [0]) (by kernel_rfl) (by simp) ?_
                refine AllReadyH.cons rfl (fun K hK => ?_) AllReadyH.nil
                go_simp
                go_at_call 21
                refine (eString _ _ _ _ hHeld.2.1).mono ?_
                rintro er w5 ⟨rfl, br, gr⟩
                have HS5 := Lib.hid (apply_keep hHeld.1 hHeld.2.1 hHeld.2.2 br gr HVG.out)
                clear br gr hHeld
                go_wp2_with fail
                refine hK.out _ _ HS5.out (fun hHeld => ?_)
                clear hK K
                try simp only [Act.put, List.setIfInBounds_toArray, List.set_cons_zero, List.set_cons_succ]
                refine wpAnyH_ready (rs := [1]) (by kernel_rfl) (by simp) ?_
                refine AllReadyH.cons rfl (fun K hK => ?_) AllReadyH.nil
                go_simp
                go_at_call 18
                refine (HCS.out _).mono ?_
                rintro er w6 ⟨rfl, rfl⟩
                go_wp2_with fail
                refine hK.out _ _ HS5.out (fun hHeld => ?_)
                clear hK K
                try simp only [Act.put, List.setIfInBounds_toArray, List.set_cons_zero, List.set_cons_succ]
                refine wpAnyH_ready (rs := [2]) (by kernel_rfl) (by simp) ?_
                refine AllReadyH.cons rfl (fun K hK => ?_) AllReadyH.nil
                go_simp
                go_at_call 17
                refine (HCB.out _).mono ?_
                rintro er w6 ⟨rfl, b6⟩
                have HS6 := Lib.hid (apply_keep2 HS5.out b6)
                clear b6 hHeld
                go_wp2_with fail
                refine hK.out _ _ HS6.out (fun hHeld => ?_)
                clear hK K
                try simp only [Act.put, List.setIfInBounds_toArray, List.set_cons_zero, List.set_cons_succ]
                refine wpAnyH_take (i := 5) (v := (.bool true)) rfl (by kernel_rfl) (by kernel_rfl) (by kernel_rfl) (fun _ _ _ h => h) (Or.inl ⟨by kernel_rfl, ?_⟩) hHeld ?_
                · intro w hSw
                  go_simp
                try simp only [Act.put, List.setIfInBounds_toArray, List.set_cons_zero, List.set_cons_succ]
                refine wpAnyH_ready (rs := [6]) (by kernel_rfl) (by simp) ?_
                refine AllReadyH.cons rfl (fun K hK => ?_) AllReadyH.nil
                go_simp
                go_at_call 35
                refine (HMc.out _).mono ?_
                rintro er w7 ⟨rfl, rfl⟩
                go_wp2_with fail
                refine hK.out _ _ HS6.out (fun hHeld => ?_)
                clear hK K
                try simp only [Act.put, List.setIfInBounds_toArray, List.set_cons_zero, List.set_cons_succ]
                refine wpAnyH_done (by kernel_rfl) ?_ _
                go_wp2_with fail
                refine (eString _ _ _ _ HS6.out.2.1).mono ?_
                rintro e w8 ⟨rfl, br, gr⟩
                have HS8 := Lib.hid (apply_keep HS6.out.1 HS6.out.2.1 HS6.out.2.2 br gr HVG.out)
                clear br gr
                go_wp2_with fail
                go_ret
                exact ⟨by rw [HS.out]; rfl, HS8.out.2.2⟩
              · rw [if_pos hq] at HS
                have hq' : ((⟨(crcBytes cr).toArray⟩ : ByteArray).toList == (⟨sum.toArray⟩ : ByteArray).toList) = false := by rw [ByteArray.toList_eq, ByteArray.toList_eq]; simpa using hq
                have hq2 : ((⟨(crcBytes cr).toArray⟩ : ByteArray).toList == sum) = false := by rw [ByteArray.toList_eq]; simpa using hq
                have HMc := Lib.hid (fun w => must_bad 3 w)
                refine wp_region_held_drew (S := fun w' => HdAt w' w1.heap.size base.size c ⟨sum.toArray⟩ ∧ BR w' (w1.heap.size + 1) v o ∧ w.grownBy w' (some b)) (by kernel_rfl) ⟨HH4.out, HE4.out.br, ⟨HG4.out.os, HG4.out.tape, HG4.out.output, HG4.out.size, HG4.out.block⟩⟩ (fun hHeld => ?_)
                clear HH4 HE4 HG4 HL i1'
                refine' wpAnyH_take (i := 3) (v := ?v2) rfl (by kernel_rfl) (by kernel_rfl) (by kernel_rfl) (fun _ _ _ h => h) (Or.inl ⟨by kernel_rfl, ?hy2⟩) (by assumption) ?rest2
                case hy2 => (intro w hSw; (try dsimp only at hSw); go_simp; try with_reducible rfl)
                try simp only [Act.put, List.setIfInBounds_toArray, List.set_cons_zero, List.set_cons_succ]
                refine wpAnyH_take (i := 4) (v := (.string ⟨sum.toArray⟩)) rfl (by kernel_rfl) (by kernel_rfl) (by kernel_rfl) (fun _ _ _ h => h) (Or.inl ⟨by kernel_rfl, ?_⟩) hHeld ?_
                · intro w hSw
                  have hh := (cells3 hSw.1).2.2
                  go_simp
                try simp only [Act.put, List.setIfInBounds_toArray, List.set_cons_zero, List.set_cons_succ]
                refine wpAnyH_ready (rs := [0]) (by kernel_rfl) (by simp) ?_
                refine AllReadyH.cons rfl (fun K hK => ?_) AllReadyH.nil
                go_simp
                go_at_call 21
                refine (eString _ _ _ _ hHeld.2.1).mono ?_
                rintro er w5 ⟨rfl, br, gr⟩
                have HS5 := Lib.hid (apply_keep hHeld.1 hHeld.2.1 hHeld.2.2 br gr HVG.out)
                clear br gr hHeld
                go_wp2_with fail
                refine hK.out _ _ HS5.out (fun hHeld => ?_)
                clear hK K
                try simp only [Act.put, List.setIfInBounds_toArray, List.set_cons_zero, List.set_cons_succ]
                refine wpAnyH_ready (rs := [1]) (by kernel_rfl) (by simp) ?_
                refine AllReadyH.cons rfl (fun K hK => ?_) AllReadyH.nil
                go_simp
                go_at_call 18
                refine (HCS.out _).mono ?_
                rintro er w6 ⟨rfl, rfl⟩
                go_wp2_with fail
                refine hK.out _ _ HS5.out (fun hHeld => ?_)
                clear hK K
                try simp only [Act.put, List.setIfInBounds_toArray, List.set_cons_zero, List.set_cons_succ]
                refine wpAnyH_ready (rs := [2]) (by kernel_rfl) (by simp) ?_
                refine AllReadyH.cons rfl (fun K hK => ?_) AllReadyH.nil
                go_simp
                go_at_call 17
                refine (HCB.out _).mono ?_
                rintro er w6 ⟨rfl, b6⟩
                have HS6 := Lib.hid (apply_keep2 HS5.out b6)
                clear b6 hHeld
                go_wp2_with fail
                refine hK.out _ _ HS6.out (fun hHeld => ?_)
                clear hK K
                try simp only [Act.put, List.setIfInBounds_toArray, List.set_cons_zero, List.set_cons_succ]
                refine wpAnyH_take (i := 5) (v := (.bool false)) rfl (by kernel_rfl) (by kernel_rfl) (by kernel_rfl) (fun _ _ _ h => h) (Or.inl ⟨by kernel_rfl, ?_⟩) hHeld ?_
                · intro w hSw
                  go_simp
                try simp only [Act.put, List.setIfInBounds_toArray, List.set_cons_zero, List.set_cons_succ]
                refine wpAnyH_ready (rs := [6]) (by kernel_rfl) (by simp) ?_
                refine AllReadyH.cons rfl (fun K hK => ?_) AllReadyH.nil
                go_simp
                go_at_call 35
                refine (HMc.out _).mono ?_
                rintro er w7 ⟨rfl, rfl⟩
                unfold thrownE
                go_wp2_with fail
                exact ⟨rfl, by rw [HS.out]; rfl, HS6.out.2.2⟩
          · have ht : t.toList.isEmpty = false := by rw [ByteArray.toList_eq, List.isEmpty_eq_false_iff]; exact h0
            have HP := Lib.hid (rPart_any b t wr HX.out.1 (by omega))
            cases hr2 : rdPart t.data.toList with
            | none =>
              have HE : Hid (apD base.data.toList s.data.toList = ([], 2)) := by unfold Hid; rw [HZ.out, apP, if_neg h0, hr2]
              rw [hr2] at HP
              clear hlt htl hr2 HZ
              go_wp2_with fail
              refine HP.out.mono ?_
              rintro e w2 ⟨rfl, b2⟩
              have HB2 := Lib.hid (HX.out.2.2.2.trans b2)
              clear b2
              unfold thrownE
              go_wp2_with fail
              exact ⟨rfl, by rw [HE.out]; rfl, HB2.out⟩
            | some q =>
              obtain ⟨q, more⟩ := q
              obtain ⟨g1, g2, g3⟩ := rdPart_lt64 _ _ _ hr2
              obtain ⟨cc, kk, ss, hpa⟩ := partA_eq q
              have hml := hlt q more hr2
              rw [htl] at hml
              have hms : (⟨more.toArray⟩ : ByteArray).size = more.length := List.size_toArray
              have HS := Lib.hid (HZ.out.trans (apP_step _ _ _ _ _ _ _ _ h0 hr2))
              have hpt := fun w => pText_any q base w hb g1 g3
              rw [hr2] at HP
              dsimp only at HP
              rw [hpa] at HP hpt
              have HT := Lib.hid hpt
              clear hlt htl hr2 HZ hpt hpa g3
              go_wp2_with fail
              refine HP.out.mono ?_
              rintro e w2 ⟨rfl, r2, b2⟩
              have hN5 : w1.heap.size < wr.heap.size := by have := HX.out.2.2.1.lt; omega
              have hN6 := HX.out.2.2.1.lt
              have hsz2 := b2.size
              have hH := cells3 ((Lib.alloc_old w2 (.cells #[.bool cc, .int .u64 (sizeP q : Nat), .int .u64 (kk : Nat), .string ss] 73) _ (by omega)).trans ((b2.block w1.heap.size hN5 (by simp; omega)).trans HX.out.2.1))
              have HE3 : Hid (EB 43 [] w.heap.size (w2.alloc (.cells #[.bool cc, .int .u64 (sizeP q : Nat), .int .u64 (kk : Nat), .string ss] 73)) (w1.heap.size + 1) p v o) := by
                have hE := HX.out.2.2.1
                exact ⟨(Lib.alloc_old w2 _ _ (by omega)).trans ((b2.block _ hN6 (by simp; omega)).trans hE.blk), (hE.own.kept b2 (Or.inr (Lib.ownBlock_ne hE.own HX.out.1 (by decide)))).alloc _, hE.ne, hE.self, hE.nil⟩
              have hcp := cells4 ((MapKept.heap_alloc w2 (.cells #[.bool cc, .int .u64 (sizeP q : Nat), .int .u64 (kk : Nat), .string ss] 73)).1)
              have HHd : Hid (HdAt (w2.alloc (.cells #[.bool cc, .int .u64 (sizeP q : Nat), .int .u64 (kk : Nat), .string ss] 73)) w1.heap.size base.size c ⟨sum.toArray⟩) := (Lib.alloc_old w2 _ _ (by omega)).trans ((b2.block w1.heap.size hN5 (by simp; omega)).trans HX.out.2.1)
              have HR3 : Hid (RdAt (w2.alloc (.cells #[.bool cc, .int .u64 (sizeP q : Nat), .int .u64 (kk : Nat), .string ss] 73)) b ⟨more.toArray⟩) := RdAt.alloc r2 _
              have HG3 : Hid (w.grownBy (w2.alloc (.cells #[.bool cc, .int .u64 (sizeP q : Nat), .int .u64 (kk : Nat), .string ss] 73)) (some b)) := (HX.out.2.2.2.trans b2).trans (World.grownBy_alloc _ _ _)
              obtain ⟨i0, i1, i2⟩ := hH
              obtain ⟨j0, j1, j2, j3, _, _, _, _⟩ := hcp
              have HL := Lib.hid (eLen2 HE3.out.drew)
              clear r2 b2 HX c0 HP
              by_cases hsz : sizeP q > c - o.length
              · have HE : Hid (apD base.data.toList s.data.toList = ([], 4)) := by unfold Hid; rw [HS.out, if_pos hsz]
                have HMb := Lib.hid (fun w => must_bad 4 w)
                have hd4 : decide ((sizeP q : Int) ≤ (c : Int) - (o.length : Int)) = false := by simp; omega
                go_wp2_with fail
                obtain ⟨w3, hw3⟩ : ∃ w3, w3 = (w2.alloc (.cells #[.bool cc, .int .u64 (sizeP q : Nat), .int .u64 (kk : Nat), .string ss] 73)) := ⟨_, rfl⟩
                rw [← hw3] at i0 i1 i2 j0 j1 j2 j3 HE3 HHd HR3 HG3 HL ⊢
                clear hw3
                refine wp_region_still_tail 8 (by kernel_rfl) (by kernel_rfl) ?_
                simp only [List.take_succ_cons, List.take_zero, List.drop_succ_cons, List.drop_zero]
                change wpStill _ _ w3.drew _ _ _
                have i1' : w3.drew.cell? ⟨w1.heap.size, 1, none⟩ = some (.int .u64 (c : Nat)) := i1
                have j1' : w3.drew.cell? ⟨w2.heap.size, 1, none⟩ = some (.int .u64 (sizeP q : Nat)) := j1
                obtain ⟨w4, hw4⟩ : ∃ w4, w4 = w3.drew := ⟨_, rfl⟩
                rw [← hw4] at i1' j1' HL ⊢
                have HW4 := Lib.hid hw4; clear hw4
                iterate 4 still_step
                still_call HL.out
                iterate 3 still_step
                refine wpStill_nil ?_
                go_wp2_with fail
                rw [hd4]
                refine (HMb.out _).mono ?_
                rintro e w5 ⟨rfl, rfl⟩
                unfold thrownE
                go_wp2_with fail
                refine ⟨rfl, by rw [HE.out]; rfl, ?_⟩
                exact ⟨HG3.out.os, HG3.out.tape, HG3.out.output, HG3.out.size, HG3.out.block⟩
              · rw [if_neg hsz] at HS
                have HMb := Lib.hid (fun w => must_ok 4 w)
                have hd4 : decide ((sizeP q : Int) ≤ (c : Int) - (o.length : Int)) = true := by simp; omega
                go_wp2_with fail
                obtain ⟨w3, hw3⟩ : ∃ w3, w3 = (w2.alloc (.cells #[.bool cc, .int .u64 (sizeP q : Nat), .int .u64 (kk : Nat), .string ss] 73)) := ⟨_, rfl⟩
                rw [← hw3] at i0 i1 i2 j0 j1 j2 j3 HE3 HHd HR3 HG3 HL ⊢
                clear hw3
                refine wp_region_still_tail 8 (by kernel_rfl) (by kernel_rfl) ?_
                simp only [List.take_succ_cons, List.take_zero, List.drop_succ_cons, List.drop_zero]
                change wpStill _ _ w3.drew _ _ _
                have i1' : w3.drew.cell? ⟨w1.heap.size, 1, none⟩ = some (.int .u64 (c : Nat)) := i1
                have j0' : w3.drew.cell? ⟨w2.heap.size, 0, none⟩ = some (.bool cc) := j0
                have j1' : w3.drew.cell? ⟨w2.heap.size, 1, none⟩ = some (.int .u64 (sizeP q : Nat)) := j1
                have j2' : w3.drew.cell? ⟨w2.heap.size, 2, none⟩ = some (.int .u64 (kk : Nat)) := j2
                have j3' : w3.drew.cell? ⟨w2.heap.size, 3, none⟩ = some (.string ss) := j3
                have HE4 := Lib.hid (HE3.out.drew)
                have HR4 : Hid (RdAt w3.drew b ⟨more.toArray⟩) := HR3
                have HH4 : Hid (HdAt w3.drew w1.heap.size base.size c ⟨sum.toArray⟩) := HHd
                have HG4 : Hid (w.grownBy w3.drew (some b)) := ⟨HG3.out.os, HG3.out.tape, HG3.out.output, HG3.out.size, HG3.out.block⟩
                obtain ⟨w4, hw4⟩ : ∃ w4, w4 = w3.drew := ⟨_, rfl⟩
                rw [← hw4] at i1' j0' j1' j2' j3' HL HE4 HR4 HG4 HH4 ⊢
                have HW4 := Lib.hid hw4
                clear hw4 HE3 HR3 HG3 HHd i0 i1 i2 j0 j1 j2 j3
                iterate 4 still_step
                still_call HL.out
                iterate 3 still_step
                refine wpStill_nil ?_
                have hw4 := HW4.out
                clear HW4
                subst hw4
                change wpList _ _ _ _ _ w3.drew
                obtain ⟨w4, hw4⟩ : ∃ w4, w4 = w3.drew := ⟨_, rfl⟩
                rw [← hw4] at i1' j0' j1' j2' j3' HL HE4 HR4 HG4 HH4 ⊢
                clear hw4
                go_wp2_with fail
                rw [hd4]
                refine (HMb.out _).mono ?_
                rintro e w5 ⟨rfl, rfl⟩
                go_wp2_with fail
                refine (HT.out _).mono ?_
                rintro e w6 ⟨he, b6⟩
                by_cases hok : okP base.data.toList q
                · rw [if_pos hok] at he
                  rw [if_neg (show ¬ ¬ okP base.data.toList q from fun h => h hok)] at HS
                  subst he
                  have HE6 := Lib.hid (HE4.out.below b6)
                  have HR6 := Lib.hid (HR4.out.below b6 HR4.out.lt)
                  have HH6 : Hid (HdAt w6 w1.heap.size base.size c ⟨sum.toArray⟩) := (b6.block _ (by have := HE4.out.lt; omega)).trans HH4.out
                  have HG6 := Lib.hid (HG4.out.trans (gr_below b6 (some b)))
                  have hlen := textP_len _ _ hok
                  have hsl : (⟨(textP base.data.toList q).toArray⟩ : ByteArray).size = (textP base.data.toList q).length := List.size_toArray
                  have HW := Lib.hid (eText _ _ _ bldLies43 (by decide) _ _ _ _ (⟨(textP base.data.toList q).toArray⟩ : ByteArray) _ HE6.out (by rw [hsl]; omega) HG6.out.size)
                  clear b6 HE4 HR4 HG4 HH4 HL
                  go_wp2_with fail
                  refine HW.out.mono ?_
                  rintro e w7 ⟨rfl, ⟨v', he7⟩, two⟩
                  have hr7 : RdAt w7 b ⟨more.toArray⟩ := (two.block b HR6.out.lt (by omega) (fun e => Lib.ownBlock_ne HE6.out.own HR6.out (by decide) e.symm)).trans HR6.out
                  have hh7 : HdAt w7 w1.heap.size base.size c ⟨sum.toArray⟩ := (two.block _ (by have := HE6.out.lt; omega) (by omega) (fun e => Lib.ownBlock_ne HE6.out.own HH6.out (by decide) e.symm)).trans HH6.out
                  have hg7 := gr_two HG6.out two (by omega) (fun g hg => (HE6.out.own.lt g hg).1)
                  have HX7 := Lib.hid (And.intro hr7 (And.intro hh7 (And.intro he7 hg7)))
                  have hm7 := hr7.left
                  clear hr7 hh7 he7 hg7 two HR6 HH6 HG6 HE6 HW
                  have HM7 := Lib.hid hm7; clear hm7
                  go_wp2_with fail
                  refine ⟨⟨f, ⟨more.toArray⟩, o ++ textP base.data.toList q, _, _, ⟨by rw [hms]; omega, by rw [hms]; omega, by rw [List.length_append]; omega⟩, HS, HX7⟩, ?_⟩
                  rw [HM7.out, hmeas.out, hms]
                  exact hml
                · rw [if_neg hok] at he
                  rw [if_pos hok] at HS
                  subst he
                  have HG6 := Lib.hid (HG4.out.trans (gr_below b6 (some b)))
                  clear b6
                  unfold thrownE
                  go_wp2_with fail
                  exact ⟨rfl, by rw [HS.out]; rfl, HG6.out⟩
    · rw [if_pos hab] at hv
      have HV := Lib.hid hv; clear hv
      have hd1 : ((a : Int) == (base.size : Int)) = false := by simp; omega
      have HM1 := Lib.hid (fun w => must_bad 10 w)
      go_enter Try.func29, Try.ntmps29
      go_wp2_with fail
      refine HH.out.mono ?_
      rintro e w1 ⟨rfl, r1, b1⟩
      go_wp2_with fail
      refine (HM1.out _).mono ?_
      rintro e w2 ⟨rfl, rfl⟩
      unfold thrownE
      go_wp2_with fail
      refine ⟨rfl, by rw [HV.out]; rfl, ?_⟩
      exact b1.trans (World.grownBy_alloc w1 _ _)
end Go.Proofs.Ytlkpgefapcfdbaa
