/- Walks: chapter 33's Sizes. -/
import Derived.Test.YtlkpgefapcfdbaaDeltaM6
namespace Go.Proofs.Ytlkpgefapcfdbaa
open Go.RowKit
set_option linter.unusedVariables false
set_option linter.unusedSimpArgs false
def SzAt (w : World) (N0 N1 x y : Nat) : Prop := w.heap[N0]? = some (.cells #[.int .i64 (x : Nat)] 3 (0, 0)) ∧ w.heap[N1]? = some (.cells #[.int .i64 (y : Nat)] 3 (0, 0))
/-- all but three blocks as they were -/
structure Three (w w' : World) (N0 N1 N2 : Nat) : Prop where
  os : w'.os = w.os
  tape : w'.tape = w.tape
  output : w'.output = w.output
  size : w.heap.size ≤ w'.heap.size
  block : ∀ k, k < w.heap.size → k ≠ N0 → k ≠ N1 → k ≠ N2 → w'.heap[k]? = w.heap[k]?
theorem Three.refl (w : World) (N0 N1 N2 : Nat) : Three w w N0 N1 N2 := ⟨rfl, rfl, rfl, Nat.le_refl _, fun _ _ _ _ _ => rfl⟩
theorem Three.gr {w w' w2 : World} {N0 N1 N2 : Nat} (h : Three w w' N0 N1 N2) (n : Nat) (g : w'.grownBy w2 (some n)) (hn : n = N0 ∨ n = N1 ∨ n = N2) : Three w w2 N0 N1 N2 :=
  ⟨g.os.trans h.os, g.tape.trans h.tape, g.output.trans h.output, Nat.le_trans h.size g.size, fun k hk h0 h1 h2 => (g.block k (Nat.lt_of_lt_of_le hk h.size) (by simp only [ne_eq, Option.some.injEq]; omega)).trans (h.block k hk h0 h1 h2)⟩
theorem Three.alloc {w w' : World} {N0 N1 N2 : Nat} (h : Three w w' N0 N1 N2) (o : Obj) : Three w (w'.alloc o) N0 N1 N2 := h.gr N0 (World.grownBy_alloc w' o _) (.inl rfl)
theorem SzAt.gr {w w' : World} {N0 N1 N2 x y : Nat} (h : SzAt w N0 N1 x y) (g : w.grownBy w' (some N2)) (h0 : N0 ≠ N2) (h1 : N1 ≠ N2) : SzAt w' N0 N1 x y := by
  have lt : ∀ {n : Nat} {o : Obj}, w.heap[n]? = some o → n < w.heap.size := fun {n o} e => by
    rcases Nat.lt_or_ge n w.heap.size with h' | h'
    · exact h'
    · simp [Array.getElem?_eq_none h'] at e
  exact ⟨(g.block N0 (lt h.1) (by simpa using h0)).trans h.1, (g.block N1 (lt h.2) (by simpa using h1)).trans h.2⟩
theorem SzAt.set0 {w : World} {N0 N1 x y : Nat} (h : SzAt w N0 N1 x y) (hne : N0 ≠ N1) (z : Nat) : SzAt (w.setCell ⟨N0, 0, none⟩ (.int .i64 (z : Nat))) N0 N1 z y := by
  refine ⟨?_, ?_⟩
  · simp [World.setCell, Array.getElem?_modify, h.1]
  · rw [Below.heap_setCell _ _ _ _ (by show N1 ≠ N0; omega)]; exact h.2
theorem SzAt.set1 {w : World} {N0 N1 x y : Nat} (h : SzAt w N0 N1 x y) (hne : N0 ≠ N1) (z : Nat) : SzAt (w.setCell ⟨N1, 0, none⟩ (.int .i64 (z : Nat))) N0 N1 x z := by
  refine ⟨?_, ?_⟩
  · rw [Below.heap_setCell _ _ _ _ (by show N0 ≠ N1; omega)]; exact h.1
  · simp [World.setCell, Array.getElem?_modify, h.2]
theorem SzAt.cells {w : World} {N0 N1 x y : Nat} (h : SzAt w N0 N1 x y) : w.cell? ⟨N0, 0, none⟩ = some (.int .i64 (x : Nat)) ∧ w.cell? ⟨N1, 0, none⟩ = some (.int .i64 (y : Nat)) ∧ w.frozen? ⟨N0, 0, none⟩ = false ∧ w.frozen? ⟨N1, 0, none⟩ = false :=
  ⟨by rw [Lib.cell_of_heap h.1]; rfl, by rw [Lib.cell_of_heap h.2]; rfl, Lib.frozen_of_heap h.1 0, Lib.frozen_of_heap h.2 0⟩
set_option maxRecDepth 20000 in
set_option maxHeartbeats 4000000 in
theorem sizes1_any (N0 N1 N2 N3 : Nat) (s : ByteArray) (w : World) (h0 : SzAt w N0 N1 0 0) (h2 : RdAt w N2 s) (h3 : w.heap[N3]? = some (.cells #[.pointer (some ⟨N2, 0, none⟩)] 60 (0, 0))) (h01 : N0 ≠ N1) (h02 : N0 ≠ N2) (h12 : N1 ≠ N2) (h30 : N3 ≠ N0) (h31 : N3 ≠ N1) (h32 : N3 ≠ N2)
    (hs : s.size ≤ 1000000) :
    Calls Try.prog 32 #[.pointer (some ⟨N3, 0, none⟩), .pointer (some ⟨N0, 0, none⟩), .pointer (some ⟨N1, 0, none⟩)] w fun e w' =>
      (((szD s.data.toList).2.2 = 0 ∧ e = .returned (.tuple #[]) ∧ SzAt w' N0 N1 (szD s.data.toList).1 (szD s.data.toList).2.1) ∨ (szD s.data.toList = (0, 0, 2) ∧ e = thrownE 2 ∧ ∃ x y, SzAt w' N0 N1 x y)) ∧ Three w w' N0 N1 N2 := by
  have hv : szD s.data.toList = szD s.data.toList := rfl
  conv at hv => rhs; unfold szD
  have hN3 : N3 < w.heap.size := by
    rcases Nat.lt_or_ge N3 w.heap.size with h' | h'
    · exact h'
    · simp [Array.getElem?_eq_none h'] at h3
  have hc3 : w.cell? ⟨N3, 0, none⟩ = some (.pointer (some ⟨N2, 0, none⟩)) := by rw [Lib.cell_of_heap h3]; rfl
  have H0 := Lib.hid h0
  have H3 := Lib.hid h3
  have H2 := Lib.hid h2
  cases hr : rdHead s.data.toList with
  | none =>
    rw [hr] at hv
    have HV := Lib.hid hv
    have HH := Lib.hid (rHead_none N2 s w h2 hs hr)
    clear hv hr h0 h2 h3
    go_enter Try.func32, Try.ntmps32
    go_wp2_with fail
    refine HH.out.mono ?_
    rintro e w1 ⟨rfl, b1⟩
    unfold thrownE
    go_wp2_with fail
    exact ⟨rfl, .inr ⟨HV.out, rfl, 0, 0, H0.out.gr b1 h02 h12⟩, (Three.refl w _ _ _).gr N2 b1 (.inr (.inr rfl))⟩
  | some r =>
    obtain ⟨a, c, sum, rest⟩ := r
    have hrl : rest.length ≤ s.size := rdHead_le _ _ _ _ _ hr
    have hrs : (⟨rest.toArray⟩ : ByteArray).size = rest.length := List.size_toArray
    have HH := Lib.hid (rHead_some N2 s w h2 hs a c sum rest hr)
    rw [hr] at hv
    dsimp only at hv
    have HV := Lib.hid hv
    clear hv hr h0 h2 h3
    go_enter Try.func32, Try.ntmps32
    go_wp2_with fail
    refine HH.out.mono ?_
    rintro e w1 ⟨rfl, r1, b1⟩
    have HI := Lib.hid (And.intro r1 (And.intro (H0.out.gr b1 h02 h12) ((Three.refl w N0 N1 N2).gr N2 b1 (.inr (.inr rfl)))))
    clear r1 b1 HH
    go_wp2_with fail
    go_loopw [] (fun wr => ∃ (f x y : Nat) (t : ByteArray), (t.size ≤ s.size ∧ t.size < f ∧ x + y + t.size * 65536 ≤ s.size * 65536) ∧ Hid (szD s.data.toList = szP f t.data.toList x y) ∧ Hid (RdAt wr N2 t ∧ SzAt wr N0 N1 x y ∧ Three w wr N0 N1 N2)) (fun wr => rdLeft wr N2)
    case atStart => exact ⟨rest.length + 1, 0, 0, ⟨rest.toArray⟩, ⟨by rw [hrs]; exact hrl, by rw [hrs]; exact Nat.lt_succ_self _, by rw [hrs]; omega⟩, HV, HI⟩
    case round =>
      clear HI H2 HV
      obtain ⟨f, x, y, t, ⟨h1, h2, h3⟩, HZ, HX⟩ := hrel
      have hlt := rdPart_lt t.data.toList
      have htl : t.data.toList.length = t.size := by simp
      have hmeas := Lib.hid (HX.out.1.left)
      have c0 := HX.out.1.cell
      have c3 : wr.cell? ⟨N3, 0, none⟩ = some (.pointer (some ⟨N2, 0, none⟩)) := (World.cell?_of_block (HX.out.2.2.block N3 hN3 h30 h31 h32)).trans hc3
      obtain ⟨f, rfl⟩ : ∃ g, f = g + 1 := ⟨f - 1, by omega⟩
      by_cases hnil : t.data.toList = []
      · have ht : t.toList.isEmpty = true := by rw [ByteArray.toList_eq, hnil]; rfl
        have HE : Hid (szD s.data.toList = (x, y, 0)) := by unfold Hid; rw [HZ.out, hnil, szP, if_pos rfl]
        clear hlt htl
        go_wp2_with fail
        go_end0
        refine ⟨.inl ⟨by rw [HE.out], rfl, ?_⟩, HX.out.2.2⟩
        rw [HE.out]
        exact HX.out.2.1
      · have ht : t.toList.isEmpty = false := by rw [ByteArray.toList_eq, List.isEmpty_eq_false_iff]; exact hnil
        have HP := Lib.hid (rPart_any N2 t wr HX.out.1 (by omega))
        have HY : Hid (szD s.data.toList = match rdPart t.data.toList with
          | none => (0, 0, 2)
          | some (.cop n k, more) => if n > 65536 ∨ k > 65536 then (0, 0, 2) else szP f more (x + n) y
          | some (.lit s, more) => if s.length > 65536 then (0, 0, 2) else szP f more x (y + s.length)) := by
          unfold Hid; rw [HZ.out, szP, if_neg hnil]; rfl
        clear HZ
        cases hr2 : rdPart t.data.toList with
        | none =>
          rw [hr2] at HP HY
          have HE : Hid (szD s.data.toList = (0, 0, 2)) := HY
          clear hlt htl hr2
          go_wp2_with fail
          refine HP.out.mono ?_
          rintro e w2 ⟨rfl, b2⟩
          have HB2 := Lib.hid (And.intro (HX.out.2.1.gr b2 h02 h12) (HX.out.2.2.gr N2 b2 (.inr (.inr rfl))))
          clear b2
          unfold thrownE
          go_wp2_with fail
          exact ⟨rfl, .inr ⟨HE.out, rfl, x, y, HB2.out.1⟩, HB2.out.2⟩
        | some q =>
          obtain ⟨q, more⟩ := q
          rw [hr2] at HP HY
          have hml := hlt q more hr2
          rw [htl] at hml
          have hms : (⟨more.toArray⟩ : ByteArray).size = more.length := List.size_toArray
          obtain ⟨g1, g2, g3⟩ := rdPart_lt64 _ _ _ hr2
          clear hlt htl hr2
          cases q with
          | lit b =>
            dsimp only at HY
            by_cases hb : b.length > 65536
            · rw [if_pos hb] at HY
              have hd : decide ((b.length : Int) ≤ 65536) = false := by simp; omega
              have HM := Lib.hid (fun w => must_bad 2 w)
              go_wp2_with fail
              refine HP.out.mono ?_
              rintro e w2 ⟨rfl, r2, b2⟩
              unfold partA
              have HR2 := Lib.hid r2
              have hz2 := (HX.out.2.1.gr b2 h02 h12)
              have HZ2 := Lib.hid hz2
              have HT2 := Lib.hid (HX.out.2.2.gr N2 b2 (.inr (.inr rfl)))
              have hlt0 : N0 < w2.heap.size := by
                rcases Nat.lt_or_ge N0 w2.heap.size with h' | h'
                · exact h'
                · have := hz2.1; simp [Array.getElem?_eq_none h'] at this
              have hlt1 : N1 < w2.heap.size := by
                rcases Nat.lt_or_ge N1 w2.heap.size with h' | h'
                · exact h'
                · have := hz2.2; simp [Array.getElem?_eq_none h'] at this
              have hlt2 := r2.lt
              obtain ⟨z0, z1, y0, y1⟩ := (hz2.gr (World.grownBy_alloc w2 (.cells #[.bool false, .int .u64 (b.length : Nat), .int .u64 0, .string ⟨b.toArray⟩] 73) (some N2)) h02 h12).cells
              clear r2 b2 HX c0 HP hz2
              go_wp2_with fail
              try rw [hd]
              refine (HM.out _).mono ?_
              rintro e w5 ⟨rfl, rfl⟩
              unfold thrownE
              go_wp2_with fail
              exact ⟨rfl, .inr ⟨HY.out, rfl, x, y, HZ2.out.gr (World.grownBy_alloc w2 _ (some N2)) h02 h12⟩, HT2.out.alloc _⟩
            · rw [if_neg hb] at HY
              have hd : decide ((b.length : Int) ≤ 65536) = true := by simp; omega
              have HM := Lib.hid (fun w => must_ok 2 w)
              go_wp2_with fail
              refine HP.out.mono ?_
              rintro e w2 ⟨rfl, r2, b2⟩
              unfold partA
              have HR2 := Lib.hid r2
              have hz2 := (HX.out.2.1.gr b2 h02 h12)
              have HZ2 := Lib.hid hz2
              have HT2 := Lib.hid (HX.out.2.2.gr N2 b2 (.inr (.inr rfl)))
              have hlt0 : N0 < w2.heap.size := by
                rcases Nat.lt_or_ge N0 w2.heap.size with h' | h'
                · exact h'
                · have := hz2.1; simp [Array.getElem?_eq_none h'] at this
              have hlt1 : N1 < w2.heap.size := by
                rcases Nat.lt_or_ge N1 w2.heap.size with h' | h'
                · exact h'
                · have := hz2.2; simp [Array.getElem?_eq_none h'] at this
              have hlt2 := r2.lt
              obtain ⟨z0, z1, y0, y1⟩ := (hz2.gr (World.grownBy_alloc w2 (.cells #[.bool false, .int .u64 (b.length : Nat), .int .u64 0, .string ⟨b.toArray⟩] 73) (some N2)) h02 h12).cells
              clear r2 b2 HX c0 HP hz2
              go_wp2_with fail
              try rw [hd]
              refine (HM.out _).mono ?_
              rintro e w5 ⟨rfl, rfl⟩
              go_wp2_with fail
              have hrr : RdAt ((w2.setCell ⟨N1, 0, none⟩ (.int .i64 (y + b.length : Nat))).alloc (.cells #[.bool false, .int .u64 (b.length : Nat), .int .u64 0, .string ⟨b.toArray⟩] 73)) N2 ⟨more.toArray⟩ := (HR2.out.grown (gr_set _ N1 0 _) (by omega)).alloc _
              refine ⟨⟨f, x, y + b.length, ⟨more.toArray⟩, ⟨by rw [hms]; omega, by rw [hms]; omega, by rw [hms]; omega⟩, HY, Lib.hid ⟨hrr, (HZ2.out.set1 h01 _).gr (World.grownBy_alloc _ _ (some N2)) h02 h12, (HT2.out.gr N1 (gr_set _ N1 0 _) (.inr (.inl rfl))).alloc _⟩⟩, ?_⟩
              have hm7 := hrr.left
              rw [hmeas.out]
              exact Nat.lt_of_le_of_lt (Nat.le_of_eq (hm7.trans hms)) hml
          | cop n k =>
            dsimp only at HY
            dsimp only [sizeP, atP] at g1 g3
            by_cases hb : n > 65536
            · rw [if_pos (.inl hb)] at HY
              have hd : decide ((n : Int) ≤ 65536) = false := by simp; omega
              have HM := Lib.hid (fun w => must_bad 2 w)
              go_wp2_with fail
              refine HP.out.mono ?_
              rintro e w2 ⟨rfl, r2, b2⟩
              unfold partA
              have HR2 := Lib.hid r2
              have hz2 := (HX.out.2.1.gr b2 h02 h12)
              have HZ2 := Lib.hid hz2
              have HT2 := Lib.hid (HX.out.2.2.gr N2 b2 (.inr (.inr rfl)))
              have hlt0 : N0 < w2.heap.size := by
                rcases Nat.lt_or_ge N0 w2.heap.size with h' | h'
                · exact h'
                · have := hz2.1; simp [Array.getElem?_eq_none h'] at this
              have hlt1 : N1 < w2.heap.size := by
                rcases Nat.lt_or_ge N1 w2.heap.size with h' | h'
                · exact h'
                · have := hz2.2; simp [Array.getElem?_eq_none h'] at this
              have hlt2 := r2.lt
              obtain ⟨z0, z1, y0, y1⟩ := (hz2.gr (World.grownBy_alloc w2 (.cells #[.bool true, .int .u64 (n : Nat), .int .u64 (k : Nat), .string ⟨#[]⟩] 73) (some N2)) h02 h12).cells
              clear r2 b2 HX c0 HP hz2
              go_wp2_with fail
              try rw [hd]
              refine (HM.out _).mono ?_
              rintro e w5 ⟨rfl, rfl⟩
              unfold thrownE
              go_wp2_with fail
              exact ⟨rfl, .inr ⟨HY.out, rfl, x, y, HZ2.out.gr (World.grownBy_alloc w2 _ (some N2)) h02 h12⟩, HT2.out.alloc _⟩
            · have hd : decide ((n : Int) ≤ 65536) = true := by simp; omega
              by_cases hk : k > 65536
              · rw [if_pos (.inr hk)] at HY
                have hd2 : decide ((k : Int) ≤ 65536) = false := by simp; omega
                have HM := Lib.hid (fun w => must_bad 2 w)
                go_wp2_with fail
                refine HP.out.mono ?_
                rintro e w2 ⟨rfl, r2, b2⟩
                unfold partA
                have HR2 := Lib.hid r2
                have hz2 := (HX.out.2.1.gr b2 h02 h12)
                have HZ2 := Lib.hid hz2
                have HT2 := Lib.hid (HX.out.2.2.gr N2 b2 (.inr (.inr rfl)))
                have hlt0 : N0 < w2.heap.size := by
                  rcases Nat.lt_or_ge N0 w2.heap.size with h' | h'
                  · exact h'
                  · have := hz2.1; simp [Array.getElem?_eq_none h'] at this
                have hlt1 : N1 < w2.heap.size := by
                  rcases Nat.lt_or_ge N1 w2.heap.size with h' | h'
                  · exact h'
                  · have := hz2.2; simp [Array.getElem?_eq_none h'] at this
                have hlt2 := r2.lt
                obtain ⟨z0, z1, y0, y1⟩ := (hz2.gr (World.grownBy_alloc w2 (.cells #[.bool true, .int .u64 (n : Nat), .int .u64 (k : Nat), .string ⟨#[]⟩] 73) (some N2)) h02 h12).cells
                clear r2 b2 HX c0 HP hz2
                go_wp2_with fail
                try rw [hd]
                refine (HM.out _).mono ?_
                rintro e w5 ⟨rfl, rfl⟩
                unfold thrownE
                go_wp2_with fail
                exact ⟨rfl, .inr ⟨HY.out, rfl, x, y, HZ2.out.gr (World.grownBy_alloc w2 _ (some N2)) h02 h12⟩, HT2.out.alloc _⟩
              · rw [if_neg (by omega)] at HY
                have hd2 : decide ((k : Int) ≤ 65536) = true := by simp; omega
                have HM := Lib.hid (fun w => must_ok 2 w)
                go_wp2_with fail
                refine HP.out.mono ?_
                rintro e w2 ⟨rfl, r2, b2⟩
                unfold partA
                have HR2 := Lib.hid r2
                have hz2 := (HX.out.2.1.gr b2 h02 h12)
                have HZ2 := Lib.hid hz2
                have HT2 := Lib.hid (HX.out.2.2.gr N2 b2 (.inr (.inr rfl)))
                have hlt0 : N0 < w2.heap.size := by
                  rcases Nat.lt_or_ge N0 w2.heap.size with h' | h'
                  · exact h'
                  · have := hz2.1; simp [Array.getElem?_eq_none h'] at this
                have hlt1 : N1 < w2.heap.size := by
                  rcases Nat.lt_or_ge N1 w2.heap.size with h' | h'
                  · exact h'
                  · have := hz2.2; simp [Array.getElem?_eq_none h'] at this
                have hlt2 := r2.lt
                obtain ⟨z0, z1, y0, y1⟩ := (hz2.gr (World.grownBy_alloc w2 (.cells #[.bool true, .int .u64 (n : Nat), .int .u64 (k : Nat), .string ⟨#[]⟩] 73) (some N2)) h02 h12).cells
                clear r2 b2 HX c0 HP hz2
                go_wp2_with fail
                try rw [hd]
                refine (HM.out _).mono ?_
                rintro e w5 ⟨rfl, rfl⟩
                go_wp2_with fail
                have hrr : RdAt ((w2.setCell ⟨N0, 0, none⟩ (.int .i64 (x + n : Nat))).alloc (.cells #[.bool true, .int .u64 (n : Nat), .int .u64 (k : Nat), .string ⟨#[]⟩] 73)) N2 ⟨more.toArray⟩ := (HR2.out.grown (gr_set _ N0 0 _) (by omega)).alloc _
                refine ⟨⟨f, x + n, y, ⟨more.toArray⟩, ⟨by rw [hms]; omega, by rw [hms]; omega, by rw [hms]; omega⟩, HY, Lib.hid ⟨hrr, (HZ2.out.set0 h01 _).gr (World.grownBy_alloc _ _ (some N2)) h02 h12, (HT2.out.gr N0 (gr_set _ N0 0 _) (.inl rfl)).alloc _⟩⟩, ?_⟩
                have hm7 := hrr.left
                rw [hmeas.out]
                exact Nat.lt_of_le_of_lt (Nat.le_of_eq (hm7.trans hms)) hml
theorem bodyPost_cellF {P : Program} {fn : Func} {R : Ending → World → Prop} {a : Act} {w : World} {V V2 : Value} {a1 a2 u : Tmp} {t1 t2 : TypeId} {ad ad2 : Addr} (h : fn.results = #[.cell a1 t1, .cell a2 t2, .tmp u]) (hp : a.tmps.getD a1 undef = .pointer (some ad)) (hp2 : a.tmps.getD a2 undef = .pointer (some ad2))
    (hl : (loadVar t1 ad).run P w = .ok V w) (hl2 : (loadVar t2 ad2).run P w = .ok V2 w) (hd : a.defers = [])
    (hR : R (.returned (.tuple #[V, V2, a.tmps.getD u undef])) w) : bodyPost P fn R .ret a w :=
  ⟨hd, _, by simp only [results, h, List.mapM_toArray, List.mapM_cons, List.mapM_nil, hp, hp2, asAddr]; simp [hl, hl2], hR⟩
theorem below_three {w W w1 : World} {a b c : Nat} (hW : Below w.heap.size w W) (h : Three W w1 a b c) (ha : w.heap.size ≤ a) (hb : w.heap.size ≤ b) (hc : w.heap.size ≤ c) : Below w.heap.size w w1 :=
  ⟨h.os.trans hW.os, h.tape.trans hW.tape, h.output.trans hW.output, Nat.le_trans hW.size h.size, fun k hk => (h.block k (Nat.lt_of_lt_of_le hk hW.size) (by omega) (by omega) (by omega)).trans (hW.block k hk)⟩
set_option maxHeartbeats 2000000 in
theorem sizes_any (s : ByteArray) (w : World) (hs : s.size ≤ 1000000) :
    Calls Try.prog 12 #[.string s] w fun e w' => e = .returned (sizesV (szD s.data.toList)) ∧ Below w.heap.size w w' := by
  have hmf : ∀ (fn : Fn) (first cap : Array Value) (w : World), (Instr.makeFunc fn first cap).run Try.prog w = .ok (.func fn first cap) w := fun _ _ _ _ => rfl
  obtain ⟨k0, k1, k2, k3, k4⟩ := blocks4 w (.cells #[.int .i64 0] 3) (.cells #[.int .i64 0] 3) (.cells #[.string s] 62) (.cells #[.pointer (some ⟨w.heap.size + 1 + 1, 0, none⟩)] 60) (.cells #[.int .i64 0] 25)
  have HBW : Hid (Below w.heap.size w (((((w.alloc (.cells #[.int .i64 0] 3)).alloc (.cells #[.int .i64 0] 3)).alloc (.cells #[.string s] 62)).alloc (.cells #[.pointer (some ⟨w.heap.size + 1 + 1, 0, none⟩)] 60)).alloc (.cells #[.int .i64 0] 25))) :=
    (((((Below.refl _ _).alloc (Nat.le_refl _) _).alloc (by simp) _).alloc (by simp; omega) _).alloc (by simp; omega) _).alloc (by simp; omega) _
  have HSW : Hid ((((((w.alloc (.cells #[.int .i64 0] 3)).alloc (.cells #[.int .i64 0] 3)).alloc (.cells #[.string s] 62)).alloc (.cells #[.pointer (some ⟨w.heap.size + 1 + 1, 0, none⟩)] 60)).alloc (.cells #[.int .i64 0] 25)).heap.size = w.heap.size + 5) := by unfold Hid; simp
  have hsz4 : ((((w.alloc (.cells #[.int .i64 0] 3)).alloc (.cells #[.int .i64 0] 3)).alloc (.cells #[.string s] 62)).alloc (.cells #[.pointer (some ⟨w.heap.size + 1 + 1, 0, none⟩)] 60)).heap.size = w.heap.size + 1 + 1 + 1 + 1 := by simp
  have HC := Lib.hid (sizes1_any _ _ _ _ s _ ⟨k0, k1⟩ k2 k3 (by omega) (by omega) (by omega) (by omega) (by omega) (by omega) hs)
  by_cases he : (szD s.data.toList).2.2 = 0
  · have hV : sizesV (szD s.data.toList) = .tuple #[.int .i64 ((szD s.data.toList).1 : Nat), .int .i64 ((szD s.data.toList).2.1 : Nat), .int .i64 0] := by unfold sizesV; rw [he]; rfl
    have HR := Lib.hid (caughtS_ret _ _ _ _ (fun w' => SzAt w' w.heap.size (w.heap.size + 1) (szD s.data.toList).1 (szD s.data.toList).2.1 ∧ Three (((((w.alloc (.cells #[.int .i64 0] 3)).alloc (.cells #[.int .i64 0] 3)).alloc (.cells #[.string s] 62)).alloc (.cells #[.pointer (some ⟨w.heap.size + 1 + 1, 0, none⟩)] 60)).alloc (.cells #[.int .i64 0] 25)) w' w.heap.size (w.heap.size + 1) (w.heap.size + 1 + 1)) (HC.out.mono (fun e w' h => by
      obtain ⟨h1 | h1, h2⟩ := h
      · refine ⟨h1.2.1, ?_, h1.2.2, h2⟩
        rw [hsz4, h2.block _ (by rw [HSW.out]; omega) (by omega) (by omega) (by omega)]
        exact k4
      · rw [h1.1] at he; cases he)))
    rw [hV]
    clear HC k4 k0 k1 k2 k3 hV he
    generalize (szD s.data.toList).1 = x at *
    generalize (szD s.data.toList).2.1 = y at *
    go_enter Try.func12, Try.ntmps12
    go_wp2_with fail
    refine HR.out.mono ?_
    rintro e w' ⟨rfl, w1, ⟨q1, q2⟩, rfl⟩
    rw [hsz4]
    have q3 := q1.gr (N2 := w.heap.size + 1 + 1 + 1 + 1) (gr_set w1 (w.heap.size + 1 + 1 + 1 + 1) 0 (.int .i64 0)) (by omega) (by omega)
    have HB1 := Lib.hid ((below_three HBW.out q2 (Nat.le_refl _) (by omega) (by omega)).setCell (p := ⟨w.heap.size + 1 + 1 + 1 + 1, 0, none⟩) (by show _ ≤ w.heap.size + 1 + 1 + 1 + 1; omega) (.int .i64 0))
    clear q1 q2
    generalize w1.setCell ⟨w.heap.size + 1 + 1 + 1 + 1, 0, none⟩ (.int .i64 0) = w2 at *
    have HQ3 := Lib.hid q3
    obtain ⟨z0, z1, y0, y1⟩ := q3.cells
    clear q3
    have z0' : w2.drew.cell? ⟨w.heap.size, 0, none⟩ = some (.int .i64 (x : Nat)) := z0
    have z1' : w2.drew.cell? ⟨w.heap.size + 1, 0, none⟩ = some (.int .i64 (y : Nat)) := z1
    have y0' : w2.drew.frozen? ⟨w.heap.size, 0, none⟩ = false := y0
    have y1' : w2.drew.frozen? ⟨w.heap.size + 1, 0, none⟩ = false := y1
    go_wp2_with fail
    go_region
    have HF := Lib.hid ((HQ3.out.set0 (by omega) x).set1 (by omega) y)
    have HB3 : Hid (Below w.heap.size w ((w2.setCell ⟨w.heap.size, 0, none⟩ (.int .i64 (x : Nat))).setCell ⟨w.heap.size + 1, 0, none⟩ (.int .i64 (y : Nat))).drew) := ((HB1.out.setCell (p := ⟨w.heap.size, 0, none⟩) (Nat.le_refl _) _).setCell (p := ⟨w.heap.size + 1, 0, none⟩) (by show _ ≤ w.heap.size + 1; omega) _).drew
    generalize (w2.setCell ⟨w.heap.size, 0, none⟩ (.int .i64 (x : Nat))).setCell ⟨w.heap.size + 1, 0, none⟩ (.int .i64 (y : Nat)) = w3 at *
    obtain ⟨x0, x1, _, _⟩ := HF.out.cells
    have x0' : w3.drew.cell? ⟨w.heap.size, 0, none⟩ = some (.int .i64 (x : Nat)) := x0
    have x1' : w3.drew.cell? ⟨w.heap.size + 1, 0, none⟩ = some (.int .i64 (y : Nat)) := x1
    clear z0 z1 y0 y1 z0' z1' y0' y1'
    go_wp2_with fail
    refine bodyPost_cellF (V := .int .i64 (x : Nat)) (V2 := .int .i64 (y : Nat)) rfl rfl rfl ?_ ?_ rfl ?_
    · go_simp
    · go_simp
    · exact ⟨rfl, HB3.out⟩
  · have HR := Lib.hid (caughtS_thrown _ _ _ _ (fun w' => szD s.data.toList = (0, 0, 2) ∧ (∃ x y, SzAt w' w.heap.size (w.heap.size + 1) x y) ∧ Three (((((w.alloc (.cells #[.int .i64 0] 3)).alloc (.cells #[.int .i64 0] 3)).alloc (.cells #[.string s] 62)).alloc (.cells #[.pointer (some ⟨w.heap.size + 1 + 1, 0, none⟩)] 60)).alloc (.cells #[.int .i64 0] 25)) w' w.heap.size (w.heap.size + 1) (w.heap.size + 1 + 1)) 2 (HC.out.mono (fun e w' h => by
      obtain ⟨h1 | h1, h2⟩ := h
      · exact absurd h1.1 he
      · refine ⟨h1.2.1, ?_, h1.1, h1.2.2, h2⟩
        rw [hsz4, h2.block _ (by rw [HSW.out]; omega) (by omega) (by omega) (by omega)]
        exact k4)))
    clear HC k4 k0 k1 k2 k3 he
    go_enter Try.func12, Try.ntmps12
    go_wp2_with fail
    refine HR.out.mono ?_
    rintro e w' ⟨rfl, w1, ⟨hz, ⟨x, y, q1⟩, q2⟩, rfl⟩
    rw [hsz4]
    have q3 := (q1.gr (N2 := w.heap.size + 1 + 1 + 1 + 1) (World.grownBy_alloc w1 (.cells #[.int .i64 (2 : Nat)] 84) _) (by omega) (by omega)).gr (N2 := w.heap.size + 1 + 1 + 1 + 1) (gr_set _ (w.heap.size + 1 + 1 + 1 + 1) 0 (.int .i64 (2 : Nat))) (by omega) (by omega)
    have HB1 := Lib.hid (((below_three HBW.out q2 (Nat.le_refl _) (by omega) (by omega)).alloc (by have := q2.size; rw [HSW.out] at this; omega) (.cells #[.int .i64 (2 : Nat)] 84)).setCell (p := ⟨w.heap.size + 1 + 1 + 1 + 1, 0, none⟩) (by show _ ≤ w.heap.size + 1 + 1 + 1 + 1; omega) (.int .i64 (2 : Nat)))
    clear q1 q2
    generalize (w1.alloc (.cells #[.int .i64 (2 : Nat)] 84)).setCell ⟨w.heap.size + 1 + 1 + 1 + 1, 0, none⟩ (.int .i64 (2 : Nat)) = w2 at *
    have HQ3 := Lib.hid q3
    have HV : Hid (sizesV (szD s.data.toList) = .tuple #[.int .i64 0, .int .i64 0, .int .i64 2]) := by unfold Hid; rw [hz]; rfl
    obtain ⟨z0, z1, y0, y1⟩ := q3.cells
    clear q3 hz
    go_wp2_with fail
    have HF := Lib.hid ((HQ3.out.set0 (by omega) 0).set1 (by omega) 0)
    have HB3 := Lib.hid ((HB1.out.setCell (p := ⟨w.heap.size, 0, none⟩) (Nat.le_refl _) (.int .i64 ((0 : Nat) : Int))).setCell (p := ⟨w.heap.size + 1, 0, none⟩) (by show _ ≤ w.heap.size + 1; omega) (.int .i64 ((0 : Nat) : Int)))
    obtain ⟨x0, x1, _, _⟩ := HF.out.cells
    refine bodyPost_cellF (V := .int .i64 0) (V2 := .int .i64 0) rfl rfl rfl ?_ ?_ rfl ?_
    · go_simp
    · go_simp
    · rw [HV.out]
      exact ⟨rfl, HB3.out⟩
end Go.Proofs.Ytlkpgefapcfdbaa
