/- The feeder in memory; take: its walk. -/
import Derived.Test.YtkbpkodakfknoaaShaBlock
import Derived.Deep.MidRow
import Derived.Deep.RegionHeld3
namespace Go.Proofs.Ytkbpkodakfknoaa
open Go.RowKit
set_option linter.unusedVariables false
/-- a feeder at block p: words, how many bytes, a part -/
structure Feed (w : World) (p : Nat) (f : Nat → UInt32) (n : Nat) (part : Nat → UInt8) : Prop where
  h : w.rangeAt p 0 (cellsOf 8 f).toList
  s : w.cell? ⟨p, 8, none⟩ = some (.int .u64 n)
  b : w.rangeAt p 9 (bytesOf 64 part).toList
  t : w.there p 0 73
theorem Feed.lt {w : World} {p : Nat} {f : Nat → UInt32} {n : Nat} {part : Nat → UInt8} (h : Feed w p f n part) : p < w.heap.size := by
  refine Decidable.byContradiction fun hh => ?_
  have := h.s
  simp [World.cell?, Array.getElem?_eq_none (Nat.le_of_not_lt hh)] at this
theorem range_below {w w' : World} {b o B : Nat} {cs : List Value} (h : w.rangeAt b o cs) (hb : Below B w w') (hB : b < B) : w'.rangeAt b o cs := fun j v hj => (hb.cell (p := ⟨b, o + j, none⟩) hB).trans (h j v hj)
theorem there_below {w w' : World} {b o n B : Nat} (h : w.there b o n) (hb : Below B w w') (hB : b < B) : w'.there b o n := fun j hj => by
  obtain ⟨h1, h2⟩ := h j hj
  exact ⟨by rw [hb.cell (p := ⟨b, o + j, none⟩) hB]; exact h1, by rw [hb.frozen (p := ⟨b, o + j, none⟩) hB]; exact h2⟩
theorem Feed.below {w w' : World} {p B : Nat} {f : Nat → UInt32} {n : Nat} {part : Nat → UInt8} (h : Feed w p f n part) (hb : Below B w w') (hB : p < B) : Feed w' p f n part :=
  ⟨range_below h.h hb hB, (hb.cell (p := ⟨p, 8, none⟩) hB).trans h.s, range_below h.b hb hB, there_below h.t hb hB⟩
theorem Feed.drew {w : World} {p : Nat} {f : Nat → UInt32} {n : Nat} {part : Nat → UInt8} (h : Feed w p f n part) : Feed w.drew p f n part := ⟨h.h, h.s, h.b, h.t⟩
theorem Feed.alloc {w : World} {p : Nat} {f : Nat → UInt32} {n : Nat} {part : Nat → UInt8} (h : Feed w p f n part) (o : Obj) : Feed (w.alloc o) p f n part :=
  h.below ((Below.refl _ _).alloc (Nat.le_refl _) o) h.lt
theorem Feed.hash {w : World} {p : Nat} {f : Nat → UInt32} {n : Nat} {part : Nat → UInt8} (h : Feed w p f n part) (g : Nat → UInt32) : Feed (w.setCells p 0 (cellsOf 8 g).toList) p g n part := by
  have hl : (cellsOf 8 g).toList.length = 8 := by rw [Array.length_toList, cellsOf_size]
  have ht : w.there p 0 8 := fun j hj => h.t j (by omega)
  refine ⟨World.rangeAt_setCells_same w p 0 _ (by rw [hl]; exact ht), ?_, World.rangeAt_setCells_apart h.b p 0 _ (.inr (.inr (by rw [hl]; omega))), World.there_setCells h.t p 0 _⟩
  rw [World.cell?_setCells_out p _ 0 w ⟨p, 8, none⟩ (fun _ _ => .inr (by rw [hl]; exact Nat.le_refl _))]
  exact h.s
theorem grown_below {a w : World} (h : Below a.heap.size a w) (row : Option Nat) : a.grownBy w row := ⟨h.os, h.tape, h.output, h.size, fun i hi _ => h.block i hi⟩
theorem grown_then {a b c : World} {row : Option Nat} (h : a.grownBy b row) (k : b.grownBy c row) : a.grownBy c row :=
  ⟨k.os.trans h.os, k.tape.trans h.tape, k.output.trans h.output, Nat.le_trans h.size k.size, fun i hi hne => (k.block i (Nat.lt_of_lt_of_le hi h.size) hne).trans (h.block i hi hne)⟩
theorem setCells_keep (p : Nat) : ∀ (vs : List Value) (o : Nat) (w : World), w.grownBy (w.setCells p o vs) (some p)
  | [], _, w => World.grownBy.refl w _
  | v :: vs, o, w => by
    rw [World.setCells]
    refine grown_then ?_ (setCells_keep p vs (o + 1) _)
    exact ⟨rfl, rfl, rfl, by simp, fun i hi hne => heap_setCell_other w _ i v (fun e => hne (by rw [e]))⟩
theorem wpStill_load_mid {P : Program} {ops : Array Oper} {w : World} {Q : Act → Prop} {a : Act} {o : Oper} {rest : List Oper} (hw : Region.wanted o (yielded ops a.tmps) = true) (ty : TypeId) (x : Operand) (ho : o.op = .load ty x)
    (b off : Nat) (hx : a.eval x = .pointer (some ⟨b, off, none⟩)) (cs : List Value) (d : TypeDesc) (hc : w.rangeAt b off cs)
    (hu : P.underlying ty = some d) (hd : d.isRow = true) (hi : (P.info? ty).map (·.size) = some cs.length)
    (h : wpStill P ops w Q rest (a.put o.dst (.agg cs.toArray))) : wpStill P ops w Q (o :: rest) a :=
  wpStill_step fun K hK => by
    rw [if_pos hw]
    unfold Oper.still execOp
    simp only [ho, hx, Instr.loadAt, Instr.sureAddr, Sem.run_bind, Sem.run_pure, Result.andThen_ok, run_loadVar_mid w b off ty cs d hc hu hd hi, Oper.stillUpon_value]
    exact hK _ h
set_option maxRecDepth 20000 in
set_option maxHeartbeats 4000000 in
theorem shTake_any (p : Nat) (f : Nat → UInt32) (n : Nat) (part : Nat → UInt8) (b : List UInt8) (hb : b.length = 64) (w : World) (hF : Feed w p f n part) :
    Calls Try.prog 74 #[.pointer (some ⟨p, 0, none⟩), .agg (bytesOf 64 fun i => b.getD i 0)] w fun e w' => e = .returned (.tuple #[]) ∧ Feed w' p (blockF f b) n part ∧ w.grownBy w' (some p) := by
  obtain ⟨G, hG⟩ : ∃ G, G = blockF f b := ⟨_, rfl⟩
  have hbk := fun w => block_any f b hb w
  obtain ⟨B, hB⟩ : ∃ B, B = bytesOf 64 (fun i => b.getD i 0) := ⟨_, rfl⟩
  rw [← hB, ← hG] at hbk
  rw [← hB, ← hG]
  obtain ⟨A, hA⟩ : ∃ A, A = cellsOf 8 f := ⟨_, rfl⟩
  rw [← hA] at hbk
  have hBs : B.size = 64 := by rw [hB, bytesOf_size]
  have hAs : A.size = 8 := by rw [hA, cellsOf_size]
  have hR := row_new w 77 B
  have hlB : (Try.prog.info? 77).map (·.size) = some B.toList.length := by rw [Array.length_toList, hBs]; kernel_rfl
  have hlA : (Try.prog.info? 75).map (·.size) = some A.toList.length := by rw [Array.length_toList, hAs]; kernel_rfl
  have hlG : (Try.prog.info? 75).map (·.size) = some (cellsOf 8 G).size := by rw [cellsOf_size]; kernel_rfl
  have hF1 := hF.alloc (.cells B 77)
  have hra : (w.alloc (.cells B 77)).rangeAt p 0 A.toList := by rw [hA]; exact hF1.h
  have hplt := hF.lt
  have HK := Lib.hid hbk; clear hbk
  have HF := Lib.hid hF1; clear hF1 hF
  have HR := Lib.hid hR; clear hR
  clear hA hB hG hBs hAs
  have HlG := Lib.hid hlG; clear hlG
  have HlA := Lib.hid hlA; clear hlA
  have HlB := Lib.hid hlB; clear hlB
  go_enter Try.func74, Try.ntmps74
  go_wp2_with fail
  obtain ⟨w1, hw1⟩ : ∃ w1, w1 = w.alloc (.cells B 77) := ⟨_, rfl⟩
  rw [← hw1] at HF hra ⊢
  have HR1 : Hid (w1.rangeAt w.heap.size 0 B.toList) := by
    unfold Hid; rw [hw1]; intro j v hj
    rw [Nat.zero_add, cell_of_row _ _ j _ _ _ HR.out]; simpa using hj
  have HGR : Hid (w.grownBy w1 (some p)) := by unfold Hid; rw [hw1]; exact World.grownBy_alloc w _ _
  have hz1 : w1.heap.size = w.heap.size + 1 := by rw [hw1]; simp
  clear hw1 HR
  have HZ1 := Lib.hid hz1; clear hz1
  have HRA := Lib.hid hra; clear hra
  have hra : w1.drew.rangeAt p 0 A.toList := HRA.out
  have hrb : w1.drew.rangeAt w.heap.size 0 B.toList := HR1.out
  have HRAd := Lib.hid hra; clear hra
  have HRBd := Lib.hid hrb; clear hrb
  refine wp_region_noPanic ?_
  refine wp_region_held_drew (S := fun _ => True) (by kernel_rfl) trivial (fun hHeld => ?_)
  have HF3 : Hid (Feed w1.drew p f n part) := HF.out.drew
  have HG3 : Hid (w.grownBy w1.drew (some p)) := ⟨HGR.out.os, HGR.out.tape, HGR.out.output, HGR.out.size, HGR.out.block⟩
  have hz3 : w.heap.size < w1.drew.heap.size := by show _ < w1.heap.size; rw [HZ1.out]; omega
  generalize w1.drew = w3 at *
  refine wpAnyH_take (i := 0) (v := .pointer (some ⟨p, 0, none⟩)) rfl (by kernel_rfl) (by kernel_rfl) (by kernel_rfl) (fun _ _ _ h => h) (Or.inl ⟨by rfl, ?_⟩) hHeld ?_
  · intro w hSw
    go_simp
  refine wpAnyH_take (i := 1) (v := .pointer (some ⟨p, 0, none⟩)) rfl (by kernel_rfl) (by kernel_rfl) (by kernel_rfl) (fun _ _ _ h => h) (Or.inl ⟨by rfl, ?_⟩) hHeld ?_
  · intro w hSw
    go_simp
  refine wpAnyH_take (i := 2) (v := .pointer (some ⟨p, 0, none⟩)) rfl (by kernel_rfl) (by kernel_rfl) (by kernel_rfl) (fun _ _ _ h => h) (Or.inl ⟨by rfl, ?_⟩) hHeld ?_
  · intro w hSw
    go_simp
  refine wpAnyH_take (i := 3) (v := .pointer (some ⟨p, 0, none⟩)) rfl (by kernel_rfl) (by kernel_rfl) (by kernel_rfl) (fun _ _ _ h => h) (Or.inl ⟨by rfl, ?_⟩) hHeld ?_
  · intro w hSw
    go_simp
  refine wpAnyH_ready (rs := [4, 5]) (by kernel_rfl) (by simp) ?_
  refine AllReadyH.cons rfl (fun K hK => ?_) (AllReadyH.cons rfl (fun K hK => ?_) AllReadyH.nil)
  · rw [if_pos (by rfl)]
    refine wp_load_mid 75 _ rfl p 0 rfl A.toList _ HRAd.out Try.underlying75 rfl HlA.out ?_
    refine hK.out _ _ trivial (fun hHeld => ?_)
    clear hK K
    refine wpAnyH_ready (rs := [5]) (by kernel_rfl) (by simp) ?_
    refine AllReadyH.cons rfl (fun K hK => ?_) AllReadyH.nil
    rw [if_pos (by rfl)]
    refine wp_load_mid 77 _ rfl w.heap.size 0 rfl B.toList _ HRBd.out Try.underlying77 rfl HlB.out ?_
    refine hK.out _ _ trivial (fun hHeld => ?_)
    clear hK K
    refine wpAnyH_ready (rs := [6]) (by kernel_rfl) (by simp) ?_
    refine AllReadyH.cons rfl (fun K hK => ?_) AllReadyH.nil
    go_simp
    go_at_call 77
    refine (HK.out _).mono ?_
    rintro e w4 ⟨rfl, b4⟩
    have HF4 := Lib.hid (HF3.out.below b4 (by omega))
    have HG4 := Lib.hid (grown_then HG3.out (grown_below b4 (some p)))
    have HT4 : Hid (w4.there p 0 (cellsOf 8 G).size) := by unfold Hid; rw [cellsOf_size]; exact fun j hj => HF4.out.t j (by omega)
    have HO4 : Hid ((cellsOf 8 G).all (·.oneCell') = true) := cellsOf_one _ _
    clear b4 hHeld
    go_wp2_with fail
    refine hK.out _ _ trivial (fun hHeld => ?_)
    clear hK K
    refine wpAnyH_take (i := 7) (v := .pointer (some ⟨p, 0, none⟩)) rfl (by kernel_rfl) (by kernel_rfl) (by kernel_rfl) (fun _ _ _ h => h) (Or.inl ⟨by rfl, ?_⟩) hHeld ?_
    · intro w hSw
      go_simp
    refine wpAnyH_take (i := 8) (v := .pointer (some ⟨p, 0, none⟩)) rfl (by kernel_rfl) (by kernel_rfl) (by kernel_rfl) (fun _ _ _ h => h) (Or.inl ⟨by rfl, ?_⟩) hHeld ?_
    · intro w hSw
      go_simp
    refine wpAnyH_ready (rs := [9]) (by kernel_rfl) (by simp) ?_
    refine AllReadyH.cons rfl (fun K hK => ?_) AllReadyH.nil
    rw [if_pos (by rfl)]
    refine wp_store_mid 75 _ _ rfl p 0 (cellsOf 8 G) rfl rfl HT4.out HlG.out HO4.out ?_
    refine hK.out _ _ trivial (fun hHeld => ?_)
    refine wpAnyH_done (by kernel_rfl) ?_ _
    refine NoPanic.normal ?_
    go_end0
    exact ⟨rfl, HF4.out.hash G, grown_then HG4.out (setCells_keep p _ 0 _)⟩
  · rw [if_pos (by rfl)]
    refine wp_load_mid 77 _ rfl w.heap.size 0 rfl B.toList _ HRBd.out Try.underlying77 rfl HlB.out ?_
    refine hK.out _ _ trivial (fun hHeld => ?_)
    clear hK K
    refine wpAnyH_ready (rs := [4]) (by kernel_rfl) (by simp) ?_
    refine AllReadyH.cons rfl (fun K hK => ?_) AllReadyH.nil
    rw [if_pos (by rfl)]
    refine wp_load_mid 75 _ rfl p 0 rfl A.toList _ HRAd.out Try.underlying75 rfl HlA.out ?_
    refine hK.out _ _ trivial (fun hHeld => ?_)
    clear hK K
    refine wpAnyH_ready (rs := [6]) (by kernel_rfl) (by simp) ?_
    refine AllReadyH.cons rfl (fun K hK => ?_) AllReadyH.nil
    go_simp
    go_at_call 77
    refine (HK.out _).mono ?_
    rintro e w4 ⟨rfl, b4⟩
    have HF4 := Lib.hid (HF3.out.below b4 (by omega))
    have HG4 := Lib.hid (grown_then HG3.out (grown_below b4 (some p)))
    have HT4 : Hid (w4.there p 0 (cellsOf 8 G).size) := by unfold Hid; rw [cellsOf_size]; exact fun j hj => HF4.out.t j (by omega)
    have HO4 : Hid ((cellsOf 8 G).all (·.oneCell') = true) := cellsOf_one _ _
    clear b4 hHeld
    go_wp2_with fail
    refine hK.out _ _ trivial (fun hHeld => ?_)
    clear hK K
    refine wpAnyH_take (i := 7) (v := .pointer (some ⟨p, 0, none⟩)) rfl (by kernel_rfl) (by kernel_rfl) (by kernel_rfl) (fun _ _ _ h => h) (Or.inl ⟨by rfl, ?_⟩) hHeld ?_
    · intro w hSw
      go_simp
    refine wpAnyH_take (i := 8) (v := .pointer (some ⟨p, 0, none⟩)) rfl (by kernel_rfl) (by kernel_rfl) (by kernel_rfl) (fun _ _ _ h => h) (Or.inl ⟨by rfl, ?_⟩) hHeld ?_
    · intro w hSw
      go_simp
    refine wpAnyH_ready (rs := [9]) (by kernel_rfl) (by simp) ?_
    refine AllReadyH.cons rfl (fun K hK => ?_) AllReadyH.nil
    rw [if_pos (by rfl)]
    refine wp_store_mid 75 _ _ rfl p 0 (cellsOf 8 G) rfl rfl HT4.out HlG.out HO4.out ?_
    refine hK.out _ _ trivial (fun hHeld => ?_)
    refine wpAnyH_done (by kernel_rfl) ?_ _
    refine NoPanic.normal ?_
    go_end0
    exact ⟨rfl, HF4.out.hash G, grown_then HG4.out (setCells_keep p _ 0 _)⟩
end Go.Proofs.Ytkbpkodakfknoaa
