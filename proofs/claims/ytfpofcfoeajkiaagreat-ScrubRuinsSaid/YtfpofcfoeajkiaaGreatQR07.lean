/- Texts of this claim's author, packed: ShaTake, ShaFeed, ShaBld. Conditions: none. -/
import Derived.Test.YtfpofcfoeajkiaaGreatQR06
import Derived.Deep.MidRow
import Derived.Deep.RegionHeld3
import Derived.Test.YtfpofcfoeajkiaaGreatQR01
/- The feeder in memory; take: its walk. -/
namespace Go.Proofs.YtfpofcfoeajkiaaGreat
open Go.RowKit
set_option linter.unusedVariables false
/-- a feeder at block p: words, how many bytes, a part -/
structure Feed (w : World) (p : Nat) (f : Nat → UInt32) (n : Nat) (part : Nat → UInt8) : Prop where
  h : w.rangeAt p 0 (cellsOf 8 f).toList
  s : w.cell? ⟨p, 8, none⟩ = some (.int .u64 n)
  b : w.rangeAt p 9 (bytesOf 64 part).toList
  t : w.there p 0 73
theorem Feed.lt {w : World} {p : Nat} {f : Nat → UInt32} {n : Nat} {part : Nat → UInt8} (h : Feed w p f n part) : p < w.heap.size := by
  refine Decidable.byContradiction fun hh => ?_
  have := h.s
  simp [World.cell?, Array.getElem?_eq_none (Nat.le_of_not_lt hh)] at this
theorem range_below {w w' : World} {b o B : Nat} {cs : List Value} (h : w.rangeAt b o cs) (hb : Below B w w') (hB : b < B) : w'.rangeAt b o cs := fun j v hj => (hb.cell (p := ⟨b, o + j, none⟩) hB).trans (h j v hj)
theorem there_below {w w' : World} {b o n B : Nat} (h : w.there b o n) (hb : Below B w w') (hB : b < B) : w'.there b o n := fun j hj => by
  obtain ⟨h1, h2⟩ := h j hj
  exact ⟨by rw [hb.cell (p := ⟨b, o + j, none⟩) hB]; exact h1, by rw [hb.frozen (p := ⟨b, o + j, none⟩) hB]; exact h2⟩
theorem Feed.below {w w' : World} {p B : Nat} {f : Nat → UInt32} {n : Nat} {part : Nat → UInt8} (h : Feed w p f n part) (hb : Below B w w') (hB : p < B) : Feed w' p f n part :=
  ⟨range_below h.h hb hB, (hb.cell (p := ⟨p, 8, none⟩) hB).trans h.s, range_below h.b hb hB, there_below h.t hb hB⟩
theorem Feed.drew {w : World} {p : Nat} {f : Nat → UInt32} {n : Nat} {part : Nat → UInt8} (h : Feed w p f n part) : Feed w.drew p f n part := ⟨h.h, h.s, h.b, h.t⟩
theorem Feed.alloc {w : World} {p : Nat} {f : Nat → UInt32} {n : Nat} {part : Nat → UInt8} (h : Feed w p f n part) (o : Obj) : Feed (w.alloc o) p f n part :=
  h.below ((Below.refl _ _).alloc (Nat.le_refl _) o) h.lt
theorem Feed.hash {w : World} {p : Nat} {f : Nat → UInt32} {n : Nat} {part : Nat → UInt8} (h : Feed w p f n part) (g : Nat → UInt32) : Feed (w.setCells p 0 (cellsOf 8 g).toList) p g n part := by
  have hl : (cellsOf 8 g).toList.length = 8 := by rw [Array.length_toList, cellsOf_size]
  have ht : w.there p 0 8 := fun j hj => h.t j (by omega)
  refine ⟨World.rangeAt_setCells_same w p 0 _ (by rw [hl]; exact ht), ?_, World.rangeAt_setCells_apart h.b p 0 _ (.inr (.inr (by rw [hl]; omega))), World.there_setCells h.t p 0 _⟩
  rw [World.cell?_setCells_out p _ 0 w ⟨p, 8, none⟩ (fun _ _ => .inr (by rw [hl]; exact Nat.le_refl _))]
  exact h.s
theorem grown_below {a w : World} (h : Below a.heap.size a w) (row : Option Nat) : a.grownBy w row := ⟨h.os, h.tape, h.output, h.size, fun i hi _ => h.block i hi⟩
theorem grown_then {a b c : World} {row : Option Nat} (h : a.grownBy b row) (k : b.grownBy c row) : a.grownBy c row :=
  ⟨k.os.trans h.os, k.tape.trans h.tape, k.output.trans h.output, Nat.le_trans h.size k.size, fun i hi hne => (k.block i (Nat.lt_of_lt_of_le hi h.size) hne).trans (h.block i hi hne)⟩
theorem setCells_keep (p : Nat) : ∀ (vs : List Value) (o : Nat) (w : World), w.grownBy (w.setCells p o vs) (some p)
  | [], _, w => World.grownBy.refl w _
  | v :: vs, o, w => by
    rw [World.setCells]
    refine grown_then ?_ (setCells_keep p vs (o + 1) _)
    exact ⟨rfl, rfl, rfl, by simp, fun i hi hne => heap_setCell_other w _ i v (fun e => hne (by rw [e]))⟩
theorem wpStill_load_mid {P : Program} {ops : Array Oper} {w : World} {Q : Act → Prop} {a : Act} {o : Oper} {rest : List Oper} (hw : Region.wanted o (yielded ops a.tmps) = true) (ty : TypeId) (x : Operand) (ho : o.op = .load ty x)
    (b off : Nat) (hx : a.eval x = .pointer (some ⟨b, off, none⟩)) (cs : List Value) (d : TypeDesc) (hc : w.rangeAt b off cs)
    (hu : P.underlying ty = some d) (hd : d.isRow = true) (hi : (P.info? ty).map (·.size) = some cs.length)
    (h : wpStill P ops w Q rest (a.put o.dst (.agg cs.toArray))) : wpStill P ops w Q (o :: rest) a :=
  wpStill_step fun K hK => by
    rw [if_pos hw]
    unfold Oper.still execOp
    simp only [ho, hx, Instr.loadAt, Instr.sureAddr, Sem.run_bind, Sem.run_pure, Result.andThen_ok, run_loadVar_mid w b off ty cs d hc hu hd hi, Oper.stillUpon_value]
    exact hK _ h
set_option maxRecDepth 20000 in
set_option maxHeartbeats 4000000 in
theorem shTake_any (p : Nat) (f : Nat → UInt32) (n : Nat) (part : Nat → UInt8) (b : List UInt8) (hb : b.length = 64) (w : World) (hF : Feed w p f n part) :
    Calls Tryz.prog 111 #[.pointer (some ⟨p, 0, none⟩), .agg (bytesOf 64 fun i => b.getD i 0)] w fun e w' => e = .returned (.tuple #[]) ∧ Feed w' p (blockF f b) n part ∧ w.grownBy w' (some p) := by
  obtain ⟨G, hG⟩ : ∃ G, G = blockF f b := ⟨_, rfl⟩
  have hbk := fun w => block_any f b hb w
  obtain ⟨B, hB⟩ : ∃ B, B = bytesOf 64 (fun i => b.getD i 0) := ⟨_, rfl⟩
  rw [← hB, ← hG] at hbk
  rw [← hB, ← hG]
  obtain ⟨A, hA⟩ : ∃ A, A = cellsOf 8 f := ⟨_, rfl⟩
  rw [← hA] at hbk
  have hBs : B.size = 64 := by rw [hB, bytesOf_size]
  have hAs : A.size = 8 := by rw [hA, cellsOf_size]
  have hR := row_new w 87 B
  have hlB : (Tryz.prog.info? 87).map (·.size) = some B.toList.length := by rw [Array.length_toList, hBs]; kernel_rfl
  have hlA : (Tryz.prog.info? 85).map (·.size) = some A.toList.length := by rw [Array.length_toList, hAs]; kernel_rfl
  have hlG : (Tryz.prog.info? 85).map (·.size) = some (cellsOf 8 G).size := by rw [cellsOf_size]; kernel_rfl
  have hF1 := hF.alloc (.cells B 87)
  have hra : (w.alloc (.cells B 87)).rangeAt p 0 A.toList := by rw [hA]; exact hF1.h
  have hplt := hF.lt
  have HK := Lib.hid hbk; clear hbk
  have HF := Lib.hid hF1; clear hF1 hF
  have HR := Lib.hid hR; clear hR
  clear hA hB hG hBs hAs
  have HlG := Lib.hid hlG; clear hlG
  have HlA := Lib.hid hlA; clear hlA
  have HlB := Lib.hid hlB; clear hlB
  go_enter Tryz.func111, Tryz.ntmps111
  go_wp2_with fail
  obtain ⟨w1, hw1⟩ : ∃ w1, w1 = w.alloc (.cells B 87) := ⟨_, rfl⟩
  rw [← hw1] at HF hra ⊢
  have HR1 : Hid (w1.rangeAt w.heap.size 0 B.toList) := by
    unfold Hid; rw [hw1]; intro j v hj
    rw [Nat.zero_add, cell_of_row _ _ j _ _ _ HR.out]; simpa using hj
  have HGR : Hid (w.grownBy w1 (some p)) := by unfold Hid; rw [hw1]; exact World.grownBy_alloc w _ _
  have hz1 : w1.heap.size = w.heap.size + 1 := by rw [hw1]; simp
  clear hw1 HR
  have HZ1 := Lib.hid hz1; clear hz1
  have HRA := Lib.hid hra; clear hra
  have hra : w1.drew.rangeAt p 0 A.toList := HRA.out
  have hrb : w1.drew.rangeAt w.heap.size 0 B.toList := HR1.out
  have HRAd := Lib.hid hra; clear hra
  have HRBd := Lib.hid hrb; clear hrb
  refine wp_region_noPanic ?_
  refine wp_region_held_drew (S := fun _ => True) (by kernel_rfl) trivial (fun hHeld => ?_)
  have HF3 : Hid (Feed w1.drew p f n part) := HF.out.drew
  have HG3 : Hid (w.grownBy w1.drew (some p)) := ⟨HGR.out.os, HGR.out.tape, HGR.out.output, HGR.out.size, HGR.out.block⟩
  have hz3 : w.heap.size < w1.drew.heap.size := by show _ < w1.heap.size; rw [HZ1.out]; omega
  generalize w1.drew = w3 at *
  refine wpAnyH_take (i := 0) (v := .pointer (some ⟨p, 0, none⟩)) rfl (by kernel_rfl) (by kernel_rfl) (by kernel_rfl) (fun _ _ _ h => h) (Or.inl ⟨by rfl, ?_⟩) hHeld ?_
  · intro w hSw
    go_simp
  refine wpAnyH_take (i := 1) (v := .pointer (some ⟨p, 0, none⟩)) rfl (by kernel_rfl) (by kernel_rfl) (by kernel_rfl) (fun _ _ _ h => h) (Or.inl ⟨by rfl, ?_⟩) hHeld ?_
  · intro w hSw
    go_simp
  refine wpAnyH_take (i := 2) (v := .pointer (some ⟨p, 0, none⟩)) rfl (by kernel_rfl) (by kernel_rfl) (by kernel_rfl) (fun _ _ _ h => h) (Or.inl ⟨by rfl, ?_⟩) hHeld ?_
  · intro w hSw
    go_simp
  refine wpAnyH_take (i := 3) (v := .pointer (some ⟨p, 0, none⟩)) rfl (by kernel_rfl) (by kernel_rfl) (by kernel_rfl) (fun _ _ _ h => h) (Or.inl ⟨by rfl, ?_⟩) hHeld ?_
  · intro w hSw
    go_simp
  refine wpAnyH_ready (rs := [4, 5]) (by kernel_rfl) (by simp) ?_
  refine AllReadyH.cons rfl (fun K hK => ?_) (AllReadyH.cons rfl (fun K hK => ?_) AllReadyH.nil)
  · rw [if_pos (by rfl)]
    refine wp_load_mid 85 _ rfl p 0 rfl A.toList _ HRAd.out Tryz.underlying85 rfl HlA.out ?_
    refine hK.out _ _ trivial (fun hHeld => ?_)
    clear hK K
    refine wpAnyH_ready (rs := [5]) (by kernel_rfl) (by simp) ?_
    refine AllReadyH.cons rfl (fun K hK => ?_) AllReadyH.nil
    rw [if_pos (by rfl)]
    refine wp_load_mid 87 _ rfl w.heap.size 0 rfl B.toList _ HRBd.out Tryz.underlying87 rfl HlB.out ?_
    refine hK.out _ _ trivial (fun hHeld => ?_)
    clear hK K
    refine wpAnyH_ready (rs := [6]) (by kernel_rfl) (by simp) ?_
    refine AllReadyH.cons rfl (fun K hK => ?_) AllReadyH.nil
    go_simp
    go_at_call 115
    refine (HK.out _).mono ?_
    rintro e w4 ⟨rfl, b4⟩
    have HF4 := Lib.hid (HF3.out.below b4 (by omega))
    have HG4 := Lib.hid (grown_then HG3.out (grown_below b4 (some p)))
    have HT4 : Hid (w4.there p 0 (cellsOf 8 G).size) := by unfold Hid; rw [cellsOf_size]; exact fun j hj => HF4.out.t j (by omega)
    have HO4 : Hid ((cellsOf 8 G).all (·.oneCell') = true) := cellsOf_one _ _
    clear b4 hHeld
    go_wp2_with fail
    refine hK.out _ _ trivial (fun hHeld => ?_)
    clear hK K
    refine wpAnyH_take (i := 7) (v := .pointer (some ⟨p, 0, none⟩)) rfl (by kernel_rfl) (by kernel_rfl) (by kernel_rfl) (fun _ _ _ h => h) (Or.inl ⟨by rfl, ?_⟩) hHeld ?_
    · intro w hSw
      go_simp
    refine wpAnyH_take (i := 8) (v := .pointer (some ⟨p, 0, none⟩)) rfl (by kernel_rfl) (by kernel_rfl) (by kernel_rfl) (fun _ _ _ h => h) (Or.inl ⟨by rfl, ?_⟩) hHeld ?_
    · intro w hSw
      go_simp
    refine wpAnyH_ready (rs := [9]) (by kernel_rfl) (by simp) ?_
    refine AllReadyH.cons rfl (fun K hK => ?_) AllReadyH.nil
    rw [if_pos (by rfl)]
    refine wp_store_mid 85 _ _ rfl p 0 (cellsOf 8 G) rfl rfl HT4.out HlG.out HO4.out ?_
    refine hK.out _ _ trivial (fun hHeld => ?_)
    refine wpAnyH_done (by kernel_rfl) ?_ _
    refine NoPanic.normal ?_
    go_end0
    exact ⟨rfl, HF4.out.hash G, grown_then HG4.out (setCells_keep p _ 0 _)⟩
  · rw [if_pos (by rfl)]
    refine wp_load_mid 87 _ rfl w.heap.size 0 rfl B.toList _ HRBd.out Tryz.underlying87 rfl HlB.out ?_
    refine hK.out _ _ trivial (fun hHeld => ?_)
    clear hK K
    refine wpAnyH_ready (rs := [4]) (by kernel_rfl) (by simp) ?_
    refine AllReadyH.cons rfl (fun K hK => ?_) AllReadyH.nil
    rw [if_pos (by rfl)]
    refine wp_load_mid 85 _ rfl p 0 rfl A.toList _ HRAd.out Tryz.underlying85 rfl HlA.out ?_
    refine hK.out _ _ trivial (fun hHeld => ?_)
    clear hK K
    refine wpAnyH_ready (rs := [6]) (by kernel_rfl) (by simp) ?_
    refine AllReadyH.cons rfl (fun K hK => ?_) AllReadyH.nil
    go_simp
    go_at_call 115
    refine (HK.out _).mono ?_
    rintro e w4 ⟨rfl, b4⟩
    have HF4 := Lib.hid (HF3.out.below b4 (by omega))
    have HG4 := Lib.hid (grown_then HG3.out (grown_below b4 (some p)))
    have HT4 : Hid (w4.there p 0 (cellsOf 8 G).size) := by unfold Hid; rw [cellsOf_size]; exact fun j hj => HF4.out.t j (by omega)
    have HO4 : Hid ((cellsOf 8 G).all (·.oneCell') = true) := cellsOf_one _ _
    clear b4 hHeld
    go_wp2_with fail
    refine hK.out _ _ trivial (fun hHeld => ?_)
    clear hK K
    refine wpAnyH_take (i := 7) (v := .pointer (some ⟨p, 0, none⟩)) rfl (by kernel_rfl) (by kernel_rfl) (by kernel_rfl) (fun _ _ _ h => h) (Or.inl ⟨by rfl, ?_⟩) hHeld ?_
    · intro w hSw
      go_simp
    refine wpAnyH_take (i := 8) (v := .pointer (some ⟨p, 0, none⟩)) rfl (by kernel_rfl) (by kernel_rfl) (by kernel_rfl) (fun _ _ _ h => h) (Or.inl ⟨by rfl, ?_⟩) hHeld ?_
    · intro w hSw
      go_simp
    refine wpAnyH_ready (rs := [9]) (by kernel_rfl) (by simp) ?_
    refine AllReadyH.cons rfl (fun K hK => ?_) AllReadyH.nil
    rw [if_pos (by rfl)]
    refine wp_store_mid 85 _ _ rfl p 0 (cellsOf 8 G) rfl rfl HT4.out HlG.out HO4.out ?_
    refine hK.out _ _ trivial (fun hHeld => ?_)
    refine wpAnyH_done (by kernel_rfl) ?_ _
    refine NoPanic.normal ?_
    go_end0
    exact ⟨rfl, HF4.out.hash G, grown_then HG4.out (setCells_keep p _ 0 _)⟩
end Go.Proofs.YtfpofcfoeajkiaaGreat
/- feed: its walk. -/
namespace Go.Proofs.YtfpofcfoeajkiaaGreat
open Go.RowKit
set_option linter.unusedVariables false
/-- what a feeder holds -/
structure St where
  f : Nat → UInt32
  n : Nat
  part : Nat → UInt8
def updB (f : Nat → UInt8) (j : Nat) (v : UInt8) (i : Nat) : UInt8 := if i = j then v else f i
def partL (g : Nat → UInt8) : List UInt8 := (List.range 64).map g
theorem partL_len (g : Nat → UInt8) : (partL g).length = 64 := by simp [partL]
theorem partL_bytes (g : Nat → UInt8) : bytesOf 64 (fun i => (partL g).getD i 0) = bytesOf 64 g := by
  unfold bytesOf
  have : ∀ j, j < 64 → (partL g).getD j 0 = g j := fun j hj => by simp [partL, hj]
  have h2 : (List.range 64).map (fun j => Value.int .u8 ((partL g).getD j 0).toNat) = (List.range 64).map (fun j => Value.int .u8 (g j).toNat) := List.map_congr_left fun j hj => by rw [this j (by simpa using hj)]
  exact congrArg List.toArray h2
/-- one byte -/
def feed1 (S : St) (c : UInt8) : St :=
  if S.n % 64 = 63 then ⟨blockF S.f (partL (updB S.part (S.n % 64) c)), S.n + 1, updB S.part (S.n % 64) c⟩ else ⟨S.f, S.n + 1, updB S.part (S.n % 64) c⟩
def feedL (S : St) (l : List UInt8) : St := l.foldl feed1 S
theorem feedL_snoc (S : St) (l : List UInt8) (c : UInt8) : feedL S (l ++ [c]) = feed1 (feedL S l) c := by simp [feedL]
theorem feedL_append (S : St) (l m : List UInt8) : feedL S (l ++ m) = feedL (feedL S l) m := by simp [feedL]
theorem feed1_n (S : St) (c : UInt8) : (feed1 S c).n = S.n + 1 := by unfold feed1; split <;> rfl
theorem feedL_n (S : St) : ∀ l, (feedL S l).n = S.n + l.length := by
  intro l
  induction l generalizing S with
  | nil => rfl
  | cons c l ih =>
    show (feedL (feed1 S c) l).n = _
    rw [ih, feed1_n, List.length_cons]; omega
def FeedS (w : World) (p : Nat) (S : St) : Prop := Feed w p S.f S.n S.part
theorem Feed.size {w : World} {p : Nat} {f : Nat → UInt32} {n : Nat} {part : Nat → UInt8} (h : Feed w p f n part) (m : Nat) : Feed (w.setCell ⟨p, 8, none⟩ (.int .u64 m)) p f m part := by
  have hl : (cellsOf 8 f).toList.length = 8 := by rw [Array.length_toList, cellsOf_size]
  refine ⟨fun j v hj => ?_, World.cell?_setCell_same _ _ _ h.s, fun j v hj => ?_, fun j hj => ?_⟩
  · have : j < 8 := by rw [← hl]; exact (List.getElem?_eq_some_iff.1 hj).1
    rw [World.cell?_setCell_other _ _ _ _ (by intro e; injection e with _ e; omega)]
    exact h.h j v hj
  · rw [World.cell?_setCell_other _ _ _ _ (by intro e; injection e with _ e; omega)]
    exact h.b j v hj
  · obtain ⟨h1, h2⟩ := h.t j hj
    refine ⟨?_, by rw [World.frozen?_setCell]; exact h2⟩
    by_cases e : 8 = j
    · subst e; rw [Nat.zero_add, World.cell?_setCell_same _ _ _ h.s]; rfl
    · rw [World.cell?_setCell_other _ _ _ _ (by intro e'; injection e' with _ e'; omega)]; exact h1
theorem Feed.put {w : World} {p : Nat} {f : Nat → UInt32} {n : Nat} {part : Nat → UInt8} (h : Feed w p f n part) (k : Nat) (hk : k < 64) (c : UInt8) : Feed (w.setCell ⟨p, 9 + k, none⟩ (.int .u8 c.toNat)) p f n (updB part k c) := by
  have hl : (cellsOf 8 f).toList.length = 8 := by rw [Array.length_toList, cellsOf_size]
  have hb : ∀ g : Nat → UInt8, ∀ j, j < 64 → (bytesOf 64 g).toList[j]? = some (.int .u8 (g j).toNat) := fun g j hj => by
    have := bytesOf_get g hj
    simpa using this
  have hk0 := h.b k _ (hb part k hk)
  refine ⟨fun j v hj => ?_, ?_, fun j v hj => ?_, fun j hj => ?_⟩
  · have : j < 8 := by rw [← hl]; exact (List.getElem?_eq_some_iff.1 hj).1
    rw [World.cell?_setCell_other _ _ _ _ (by intro e; injection e with _ e; omega)]
    exact h.h j v hj
  · rw [World.cell?_setCell_other _ _ _ _ (by intro e; injection e with _ e; omega)]
    exact h.s
  · have hj64 : j < 64 := by
      have := (List.getElem?_eq_some_iff.1 hj).1
      rw [Array.length_toList, bytesOf_size] at this; exact this
    rw [hb _ j hj64] at hj
    injection hj with hj
    subst hj
    unfold updB
    by_cases e : j = k
    · subst e; rw [if_pos rfl, World.cell?_setCell_same _ _ _ hk0]
    · rw [if_neg e, World.cell?_setCell_other _ _ _ _ (by intro e'; injection e' with _ e'; omega)]
      exact h.b j _ (hb part j hj64)
  · obtain ⟨h1, h2⟩ := h.t j hj
    refine ⟨?_, by rw [World.frozen?_setCell]; exact h2⟩
    by_cases e : 9 + k = j
    · subst e; rw [Nat.zero_add, World.cell?_setCell_same _ _ _ hk0]; rfl
    · rw [World.cell?_setCell_other _ _ _ _ (by intro e'; injection e' with _ e'; omega)]; exact h1
theorem Feed.at {w : World} {p : Nat} {f : Nat → UInt32} {n : Nat} {part : Nat → UInt8} (h : Feed w p f n part) (k : Nat) (hk : k < 64) : w.cell? ⟨p, 9 + k, none⟩ = some (.int .u8 (part k).toNat) := by
  apply h.b k
  have := bytesOf_get part hk
  simpa using this
theorem grown_setCell (w : World) (p o : Nat) (v : Value) : w.grownBy (w.setCell ⟨p, o, none⟩ v) (some p) :=
  ⟨rfl, rfl, rfl, by simp, fun i hi hne => heap_setCell_other w _ i v (fun e => hne (by rw [e]))⟩
theorem grown_drew {a w : World} {row : Option Nat} (h : a.grownBy w row) : a.grownBy w.drew row := ⟨h.os, h.tape, h.output, h.size, h.block⟩
set_option maxRecDepth 20000 in
set_option maxHeartbeats 4000000 in
theorem feed_any (p : Nat) (S : St) (s : ByteArray) (w : World) (hF : FeedS w p S) (hn : S.n + s.size ≤ 1000000000000) :
    Calls Tryz.prog 97 #[.pointer (some ⟨p, 0, none⟩), .string s] w fun e w' => e = .returned (.tuple #[]) ∧ FeedS w' p (feedL S s.data.toList) ∧ w.grownBy w' (some p) := by
  have HF := Lib.hid hF; clear hF
  go_enter Tryz.func97, Tryz.ntmps97
  go_wp2_with fail
  go_loopw [8] (fun i wr => ∃ k : Nat, k ≤ s.size ∧ i = .int .i64 k ∧ Hid (FeedS wr p (feedL S (s.data.toList.take k))) ∧ Hid (w.grownBy wr (some p))) (fun i _ => s.size - (intOf i).toNat)
  case atStart => exact ⟨0, Nat.zero_le _, rfl, HF.out, World.grownBy.refl w _⟩
  case round =>
    obtain ⟨k, hk, rfl, HR, HG⟩ := hrel
    by_cases hlt : k < s.size
    · have HT := Lib.hid (take_snoc s k hlt)
      obtain ⟨c, gc⟩ : ∃ c, ∀ h, s[k]'h = c := ⟨s[k], fun _ => rfl⟩
      have HN : Hid (feedL S (s.data.toList.take (k + 1)) = feed1 (feedL S (s.data.toList.take k)) c) := by
        unfold Hid; rw [HT.out, gc hlt, feedL_snoc]
      have hTn : (feedL S (s.data.toList.take k)).n ≤ 1000000000000 := by
        rw [feedL_n, List.length_take]; omega
      generalize feedL S (s.data.toList.take k) = T at *
      obtain ⟨f, n, part⟩ := T
      dsimp only at hTn
      have hF0 : Feed wr p f n part := HR.out
      have e8 := hF0.s
      have hm : n % 64 < 64 := Nat.mod_lt _ (by decide)
      have eP := hF0.at (n % 64) hm
      have fP : wr.frozen? ⟨p, 9 + n % 64, none⟩ = false := by have := (hF0.t (9 + n % 64) (by omega)).2; rw [Nat.zero_add] at this; exact this
      have f8 : wr.frozen? ⟨p, 8, none⟩ = false := by have := (hF0.t 8 (by omega)).2; rw [Nat.zero_add] at this; exact this
      have r1 : (n : Int) % 64 = ((n % 64 : Nat) : Int) := by omega
      have HF2 := Lib.hid ((hF0.put (n % 64) hm c).size (n + 1))
      have HFx := Lib.hid (hF0.put (n % 64) hm c)
      have HG2 : Hid (w.grownBy (((wr.setCell ⟨p, 9 + n % 64, none⟩ (.int .u8 c.toNat))).setCell ⟨p, 8, none⟩ (.int .u64 ((n + 1 : Nat) : Int))) (some p)) := grown_then (grown_then HG.out (grown_setCell _ _ _ _)) (grown_setCell _ _ _ _)
      clear hF0 HR
      generalize hq : n % 64 = q at *
      have HQ := Lib.hid hq; clear hq
      have lq : (q : Int) < 64 := by omega
      have pq : (0 : Int) ≤ (q : Int) := by omega
      have k0 : (0 : Int) ≤ (k : Int) := by omega
      have k1 : (k : Int) < (s.size : Int) := by omega
      by_cases h63 : q = 63
      · have z1 : ((q : Int) == 63) = true := by rw [beq_iff_eq]; omega
        have z2 : ((n : Int) % 64 == 63) = true := by rw [beq_iff_eq]; omega
        have HS : Hid (feed1 ⟨f, n, part⟩ c = ⟨blockF f (partL (updB part q c)), n + 1, updB part q c⟩) := by
          unfold Hid feed1; dsimp only; rw [HQ.out, if_pos h63]
        have H63 := Lib.hid h63; clear h63
        go_wp2_with fail
        go_region
        have HFx' : Hid (FeedS (wr.setCell ⟨p, 9 + q, none⟩ (.int .u8 c.toNat)).drew p ⟨f, n, updB part q c⟩) := Feed.drew HFx.out
        have HG' : Hid (w.grownBy (wr.setCell ⟨p, 9 + q, none⟩ (.int .u8 c.toNat)).drew (some p)) := grown_drew (grown_then HG.out (grown_setCell _ _ _ _))
        clear HFx HG HF2 HG2
        obtain ⟨w3, e3⟩ : ∃ w3, w3 = (wr.setCell ⟨p, 9 + q, none⟩ (.int .u8 c.toNat)).drew := ⟨_, rfl⟩
        rw [← e3] at HFx' HG' ⊢
        have e9 : w3.cell? ⟨p, 8, none⟩ = some (.int .u64 n) := HFx'.out.s
        have f9 : w3.frozen? ⟨p, 8, none⟩ = false := by have := (HFx'.out.t 8 (by omega)).2; rw [Nat.zero_add] at this; exact this
        have HF2 : Hid (FeedS (w3.setCell ⟨p, 8, none⟩ (.int .u64 ((n + 1 : Nat) : Int))) p ⟨f, n + 1, updB part q c⟩) := Feed.size HFx'.out (n + 1)
        have HG2 : Hid (w.grownBy (w3.setCell ⟨p, 8, none⟩ (.int .u64 ((n + 1 : Nat) : Int))) (some p)) := grown_then HG'.out (grown_setCell _ _ _ _)
        clear e3 e8 f8 eP fP
        go_wp2_with fail
        obtain ⟨w4, e4⟩ : ∃ w4, w4 = (w3.setCell ⟨p, 8, none⟩ (.int .u64 ((n + 1 : Nat) : Int))) := ⟨_, rfl⟩
        have e5 : w4 = (w3.setCell ⟨p, 8, none⟩ (.int .u64 ((n : Int) + 1))) := e4
        rw [← e4] at HF2 HG2
        rw [← e5]
        clear e4 e5 HFx' HG' e9 f9
        have HT4 : Hid (∀ w' : World, FeedS w' p ⟨f, n + 1, updB part q c⟩ → Calls Tryz.prog 111 #[.pointer (some ⟨p, 0, none⟩), .agg (bytesOf 64 (updB part q c))] w' fun e w'' => e = .returned (.tuple #[]) ∧ Feed w'' p (blockF f (partL (updB part q c))) (n + 1) (updB part q c) ∧ w'.grownBy w'' (some p)) := by
          intro w' h'
          have := shTake_any p f (n + 1) (updB part q c) (partL (updB part q c)) (partL_len _) w' h'
          rwa [partL_bytes] at this
        generalize blockF f (partL (updB part q c)) = G at *
        obtain ⟨B, hB⟩ : ∃ B, B = bytesOf 64 (updB part q c) := ⟨_, rfl⟩
        rw [← hB] at HT4
        have hlB : (Tryz.prog.info? 87).map (·.size) = some B.toList.length := by rw [Array.length_toList, hB, bytesOf_size]; kernel_rfl
        have HlB := Lib.hid hlB; clear hlB
        have HRB : Hid (w4.drew.rangeAt p 9 B.toList) := by rw [hB]; exact HF2.out.b
        have HFd : Hid (FeedS w4.drew p ⟨f, n + 1, updB part q c⟩) := Feed.drew HF2.out
        have HGd : Hid (w.grownBy w4.drew (some p)) := grown_drew HG2.out
        clear hB HF2 HG2
        refine wp_region_still_tail 7 (by kernel_rfl) (by kernel_rfl) ?_
        simp only [List.take_succ_cons, List.take_zero, List.drop_succ_cons, List.drop_zero]
        change wpStill _ _ w4.drew _ _ _
        obtain ⟨w5, hw5⟩ : ∃ w5, w5 = w4.drew := ⟨_, rfl⟩
        rw [← hw5] at HRB HFd HGd ⊢
        have HW5 := Lib.hid hw5; clear hw5
        still_step
        still_step
        still_step
        still_step
        still_step
        still_step
        refine wpStill_load_mid (by rfl) 87 _ rfl p 9 rfl B.toList _ HRB.out Tryz.underlying87 rfl HlB.out ?_
        refine wpStill_nil ?_
        change wpList _ _ _ _ _ w4.drew
        rw [← HW5.out]
        go_wp2_with fail
        go_at_call 111
        refine (HT4.out _ HFd.out).mono ?_
        rintro e w6 ⟨rfl, b6, g6⟩
        have HF6 := Lib.hid b6; clear b6
        have HG6 : Hid (w.grownBy w6 (some p)) := grown_then HGd.out g6
        clear g6
        go_wp2
        go_roundw
        case rel => exact ⟨k + 1, hlt, by go_num, by rw [HN.out, HS.out]; exact HF6, HG6⟩
        case measure => simp [intOf]; omega
      · have z1 : ((q : Int) == 63) = false := by rw [beq_eq_false_iff_ne]; omega
        have z2 : ((n : Int) % 64 == 63) = false := by rw [beq_eq_false_iff_ne]; omega
        have HS : Hid (feed1 ⟨f, n, part⟩ c = ⟨f, n + 1, updB part q c⟩) := by
          unfold Hid feed1; dsimp only; rw [HQ.out, if_neg h63]
        go_wp2_with fail
        go_region
        have HFx' : Hid (FeedS (wr.setCell ⟨p, 9 + q, none⟩ (.int .u8 c.toNat)).drew p ⟨f, n, updB part q c⟩) := Feed.drew HFx.out
        have HG' : Hid (w.grownBy (wr.setCell ⟨p, 9 + q, none⟩ (.int .u8 c.toNat)).drew (some p)) := grown_drew (grown_then HG.out (grown_setCell _ _ _ _))
        clear HFx HG HF2 HG2
        obtain ⟨w3, e3⟩ : ∃ w3, w3 = (wr.setCell ⟨p, 9 + q, none⟩ (.int .u8 c.toNat)).drew := ⟨_, rfl⟩
        rw [← e3] at HFx' HG' ⊢
        have e9 : w3.cell? ⟨p, 8, none⟩ = some (.int .u64 n) := HFx'.out.s
        have f9 : w3.frozen? ⟨p, 8, none⟩ = false := by have := (HFx'.out.t 8 (by omega)).2; rw [Nat.zero_add] at this; exact this
        have HF2 : Hid (FeedS (w3.setCell ⟨p, 8, none⟩ (.int .u64 ((n + 1 : Nat) : Int))) p ⟨f, n + 1, updB part q c⟩) := Feed.size HFx'.out (n + 1)
        have HG2 : Hid (w.grownBy (w3.setCell ⟨p, 8, none⟩ (.int .u64 ((n + 1 : Nat) : Int))) (some p)) := grown_then HG'.out (grown_setCell _ _ _ _)
        clear e3 e8 f8 eP fP
        go_wp2_with fail
        go_roundw
        case rel => exact ⟨k + 1, hlt, by go_num, by rw [HN.out, HS.out]; exact HF2, HG2⟩
        case measure => simp [intOf]; omega
    · obtain rfl : k = s.size := by omega
      have hv : s.data.toList.take s.size = s.data.toList := take_all s _ (Nat.le_refl _)
      have HV := Lib.hid hv; clear hv
      go_wp2
      go_end0
      exact ⟨rfl, by have h := HR.out; rw [HV.out] at h; exact h, HG.out⟩
end Go.Proofs.YtfpofcfoeajkiaaGreat
/- strings.Builder: WriteString, Reset; what the builder's block is behind String. -/
namespace Go.Proofs.YtfpofcfoeajkiaaGreat
open Go.RowKit
set_option linter.unusedVariables false
theorem isBld_kept {w w' : World} {b p : Nat} {l : List UInt8} (h : isBld w b l) (hg : w.grownBy w' (some p)) (hp : p < b) : isBld w' b l := by
  have go : ∀ q, Lib.BuilderAt 93 5 b b q (Lib.byteCells l) w → Lib.BuilderAt 93 5 b b q (Lib.byteCells l) w' := by
    intro q hq
    have hlt := hq.lt
    obtain ⟨hB, v, hb, hown, hne⟩ := hq
    refine ⟨hB, v, by rw [hg.block b hlt (by simp; omega)]; exact hb, hown.kept hg ?_, hne⟩
    right
    intro e
    have := (hown.lt p e).1
    omega
  rcases h with h | h
  · exact Or.inl (go _ h)
  · exact Or.inr (go _ h)
theorem isBld_lt {w : World} {b : Nat} {l : List UInt8} (h : isBld w b l) : b < w.heap.size := by
  rcases h with h | h
  · exact h.lt
  · exact h.lt
theorem isBld_alloc {w : World} {b p : Nat} {l : List UInt8} (h : isBld w b l) (hp : p < b) (o : Obj) : isBld (w.alloc o) b l := isBld_kept h (World.grownBy_alloc w _ (some p)) hp
theorem grown_low {a w w' : World} {B : Nat} {row : Option Nat} (h : a.grownBy w row) (hb : Below B w w') (hB : a.heap.size ≤ B) : a.grownBy w' row :=
  ⟨hb.os.trans h.os, hb.tape.trans h.tape, hb.output.trans h.output, Nat.le_trans h.size hb.size, fun i hi hne => (hb.block i (by omega)).trans (h.block i hi hne)⟩
set_option maxHeartbeats 2000000 in
set_option maxRecDepth 100000 in
theorem bldText_ok (b : Nat) (l : List UInt8) (s : ByteArray) (w : World) (h : isBld w b l) (hlen : l.length + s.size ≤ 140737488355328) (hBw : b ≤ w.heap.size) :
    Calls Tryz.prog 52 #[.pointer (some ⟨b, 0, none⟩), .string s] w fun e w' => e = .returned (.tuple #[.int .i64 s.size, .nilIface]) ∧ isBld w' b (l ++ s.data.toList) ∧ Below b w w' := by
  obtain ⟨i0, hi, hz0, hz1, hz2⟩ := info_parts bldByte
  have hbl : (Lib.byteCells l).length = l.length := Lib.byteCells_length l
  have happ : Lib.byteCells (l ++ s.data.toList) = Lib.byteCells l ++ Lib.strCells s := by simp [Lib.byteCells, Lib.strCells]
  have hl2 : (Lib.byteCells (l ++ s.data.toList)).length = l.length + s.size := by rw [happ, List.length_append, hbl, Lib.strCells_length]
  have HA := Lib.hid happ; clear happ
  have HL := Lib.hid hl2; clear hl2
  go_enter Tryz.func52, Tryz.ntmps52
  go_wp2_with (go_at_call 80; refine (bldCheck b b (Lib.byteCells l) _ h).mono ?_)
  rintro e w1 ⟨rfl, h1, hb1⟩
  obtain ⟨hB, v, hbk, hown, hne⟩ := h1
  have c0 : w1.cell? ⟨b, 0, none⟩ = some (.pointer (some ⟨b, 0, none⟩)) := by rw [Lib.cell_of_heap hbk]; rfl
  have c1 : w1.cell? ⟨b, 1, none⟩ = some v := by rw [Lib.cell_of_heap hbk]; rfl
  rw [hbl] at hown
  go_wp2_with (at_builtin; refine Lib.wpList_append_own_string _ rfl _ _ 83 9 rfl b 5 i0 Tryz.underlying83 Tryz.underlying9 hi hz0 hz1 hz2 _ _ _ rfl hown s rfl ?c3 ?c4 ?c5 ?_)
  case c3 => unfold maxLen; omega
  case c4 => omega
  case c5 => have := hb1.size; omega
  intro v' w2 hown' hgrow _
  have hlt : b < w1.heap.size := by
    rcases Nat.lt_or_ge b w1.heap.size with h' | h'
    · exact h'
    · simp [Array.getElem?_eq_none h'] at hbk
  have hb2 : w2.heap[b]? = some (.cells #[.pointer (some ⟨b, 0, none⟩), v] 93 (0, 0)) := by
    rw [hgrow.block b hlt (fun e => hne e.symm)]
    exact hbk
  have d0 : w2.cell? ⟨b, 0, none⟩ = some (.pointer (some ⟨b, 0, none⟩)) := by rw [Lib.cell_of_heap hb2]; rfl
  have d1 : w2.cell? ⟨b, 1, none⟩ = some v := by rw [Lib.cell_of_heap hb2]; rfl
  have f1 : w2.frozen? ⟨b, 1, none⟩ = false := Lib.frozen_of_heap hb2 1
  obtain ⟨ao, n', cap, rfl⟩ : ∃ ao n' cap, v' = .slice ao n' cap := by
    rcases hown'.2 with ⟨hv, _⟩ | ⟨g, cap, cur, hv, _⟩
    · exact ⟨_, _, _, hv⟩
    · exact ⟨_, _, _, hv⟩
  go_wp2
  go_ret2
  refine ⟨rfl, Or.inr ?_, ?_⟩
  · exact Lib.BuilderAt.put (T := 93) (e := 5) hB hb2 (bs' := Lib.byteCells (l ++ s.data.toList)) (by rw [HL.out, HA.out]; exact hown') (by decide)
  · exact (hb1.grown hgrow (by have := hb1.size; omega) (fun k hk => (hown.lt k hk).1)).setCell (p := ⟨b, 1, none⟩) hB _
theorem heap_freeze (w : World) (g n b : Nat) (h : b ≠ g) : (w.freeze ⟨g, 0, none⟩ n).heap[b]? = w.heap[b]? := by
  unfold World.freeze
  split
  · rfl
  · simp only [Array.getElem?_modify]
    rw [if_neg (by omega)]
set_option maxHeartbeats 1000000 in
set_option maxRecDepth 100000 in
/-- String, of a builder that holds a byte: and its block stays -/
theorem bldString_keep (b : Nat) (l : List UInt8) (w : World) (h : isBld w b l) (h0 : l ≠ []) :
    Calls Tryz.prog 53 #[.pointer (some ⟨b, 0, none⟩)] w fun e w' => e = .returned (.string ⟨l.toArray⟩) ∧ Below b w w' ∧ ∃ p v, w'.heap[b]? = some (.cells #[p, v] 93 (0, 0)) := by
  obtain ⟨p, hB, v, hbk, hown, hne⟩ : ∃ p, Lib.BuilderAt 93 5 b b p (Lib.byteCells l) w := by
    rcases h with h | h
    · exact ⟨_, h⟩
    · exact ⟨_, h⟩
  have hl0 : l.length ≠ 0 := by simpa using h0
  rw [Lib.byteCells_length] at hown
  obtain ⟨g, cap, cur, rfl, hbg, hg, hnc, hcm, hcs, htake⟩ : ∃ g cap cur, v = .slice (some ⟨g, 0, none⟩) l.length cap ∧ b ≤ g ∧ w.heap[g]? = some (.cells cur 5 (0, 0)) ∧ l.length ≤ cap ∧ cap ≤ maxLen ∧ cur.size = cap * 1 ∧ cur.toList.take (l.length * 1) = Lib.byteCells l := by
    rcases hown.2 with ⟨_, hz⟩ | ⟨g, cap, cur, hv, r⟩
    · exact absurd hz hl0
    · exact ⟨g, cap, cur, hv, r⟩
  have hgb : b ≠ g := by intro e; subst e; exact hne rfl
  have HGB := Lib.hid hgb; clear hgb
  have c1 : w.drew.cell? ⟨b, 1, none⟩ = some (.slice (some ⟨g, 0, none⟩) l.length cap) := by
    have : w.drew.heap[b]? = some (.cells #[p, .slice (some ⟨g, 0, none⟩) l.length cap] 93 (0, 0)) := hbk
    rw [Lib.cell_of_heap this]; rfl
  have hSD : (Builtin.unsafeSliceData_ #[83] 123 #[.slice (some ⟨g, 0, none⟩) l.length cap]).run Tryz.prog w.drew = .ok (.pointer (some ⟨g, 0, none⟩)) w.drew :=
    Lib.run_unsafeSliceData_row _ _ _ _ _ _ (by omega)
  have hUS : (Builtin.unsafeString_ #[123, 3] 9 #[.pointer (some ⟨g, 0, none⟩), .int .i64 l.length]).run Tryz.prog w.drew = .ok (.string ⟨l.toArray⟩) (w.drew.freeze ⟨g, 0, none⟩ l.length) := by
    refine Lib.run_unsafeString_row w.drew 123 3 9 5 Tryz.underlying123 bldByteC g cur.size (by have hg' : w.drew.heap[g]? = some (.cells cur 5 (0, 0)) := hg; simp [World.shape?, hg']) l h0 (by omega) (by unfold maxLen at hcm; omega) ?_
    intro j x hx
    have := hown.cells (g := g) rfl j (.int .u8 x.toNat) (by simp [Lib.byteCells, hx])
    exact this
  go_enter Tryz.func53, Tryz.ntmps53
  go_wp2
  go_region
  all_goals (go_wp2; go_ret; exact ⟨rfl, Lib.below_freeze (Below.drew (Below.refl b w)) (p := ⟨g, 0, none⟩) hbg _, p, _, by rw [heap_freeze _ _ _ _ HGB.out]; exact hbk⟩)
set_option maxHeartbeats 1000000 in
set_option maxRecDepth 100000 in
theorem bldReset_ok (b : Nat) (p v : Value) (w : World) (h : w.heap[b]? = some (.cells #[p, v] 93 (0, 0))) :
    Calls Tryz.prog 112 #[.pointer (some ⟨b, 0, none⟩)] w fun e w' => e = .returned (.tuple #[]) ∧ isBld w' b [] ∧ Below b w w' := by
  have c0 : w.cell? ⟨b, 0, none⟩ = some p := by rw [Lib.cell_of_heap h]; rfl
  have c1 : (w.setCell ⟨b, 0, none⟩ (.pointer none)).cell? ⟨b, 1, none⟩ = some v := by
    rw [World.cell?_setCell_other _ _ _ _ (by intro e; injection e with _ e; omega), Lib.cell_of_heap h]; rfl
  have f0 : w.frozen? ⟨b, 0, none⟩ = false := Lib.frozen_of_heap h 0
  have f1 : (w.setCell ⟨b, 0, none⟩ (.pointer none)).frozen? ⟨b, 1, none⟩ = false := by rw [World.frozen?_setCell]; exact Lib.frozen_of_heap h 1
  have hh : ((w.setCell ⟨b, 0, none⟩ (.pointer none)).setCell ⟨b, 1, none⟩ (.slice none 0 0)).heap[b]? = some (.cells #[.pointer none, .slice none 0 0] 93 (0, 0)) := by
    simp [World.setCell, Array.getElem?_modify, h]
  have HH := Lib.hid hh; clear hh
  go_enter Tryz.func112, Tryz.ntmps112
  go_wp2
  go_end0
  exact ⟨rfl, Or.inl ⟨Nat.le_refl _, _, HH.out, World.ownsRow_nil _ _ _ _, by simp [Value.ownBlock]⟩, ((Below.refl b w).setCell (p := ⟨b, 0, none⟩) (Nat.le_refl _) _).setCell (p := ⟨b, 1, none⟩) (Nat.le_refl _) _⟩
end Go.Proofs.YtfpofcfoeajkiaaGreat
