/- Texts of this claim's author, packed: GfDivK, GfDotK, GfEvenK, GfAddK, GfMemK, GfTimesK, GfRTimesK. Conditions: none. -/
import Derived.Test.YtfpofcfoeajkiaaGreatQR14
import Derived.Deep.RegionHeld3
import Derived.Test.YtfpofcfoeajkiaaGreatQR10
import Derived.Deep.QuietTactic
import Derived.BigQuiet
import Derived.StillTailTactics
import Derived.Deep.MidRow
import Derived.Lib.ConvBytes
import Derived.Laws.MakeOwn
import Derived.OwnWalk
/- The document's quotients and powers, sums of products, the chapter's example: walks. -/
namespace Go.Proofs.YtfpofcfoeajkiaaGreat
open Go.RowKit
set_option linter.unusedVariables false
theorem gDiv_back {a b : Nat} (ha : a < 256) (hb : b < 256) (h : b ≠ 0) : gMul (gDiv a b) b = a := by
  unfold gDiv; rw [if_neg h]; exact gDiv_mul ha hb h
/-- the sum of the products of two rows' numbers -/
def gDot : List UInt8 → List UInt8 → Nat
  | x :: xs, y :: ys => gMul x.toNat y.toNat ^^^ gDot xs ys
  | _, _ => 0
theorem gDot_lt : ∀ l m, gDot l m < 256
  | x :: xs, y :: ys => xlt (gMul_lt _ x.toNat_lt) (gDot_lt xs ys)
  | [], _ => by simp [gDot]
  | _ :: _, [] => by simp [gDot]
theorem gDot_snoc (x y : UInt8) : ∀ l m : List UInt8, l.length = m.length → gDot (l ++ [x]) (m ++ [y]) = gDot l m ^^^ gMul x.toNat y.toNat
  | [], [], _ => by simp [gDot]
  | a :: l, b :: m, h => by
    simp only [List.cons_append, gDot]
    rw [gDot_snoc x y l m (by simpa using h), Nat.xor_assoc]
  | [], _ :: _, h => by simp at h
  | _ :: _, [], h => by simp at h
theorem gDot_take : ∀ (n : Nat) (l m : List UInt8), l.length ≤ n ∨ m.length ≤ n → gDot (l.take n) (m.take n) = gDot l m
  | _, [], m, _ => by simp [gDot]
  | _, a :: l, [], _ => by simp [gDot]
  | 0, a :: l, b :: m, h => by simp at h
  | n + 1, a :: l, b :: m, h => by
    simp only [List.take_succ_cons, gDot]
    rw [gDot_take n l m (by simpa using h)]
def GDotAt (a b : ByteArray) (k s : Nat) : Prop := gDot (a.data.toList.take k) (b.data.toList.take k) = s
theorem GDotAt.step {a b : ByteArray} {k s : Nat} (h : GDotAt a b k s) (ha : k < a.size) (hb : k < b.size) : GDotAt a b (k + 1) (s ^^^ gMul a[k].toNat b[k].toNat) := by
  unfold GDotAt at *
  rw [take_snoc a k ha, take_snoc b k hb, gDot_snoc _ _ _ _ (by simp; omega), h]
theorem GDotAt.done {a b : ByteArray} {k s : Nat} (h : GDotAt a b k s) (hk : a.size ≤ k ∨ b.size ≤ k) : gDot a.data.toList b.data.toList = s := by
  unfold GDotAt at h
  rw [← gDot_take k _ _ (by simpa using hk), h]
end Go.Proofs.YtfpofcfoeajkiaaGreat
/- Sums of products, the chapter's example: walks. -/
namespace Go.Proofs.YtfpofcfoeajkiaaGreat
open Go.RowKit
set_option linter.unusedVariables false
theorem drewN_hid {w wr : World} (h : Hid (∃ m, wr = w.drewN m)) (n : Nat) : Hid (∃ m, wr.drewN n = w.drewN m) := by
  obtain ⟨m, rfl⟩ := h.out
  exact ⟨m + n, World.drewN_drewN ..⟩
end Go.Proofs.YtfpofcfoeajkiaaGreat
/- few, even, width of rows, of both packages: walks. -/
namespace Go.Proofs.YtfpofcfoeajkiaaGreat
open Go.RowKit
set_option linter.unusedVariables false
def firstN (l : List ByteArray) : Nat := (l.headD .empty).size
def allN (p : Nat → Bool) (l : List ByteArray) : Bool := l.all fun r => p r.size
theorem allN_step (p : Nat → Bool) (l : List ByteArray) (k : Nat) (h : k < l.length) : allN p (l.take (k + 1)) = (allN p (l.take k) && p l[k].size) := by
  unfold allN; rw [take_succ_list l k h, List.all_append]; simp
theorem allN_pre {p : Nat → Bool} {l : List ByteArray} (k : Nat) (h : allN p (l.take k) = false) : allN p l = false := by
  cases h2 : allN p l with
  | false => rfl
  | true =>
    unfold allN at h h2
    rw [List.all_eq_true] at h2
    rw [← h]
    symm
    rw [List.all_eq_true]
    exact fun x hx => h2 x (List.mem_of_mem_take hx)
def fewL (l : List ByteArray) : Bool := decide (l.length ≤ 20) && allN (fun n => decide (n ≤ 40)) l
def evenL (l : List ByteArray) : Bool := allN (fun n => decide (n = firstN l)) l
def evenB (l : List ByteArray) : Bool := evenL l && decide (l.length ≤ 16)
def evenR (l : List ByteArray) : Bool := evenL l && decide (0 < l.length)
def widthN (l : List ByteArray) : Nat := if l.length = 0 ∨ evenB l = false then 0 else firstN l
theorem firstN_get {l : List ByteArray} (h : 0 < l.length) : l[0].size = firstN l := by
  cases l with
  | nil => simp at h
  | cons a l => rfl
set_option maxRecDepth 20000 in
set_option maxHeartbeats 2000000 in
theorem even_any (w : World) (va : Value) (l : List ByteArray) (ha : StrsB w va l) :
    Calls Tryz.prog 89 #[va] w fun e w' => e = .returned (.bool (evenB l)) ∧ w = w' := by
  obtain ⟨A, c, rfl, h1, h2⟩ := ha.len
  have HC := Lib.hid ha.cells; clear ha
  have hm : l.length ≤ 9223372036854775807 := by unfold maxLen at h2; omega
  clear h1 h2
  go_enter Tryz.func89, Tryz.ntmps89
  go_wp2
  go_loop [7] (fun i => ∃ j : Nat, j ≤ l.length ∧ i = .int .i64 j ∧ Hid (allN (fun n => decide (n = firstN l)) (l.take j) = true)) (fun i => l.length - (intOf i).toNat)
  case atStart => exact ⟨0, Nat.zero_le _, rfl, rfl⟩
  case round =>
    obtain ⟨j, hj, rfl, HT⟩ := hrel
    by_cases hlt : j < l.length
    · obtain ⟨b, off, rfl, hblt, hcell⟩ := HC.out (by omega)
      have e1 := hcell j hlt
      have h0 : 0 < l.length := by omega
      have e0 : w.cell? ⟨b, off, none⟩ = some (.string l[0]) := hcell 0 h0
      have hst := allN_step (fun n => decide (n = firstN l)) l j hlt
      rw [HT.out, Bool.true_and, ← firstN_get h0] at hst
      clear hcell
      by_cases hs : l[j].size = l[0].size
      · have hs' : ((l[j].size : Int) != (l[0].size : Int)) = false := by rw [bne_eq_false_iff_eq]; omega
        rw [decide_eq_true hs] at hst
        have HS := Lib.hid hst; clear hst hs
        have HN := Lib.hid (firstN_get h0)
        generalize l[j] = x at *
        generalize l[0] = y at *
        go_wp2
        go_round
        case rel => exact ⟨j + 1, by omega, by go_num, by have := HS.out; rw [HN.out] at this; exact this⟩
        case measure => simp [intOf]; omega
      · have hs' : ((l[j].size : Int) != (l[0].size : Int)) = true := by rw [bne_iff_ne]; omega
        rw [decide_eq_false hs] at hst
        have HF := Lib.hid (allN_pre (j + 1) hst)
        rw [firstN_get h0] at HF
        clear hst hs
        generalize l[j] = x at *
        generalize l[0] = y at *
        go_wp2
        go_ret
        exact ⟨by unfold evenB evenL; rw [HF.out]; rfl, rfl⟩
    · obtain rfl : j = l.length := by omega
      rw [List.take_length] at HT
      go_wp2
      go_ret
      exact ⟨by unfold evenB evenL; rw [HT.out, Bool.true_and, show decide ((l.length : Int) ≤ 16) = decide (l.length ≤ 16) from by rw [decide_eq_decide]; omega]; rfl, rfl⟩
set_option maxRecDepth 20000 in
set_option maxHeartbeats 2000000 in
theorem width_any (w : World) (va : Value) (l : List ByteArray) (ha : StrsB w va l) :
    Calls Tryz.prog 88 #[va] w fun e w' => e = .returned (.int .i64 (widthN l : Nat)) ∧ w = w' := by
  have HV := Lib.hid (even_any w va l ha)
  obtain ⟨A, c, rfl, h1, h2⟩ := ha.len
  have HC := Lib.hid ha.cells; clear ha
  have hm : l.length ≤ 9223372036854775807 := by unfold maxLen at h2; omega
  clear h1 h2
  by_cases h0 : l.length = 0
  · have hd : ((l.length : Int) == 0) = true := by rw [beq_iff_eq]; omega
    have HE : Hid (widthN l = 0) := by unfold Hid widthN; rw [if_pos (Or.inl h0)]
    clear h0
    go_enter Tryz.func88, Tryz.ntmps88
    go_wp2
    go_ret
    exact ⟨by rw [HE.out]; rfl, rfl⟩
  · have hd : ((l.length : Int) == 0) = false := by rw [beq_eq_false_iff_ne]; omega
    obtain ⟨b, off, rfl, hblt, hcell⟩ := HC.out (by omega)
    have h0' : 0 < l.length := by omega
    have e0 : w.cell? ⟨b, off, none⟩ = some (.string l[0]) := hcell 0 h0'
    have HN := Lib.hid (firstN_get (l := l) (by omega))
    clear hcell
    cases hb : evenB l
    · have HE : Hid (widthN l = 0) := by unfold Hid widthN; rw [if_pos (Or.inr hb)]
      rw [hb] at HV
      generalize l[0] = y at *
      clear h0 hb
      go_enter Tryz.func88, Tryz.ntmps88
      go_wp2_with fail
      refine HV.out.mono ?_
      rintro e w1 ⟨rfl, rfl⟩
      go_wp2
      go_ret
      exact ⟨by rw [HE.out]; rfl, rfl⟩
    · have HE : Hid (widthN l = firstN l) := by unfold Hid widthN; rw [if_neg (by rw [hb]; simp [h0])]
      rw [hb] at HV
      clear hb
      generalize l[0] = y at *
      go_enter Tryz.func88, Tryz.ntmps88
      go_wp2_with fail
      refine HV.out.mono ?_
      rintro e w1 ⟨rfl, rfl⟩
      go_wp2
      go_ret
      exact ⟨by rw [HE.out, ← HN.out]; rfl, rfl⟩
end Go.Proofs.YtfpofcfoeajkiaaGreat
/- gf.add: a row, times a number, added to another: walk. -/
namespace Go.Proofs.YtfpofcfoeajkiaaGreat
open Go.RowKit
set_option linter.unusedVariables false
theorem grown_then' {a b c : World} {r : Option Nat} (h : a.grownBy b r) (k : b.grownBy c r) : a.grownBy c r := grown_trans h k
theorem grown_drewG {a w : World} {row : Option Nat} (h : a.grownBy w row) : a.grownBy w.drew row := ⟨h.os, h.tape, h.output, h.size, h.block⟩
theorem FRow.drew {w : World} {g n : Nat} {f : Nat → UInt8} (h : FRow w g n f) : FRow w.drew g n f := h.same (Nat.le_refl _) rfl
theorem umul_any (a b : UInt8) (w : World) : Calls Tryz.prog 108 #[.int .u8 (a.toNat : Int), .int .u8 (b.toNat : Int)] w fun e w' => e = .returned (.int .u8 ((um a b).toNat : Int)) ∧ w' = w := by
  rw [um_nat]
  exact (mul_any a.toNat b.toNat a.toNat_lt b.toNat_lt w).mono fun _ _ ⟨h1, h2⟩ => ⟨h1, h2.symm⟩
theorem ux8 (a b : UInt8) : bits .xor .u8 (a.toNat : Int) (b.toNat : Int) = ((a ^^^ b).toNat : Int) := by
  rw [x8n _ _ a.toNat_lt b.toNat_lt, UInt8.toNat_xor]
/-- the first k cells of ft with f times fr's added -/
def adF (f : UInt8) (fr ft : Nat → UInt8) (k : Nat) (i : Nat) : UInt8 := if i < k then ft i ^^^ um f (fr i) else ft i
theorem adF_zero (f : UInt8) (fr ft : Nat → UInt8) (i : Nat) : adF f fr ft 0 i = ft i := by unfold adF; rw [if_neg (by omega)]
theorem adF_step (f : UInt8) (fr ft : Nat → UInt8) (k : Nat) : updG (adF f fr ft k) k (ft k ^^^ um f (fr k)) = adF f fr ft (k + 1) := by
  funext i
  unfold updG adF
  by_cases e : i = k
  · subst e; rw [if_pos rfl, if_pos (by omega)]
  · rw [if_neg e]
    by_cases h : i < k
    · rw [if_pos h, if_pos (by omega)]
    · rw [if_neg h, if_neg (by omega)]
set_option maxRecDepth 20000 in
set_option maxHeartbeats 2000000 in
theorem add_any (gT nT cT gR n cR : Nat) (f : UInt8) (fr ft : Nat → UInt8) (w : World) (hT : FRow w gT nT ft) (hR : FRow w gR n fr) (hne : gT ≠ gR) (hn : n ≤ nT) (hm : nT ≤ 140737488351232) :
    Calls Tryz.prog 90 #[.slice (some ⟨gT, 0, none⟩) nT cT, .int .u8 (f.toNat : Int), .slice (some ⟨gR, 0, none⟩) n cR] w fun e w' => e = .returned (.tuple #[]) ∧ FRow w' gT nT (adF f fr ft n) ∧ w.grownBy w' (some gT) := by
  have HT := Lib.hid hT; clear hT
  have HR := Lib.hid hR; clear hR
  by_cases hf : f = 0
  · have hd : ((f.toNat : Int) == 0) = true := by subst hf; rfl
    have HA : Hid (∀ i, ft i = adF f fr ft n i) := fun i => by subst hf; unfold adF; rw [zero_um, UInt8.xor_zero]; simp
    clear hf
    go_enter Tryz.func90, Tryz.ntmps90
    go_wp2
    ((try simp only [Exit.inBlock, Exit.then]); refine bodyPost_ret (results_none rfl _ _ _) rfl ?_)
    exact ⟨rfl, HT.out.congr fun i _ => HA.out i, grown_refl _ _⟩
  · have hd : ((f.toNat : Int) == 0) = false := by
      rw [beq_eq_false_iff_ne]; intro e; apply hf; apply UInt8.toNat_inj.1; show f.toNat = 0; omega
    clear hf
    have hm2 : n ≤ 9223372036854775807 := by omega
    go_enter Tryz.func90, Tryz.ntmps90
    go_wp2_with fail
    clear hd
    go_loopw [12] (fun i wr => ∃ k : Nat, k ≤ n ∧ i = .int .i64 k ∧ Hid (FRow wr gT nT (adF f fr ft k)) ∧ Hid (w.grownBy wr (some gT))) (fun i _ => n - (intOf i).toNat)
    case atStart => exact ⟨0, Nat.zero_le _, rfl, HT.out.congr fun i _ => (adF_zero f fr ft i).symm, grown_refl _ _⟩
    case round =>
      obtain ⟨k, hk, rfl, HF, HG⟩ := hrel
      by_cases hlt : k < n
      · have hltT : k < nT := by omega
        have hk2 : (k : Int) < (n : Int) := by omega
        have hk3 : (k : Int) < (nT : Int) := by omega
        have HR2 : Hid (FRow wr gR n fr) := HR.out.grown HG.out (by intro e; injection e with e; exact hne e.symm)
        have e1 : wr.cell? ⟨gR, k, none⟩ = some (.int .u8 (fr k).toNat) := HR2.out.cell k hlt
        have e2 : wr.cell? ⟨gT, k, none⟩ = some (.int .u8 (ft k).toNat) := by
          have := HF.out.cell k hltT; unfold adF at this; rwa [if_neg (by omega)] at this
        have HN : Hid (FRow (wr.drew.setCell ⟨gT, k, none⟩ (.int .u8 (ft k ^^^ um f (fr k)).toNat)) gT nT (adF f fr ft (k + 1))) := by
          have := HF.out.drew.set k (ft k ^^^ um f (fr k)) hltT
          rwa [adF_step] at this
        have HN2 : Hid (w.grownBy (wr.drew.setCell ⟨gT, k, none⟩ (.int .u8 (ft k ^^^ um f (fr k)).toNat)) (some gT)) := grown_trans (grown_drewG HG.out) (grown_set _ _ _)
        have f2 : wr.frozen? ⟨gT, k, none⟩ = false := HF.out.free k hltT
        have HM := Lib.hid (umul_any f (fr k))
        have hx := ux8 (ft k) (um f (fr k))
        generalize ft k ^^^ um f (fr k) = q at *
        generalize um f (fr k) = v at *
        generalize ft k = y at *
        generalize fr k = x at *
        clear HF HG HR2
        go_wp2_with fail
        refine wp_region_still_tail 9 (by kernel_rfl) (by kernel_rfl) ?_
        simp only [List.take_succ_cons, List.take_zero, List.drop_succ_cons, List.drop_zero]
        change wpStill _ _ wr.drew _ _ _
        have e1' : wr.drew.cell? ⟨gR, k, none⟩ = some (.int .u8 x.toNat) := e1
        have e2' : wr.drew.cell? ⟨gT, k, none⟩ = some (.int .u8 y.toNat) := e2
        have f2' : wr.drew.frozen? ⟨gT, k, none⟩ = false := f2
        clear e1 e2 f2
        obtain ⟨wz, hwz⟩ : ∃ wz, wz = wr.drew := ⟨_, rfl⟩
        rw [← hwz] at e1' e2' f2' HN HN2 ⊢
        have HZ := Lib.hid hwz; clear hwz
        still_step
        still_step
        still_step
        still_step
        still_step
        still_step
        still_call (HM.out _)
        still_step
        still_step
        refine wpStill_nil ?_
        change wpList _ _ _ _ _ wr.drew
        rw [← HZ.out]
        go_wp2_with fail
        go_roundw
        case rel => exact ⟨k + 1, by omega, by go_num, HN, HN2⟩
        case measure => simp [intOf]; omega
      · obtain rfl : k = n := by omega
        go_wp2_with fail
        go_end0
        exact ⟨rfl, HF.out, HG.out⟩
end Go.Proofs.YtfpofcfoeajkiaaGreat
/- Rows of bytes: made by a conversion, by make; appended to; read as a text. -/
namespace Go.Proofs.YtfpofcfoeajkiaaGreat
open Go.RowKit
set_option linter.unusedVariables false
theorem byteInfo : (Tryz.prog.info? 5).map (fun i => (i.zero, i.size, i.bytes)) = some (some (.int .u8 0), 1, 1) := by kernel_rfl
/-- the bytes of a text, as a function -/
def rw' (s : ByteArray) (k : Nat) : UInt8 := s.data.toList.getD k 0
def bytesF (n : Nat) (f : Nat → UInt8) : ByteArray := ⟨((List.range n).map f).toArray⟩
theorem bytesF_size (n : Nat) (f : Nat → UInt8) : (bytesF n f).size = n := by simp [bytesF, ByteArray.size]
theorem bytesF_congr {n : Nat} {f g : Nat → UInt8} (h : ∀ k, k < n → f k = g k) : bytesF n f = bytesF n g := by
  unfold bytesF
  congr 2
  exact List.map_congr_left fun k hk => h k (by simpa using hk)
theorem rw_bytesF {n k : Nat} (f : Nat → UInt8) (h : k < n) : rw' (bytesF n f) k = f k := by simp [rw', bytesF, h]
theorem bytesF_rw (s : ByteArray) : bytesF s.size (rw' s) = s := by
  apply ByteArray.ext
  have hs : s.size = s.data.size := rfl
  apply Array.ext
  · simp only [bytesF, List.size_toArray, List.length_map, List.length_range, hs]
  · intro i h1 h2
    simp only [bytesF, rw', List.getElem_toArray, List.getElem_map, List.getElem_range, List.getD_eq_getElem?_getD, Array.getElem?_toList, Array.getElem?_eq_getElem h2, Option.getD_some]
structure RowG (w : World) (B g cap : Nat) (l : List UInt8) : Prop where
  base : B ≤ g
  lt : g < w.heap.size
  len : l.length ≤ cap
  max : cap ≤ maxLen
  there : w.there g 0 cap
  cells : ∀ j (h : j < l.length), w.cell? ⟨g, j, none⟩ = some (.int .u8 (l[j]).toNat)
theorem RowG.same {w w' : World} {B g cap : Nat} {l : List UInt8} (h : RowG w B g cap l) (hs : w.heap.size ≤ w'.heap.size) (hb : w'.heap[g]? = w.heap[g]?) : RowG w' B g cap l :=
  ⟨h.base, Nat.lt_of_lt_of_le h.lt hs, h.len, h.max, fun j hj => ⟨by rw [World.cell?_of_block (a := ⟨g, 0 + j, none⟩) hb]; exact (h.there j hj).1, by rw [World.frozen?_of_block (a := ⟨g, 0 + j, none⟩) hb]; exact (h.there j hj).2⟩, fun j hj => (World.cell?_of_block (a := ⟨g, j, none⟩) hb).trans (h.cells j hj)⟩
theorem RowG.grown {w w' : World} {B g cap : Nat} {l : List UInt8} {row : Option Nat} (h : RowG w B g cap l) (hg : w.grownBy w' row) (hne : some g ≠ row) : RowG w' B g cap l := h.same hg.size (hg.block g h.lt hne)
theorem RowG.below {w w' : World} {C B g cap : Nat} {l : List UInt8} (h : RowG w B g cap l) (hb : Below C w w') (hg : g < C) : RowG w' B g cap l := h.same hb.size (hb.block g hg)
theorem RowG.alloc {w : World} {B g cap : Nat} {l : List UInt8} (h : RowG w B g cap l) (o : Obj) : RowG (w.alloc o) B g cap l :=
  h.same (by simp) (Lib.alloc_old w o g h.lt)
theorem RowG.at {w : World} {B g cap : Nat} {l : List UInt8} (h : RowG w B g cap l) (j : Nat) (hj : j < l.length) : w.cell? ⟨g, j, none⟩ = some (.int .u8 (l.getD j 0).toNat) := by
  rw [h.cells j hj, List.getD_eq_getElem?_getD, List.getElem?_eq_getElem hj]; rfl
/-- '[]byte(s)' -/
theorem RowG.made (w : World) (s : ByteArray) (hs : s.size ≤ 140737488351232) : ∃ (W2 : World) (cap : Nat), (convert 9 83 (.string s)).run Tryz.prog w = .ok (.slice (some ⟨w.heap.size, 0, none⟩) s.size cap) W2 ∧ RowG W2 w.heap.size w.heap.size cap s.data.toList ∧ Below w.heap.size w W2 := by
  have hnew := Lib.bytesWorld_at_new w 5 s
  have hge := grownCap_ge w s.size 0 5
  have hsz : (Lib.bytesCells w 5 s).size = grownCap w s.size 0 5 := by simp [Lib.bytesCells]; omega
  refine ⟨_, _, Lib.run_convert_string_bytes w _ _ 5 s Tryz.underlying9 Tryz.underlying83 Tryz.underlying5, ⟨Nat.le_refl _, by rw [Lib.bytesWorld_size]; omega, by simpa using hge, grownCap_le_maxLen w s.size 0 _ (by unfold maxLen; omega), fun j hj => ⟨?_, ?_⟩, fun j hj => ?_⟩, ⟨rfl, rfl, rfl, by rw [Lib.bytesWorld_size]; omega, fun i hi => Lib.bytesWorld_at_old _ _ _ _ hi⟩⟩
  · rw [Nat.zero_add, World.cell?, hnew]
    simp; omega
  · rw [Nat.zero_add]
    simp only [World.frozen?, hnew, Bool.and_eq_false_iff, decide_eq_false_iff_not]
    left; omega
  · rw [Lib.bytesWorld_cell _ _ _ _ (by simpa using hj)]
    simp only [List.getD_eq_getElem?_getD, List.getElem?_eq_getElem hj, Option.getD_some]
theorem RowG.frow {w : World} {B g cap : Nat} {l : List UInt8} (h : RowG w B g cap l) : FRow w g l.length (fun k => l.getD k 0) :=
  ⟨h.lt, fun j hj => h.at j hj, fun j hj => by have := (h.there j (Nat.lt_of_lt_of_le hj h.len)).2; rwa [Nat.zero_add] at this⟩
/-- '[]byte(s)' -/
theorem conv_bytes (w : World) (s : ByteArray) (hs : s.size ≤ 140737488351232) : ∃ (W2 : World) (cap : Nat), (convert 9 83 (.string s)).run Tryz.prog w = .ok (.slice (some ⟨w.heap.size, 0, none⟩) s.size cap) W2 ∧ FRow W2 w.heap.size s.size (rw' s) ∧ Below w.heap.size w W2 := by
  obtain ⟨W2, cap, h1, h2, h3⟩ := RowG.made w s hs
  refine ⟨W2, cap, h1, ?_, h3⟩
  have := h2.frow
  rwa [show s.data.toList.length = s.size by simp] at this
/-- 'string(r[off:off+n])' -/
theorem conv_str {w : World} {g m : Nat} {f : Nat → UInt8} (h : FRow w g m f) (off n cap : Nat) (hn : off + n ≤ m) :
    (convert 83 9 (.slice (some ⟨g, off, none⟩) n cap)).run Tryz.prog w = .ok (.string (bytesF n (fun k => f (off + k)))) w := by
  refine run_bytes_str _ 83 9 5 Tryz.underlying83 Tryz.underlying5 Tryz.underlying9 g off n cap ((List.range n).map (fun k => f (off + k))) (by simp) ?_
  intro i hi
  have hi' : i < n := by simpa using hi
  rw [h.cell (off + i) (by omega)]
  simp
/-- 'make([]byte, n)' -/
theorem FRow.made {w : World} {B g n cap : Nat} (h : w.ownsRow B 5 1 (.slice (some ⟨g, 0, none⟩) n cap) n (madeCells (Value.int .u8 0).cells (n * 1)).toList) : FRow w g n (fun _ => 0) := by
  rcases h.2 with ⟨h1, _⟩ | ⟨g', cap', cur, hv, hb, hg, hn, hm, hc, ht⟩
  · cases h1
  · cases hv
    refine ⟨(Array.getElem?_eq_some_iff.1 hg).1, fun j hj => ?_, fun j hj => frozen_of_row w g j cur _ hg⟩
    have := h.cells (g := g) rfl j (.int .u8 0) (by
      have : (Value.int .u8 0).cells = #[.int .u8 0] := rfl
      rw [this]
      simp [madeCells, hj, Nat.mod_one])
    rw [Addr.add_mid, Nat.zero_add] at this
    exact this
theorem wpList_make_bytes {w : World} {ops : Array Oper} {rest : List Oper} {o : Oper} {a : Act} {Q : Exit → Act → World → Prop} (hg : o.guard = none) (l c : Operand) (t : TypeId) (hop : o.op = Op.makeSlice t l c)
    (h1 : Tryz.prog.underlying t = some (.slice 5)) (n : Nat) (hl : a.eval l = .int .i64 (n : Int)) (hc : a.eval c = .int .i64 (n : Int)) (hn : n ≤ 1000000000)
    (h : ∀ w', FRow w' w.heap.size n (fun _ => 0) → Below w.heap.size w w' → wpList Tryz.prog ops Q rest (a.put o.dst (.slice (some ⟨w.heap.size, 0, none⟩) n n)) w') : wpList Tryz.prog ops Q (o :: rest) a w := by
  obtain ⟨i0, hi0, hz0, hz1, hz2⟩ := info_parts byteInfo
  refine wpList_make_full w hg l c t hop w.heap.size 5 i0 (.int .u8 0) 1 h1 hi0 hz0 hz1 .i64 .i64 _ _ n hl hc rfl rfl (by rw [hz2]; omega) (by unfold maxLen; omega) (Nat.le_refl _) ?_
  intro w' hown hgr
  exact h w' (FRow.made hown) ((Below.refl _ _).grown hgr (Nat.le_refl _) (fun k e => by cases e))
theorem run_storeCells_free (P : Program) (g : Nat) : ∀ (ys : List UInt8) (o i : Nat) (w : World), g < w.heap.size → (∀ j, j < ys.length → (w.cell? ⟨g, o + i + j, none⟩).isSome = true ∧ w.frozen? ⟨g, o + i + j, none⟩ = false) →
    ∃ w', (storeCells ⟨g, o, none⟩ (ys.map fun y => Value.int .u8 y.toNat) i).run P w = .ok () w' ∧ w.grownBy w' (some g) ∧ (∀ j (h : j < ys.length), w'.cell? ⟨g, o + i + j, none⟩ = some (.int .u8 ys[j].toNat)) ∧
      (∀ k, k < o + i → w'.cell? ⟨g, k, none⟩ = w.cell? ⟨g, k, none⟩) ∧ ∀ k, w'.frozen? ⟨g, k, none⟩ = w.frozen? ⟨g, k, none⟩
  | [], o, i, w, _, _ => ⟨w, rfl, grown_refl w _, fun j h => absurd h (by simp), fun _ _ => rfl, fun _ => rfl⟩
  | y :: ys, o, i, w, hg, h => by
    obtain ⟨h0, h1⟩ := h 0 (by simp)
    rw [Nat.add_zero] at h0 h1
    obtain ⟨x, hx⟩ := Option.isSome_iff_exists.1 h0
    obtain ⟨w', r1, r2, r3, r4, r5⟩ := run_storeCells_free P g ys o (i + 1) (w.setCell ⟨g, o + i, none⟩ (.int .u8 y.toNat)) (by rw [World.size_setCell]; exact hg) (fun j hj => by
      obtain ⟨a, b⟩ := h (j + 1) (by simp; omega)
      rw [show o + i + (j + 1) = o + (i + 1) + j by omega] at a b
      refine ⟨?_, by rw [World.frozen?_setCell]; exact b⟩
      rw [World.cell?_setCell_other _ _ _ _ (by intro e; injection e with _ e; omega)]; exact a)
    refine ⟨w', ?_, grown_trans (grown_set _ ⟨g, o + i, none⟩ _) r2, fun j hj => ?_, fun k hk => ?_, fun k => by rw [r5, World.frozen?_setCell]⟩
    · simp only [List.map_cons, storeCells, Sem.run_bind, Addr.add_mid]
      rw [run_store P w _ _ _ rfl, hx]
      simp only [h1, Bool.false_eq_true, if_false, Result.andThen_ok]
      exact r1
    · cases j with
      | zero => rw [Nat.add_zero, r4 (o + i) (by omega), World.cell?_setCell_same _ _ _ hx]; rfl
      | succ j =>
        have := r3 j (by simpa using hj)
        rw [show o + i + (j + 1) = o + (i + 1) + j by omega, this]; rfl
    · rw [r4 k (by omega), World.cell?_setCell_other _ _ _ _ (by intro e; injection e with _ e; omega)]
/-- 'append([]byte(s), one...)' -/
theorem frow_append {P : Program} (w : World) (B g cap : Nat) (l : List UInt8) (t ty e : TypeId) (i : TypeInfo) (ht : P.underlying t = some (.slice e)) (hi : P.info? e = some i) (hz : i.zero = some (.int .u8 0)) (hs : i.size = 1) (hby : i.bytes = 1)
    (hr : RowG w B g cap l) (b2 m c2 : Nat) (f2 : Nat → UInt8) (h2 : FRow w b2 m f2) (hn : l.length + m ≤ 1000000000) :
    ∃ g' cap' w', (Builtin.append_ #[t, t] ty #[.slice (some ⟨g, 0, none⟩) l.length cap, .slice (some ⟨b2, 0, none⟩) m c2]).run P w = .ok (.slice (some ⟨g', 0, none⟩) (l.length + m) cap') w' ∧
      FRow w' g' (l.length + m) (fun j => if j < l.length then l.getD j 0 else f2 (j - l.length)) ∧ w.grownBy w' (some g) ∧ (g' = g ∨ w.heap.size ≤ g') ∧ l.length + m ≤ cap' ∧ cap' ≤ maxLen := by
  let ys := (List.range m).map f2
  have hyl : ys.length = m := by simp [ys]
  have hnews : ∀ j u, (ys.map fun y => Value.int .u8 y.toNat)[j]? = some u → w.cell? ((⟨b2, 0, none⟩ : Addr).add j) = some u := by
    intro j u hj
    have hjm : j < m := by have := (List.getElem?_eq_some_iff.1 hj).1; simpa [ys] using this
    rw [Addr.add_mid, Nat.zero_add, h2.cell j hjm, ← hj]
    simp [ys, hjm]
  by_cases hroom : l.length + m ≤ cap
  · have hf := run_firstCells_some (P := P) w i.size m ⟨b2, 0, none⟩ m c2 (ys.map fun y => Value.int .u8 y.toNat) (by rw [hs]; simp [ys]) hnews
    obtain ⟨w', r1, r2, r3, r4, r5⟩ := run_storeCells_free P g ys l.length 0 w hr.lt (fun j hj => by
      have := hr.there (l.length + j) (by omega)
      rw [Nat.zero_add] at this
      exact this)
    refine ⟨g, cap, w', ?_, ⟨Nat.lt_of_lt_of_le hr.lt r2.size, fun j hj => ?_, fun j hj => ?_⟩, r2, .inl rfl, hroom, hr.max⟩
    · simp [Builtin.append_, run_underlying ht, sizeOf, typeInfo, hi, hs, Builtin.lenOf, hroom, Addr.add_lit]
      rw [hs] at hf
      simp [hf, r1]
    · by_cases hjl : j < l.length
      · rw [if_pos hjl, r4 j (by omega), hr.at j hjl]
      · rw [if_neg hjl]
        have := r3 (j - l.length) (by omega)
        rw [show l.length + 0 + (j - l.length) = j by omega] at this
        rw [this]
        simp [ys]
    · rw [r5]; have := (hr.there j (by omega)).2; rwa [Nat.zero_add] at this
  · have holds : ∀ j v, (Lib.byteCells l)[j]? = some v → w.cell? ((⟨g, 0, none⟩ : Addr).add j) = some v := by
      intro j v hj
      have hjl : j < l.length := by have := (List.getElem?_eq_some_iff.1 hj).1; rwa [Lib.byteCells_length] at this
      rw [Addr.add_mid, Nat.zero_add, hr.cells j hjl, ← hj]
      simp [Lib.byteCells, hjl]
    have hll := hr.len
    have hmx' := hr.max
    have hrun := run_append_grow (P := P) w t ty e i (.int .u8 0) ht hi hz ⟨g, 0, none⟩ l.length cap (Lib.byteCells l) (by rw [Lib.byteCells_length, hs]; omega) holds ⟨b2, 0, none⟩ m c2 (ys.map fun y => Value.int .u8 y.toNat) (by rw [hs]; simp [ys]) hnews (by omega) (by omega) (growslice_fits (by omega) (by rw [hby]; omega))
    have hge := grownCap_ge w (l.length + m) cap e
    have hmx := grownCap_le_maxLen w (l.length + m) cap e (by unfold maxLen; omega)
    refine ⟨w.heap.size, _, _, hrun, ?_, ⟨rfl, rfl, rfl, by simp, fun k hk _ => Below.heap_alloc w.drew _ k hk⟩, .inr (Nat.le_refl _), hge, hmx⟩
    generalize hC : ((Lib.byteCells l).toArray ++ (ys.map fun y => Value.int .u8 y.toNat).toArray ++ Builtin.zeroCells (Value.int .u8 0).cells (grownCap w (l.length + m) cap e - (l.length + m))) = C at *
    have hh : (w.drew.alloc (.cells C e)).heap[w.heap.size]? = some (.cells C e (0, 0)) := heap_alloc_new w.drew _
    refine ⟨by simp, fun j hj => ?_, fun j hj => frozen_of_row _ _ j C e hh⟩
    rw [cell_of_row _ _ j C e _ hh, ← hC, Array.getElem?_append, Array.getElem?_append]
    have s1 : (Lib.byteCells l).toArray.size = l.length := by rw [List.size_toArray, Lib.byteCells_length]
    have s2 : ((Lib.byteCells l).toArray ++ (ys.map fun y => Value.int .u8 y.toNat).toArray).size = l.length + m := by rw [Array.size_append, s1]; simp [ys]
    rw [s2, if_pos hj, s1]
    by_cases e2 : j < l.length
    · rw [if_pos e2, if_pos e2]; simp [Lib.byteCells, e2]
    · rw [if_neg e2, if_neg e2]
      simp [ys, show j - l.length < m by omega]
theorem wpList_frow_append {P : Program} {w : World} {ops : Array Oper} {rest : List Oper} {o : Oper} {a : Act} {Q : Exit → Act → World → Prop} (hgd : o.guard = none) (s x : Operand) (t : TypeId)
    (ho : o.op = .call { callee := .builtin .append, args := #[s, x], argTypes := #[t, t] }) (B g cap : Nat) (l : List UInt8) (e : TypeId) (i : TypeInfo) (ht : P.underlying t = some (.slice e)) (hi : P.info? e = some i) (hz : i.zero = some (.int .u8 0)) (hsz : i.size = 1) (hby : i.bytes = 1)
    (hs : a.eval s = .slice (some ⟨g, 0, none⟩) l.length cap) (hr : RowG w B g cap l) (b2 m c2 : Nat) (f2 : Nat → UInt8) (hx : a.eval x = .slice (some ⟨b2, 0, none⟩) m c2) (h2 : FRow w b2 m f2) (hn : l.length + m ≤ 1000000000)
    (h : ∀ g' cap' w', FRow w' g' (l.length + m) (fun j => if j < l.length then l.getD j 0 else f2 (j - l.length)) → w.grownBy w' (some g) → (g' = g ∨ w.heap.size ≤ g') → l.length + m ≤ cap' → cap' ≤ maxLen → wpList P ops Q rest (a.put o.dst (.slice (some ⟨g', 0, none⟩) (l.length + m) cap')) w') : wpList P ops Q (o :: rest) a w := by
  refine wpList_plain hgd fun K hK => ?_
  obtain ⟨g', cap', w', hrun, h1, h3, h4, h5, h6⟩ := frow_append (P := P) w B g cap l t o.type e i ht hi hz hsz hby hr b2 m c2 f2 h2 hn
  unfold Oper.wp execOp
  simp only [ho, resolve, invoke, builtin, Sem.run_bind, Sem.run_pure, Result.andThen_ok, List.map_toArray, List.map_cons, List.map_nil, hs, hx, hrun]
  exact hK _ _ (h g' cap' w' h1 h3 h4 h5 h6)
end Go.Proofs.YtfpofcfoeajkiaaGreat
/- gf.Times: walk. -/
namespace Go.Proofs.YtfpofcfoeajkiaaGreat
open Go.RowKit
set_option linter.unusedVariables false
theorem rw_get (x : ByteArray) (j : Nat) (h : j < x.size) : x[j] = rw' x j := by
  have h2 : j < x.data.size := h
  simp only [rw', List.getD_eq_getElem?_getD, Array.getElem?_toList, Array.getElem?_eq_getElem h2, Option.getD_some]
  rfl
/-- a matrix out of texts -/
def mt (l : List ByteArray) (i k : Nat) : UInt8 := rw' (l.getD i .empty) k
theorem mt_get {l : List ByteArray} {i : Nat} (h : i < l.length) (k : Nat) : mt l i k = rw' l[i] k := by
  unfold mt; rw [List.getD_eq_getElem?_getD, List.getElem?_eq_getElem h, Option.getD_some]
def timesOk (m l : List ByteArray) : Bool := decide (widthN m ≠ 0 ∧ widthN m = l.length) && evenB l
def timesRow (m l : List ByteArray) (i : Nat) : ByteArray := bytesF (firstN l) fun k => sg l.length fun j => um (mt m i j) (mt l j k)
def timesL (m l : List ByteArray) : List ByteArray := if timesOk m l = true then (List.range m.length).map (timesRow m l) else []
theorem allN_get {p : Nat → Bool} {l : List ByteArray} (h : allN p l = true) (i : Nat) (hi : i < l.length) : p l[i].size = true := by
  unfold allN at h; rw [List.all_eq_true] at h; exact h _ (List.getElem_mem _)
theorem evenL_get {l : List ByteArray} (h : evenL l = true) (i : Nat) (hi : i < l.length) : l[i].size = firstN l := by
  have := allN_get h i hi; simpa using this
theorem widthN_ne {m : List ByteArray} (h : widthN m ≠ 0) : 0 < m.length ∧ m.length ≤ 16 ∧ evenL m = true ∧ widthN m = firstN m := by
  unfold widthN at h ⊢
  split at h
  · exact absurd rfl h
  · next hc =>
    have h1 : m.length ≠ 0 := fun e => hc (Or.inl e)
    have h2 : evenB m = true := by cases hb : evenB m with | true => rfl | false => exact absurd (Or.inr hb) hc
    unfold evenB at h2
    rw [Bool.and_eq_true, decide_eq_true_iff] at h2
    refine ⟨by omega, h2.2, h2.1, ?_⟩
    rw [if_neg hc]
set_option maxRecDepth 20000 in
set_option maxHeartbeats 4000000 in
theorem times_ok (w : World) (va vb : Value) (m l : List ByteArray) (ha : StrsB w va m) (hb : StrsB w vb l) (hok : timesOk m l = true) (hsz : firstN l ≤ 1000000000) :
    Calls Tryz.prog 63 #[va, vb] w fun e w' => ∃ v, e = .returned (.tuple #[v, .bool true]) ∧ StrsN w' v (timesL m l) ∧ Below w.heap.size w w' := by
  have HL : Hid (timesL m l = (List.range m.length).map (timesRow m l)) := by unfold Hid timesL; rw [if_pos hok]
  unfold timesOk at hok
  rw [Bool.and_eq_true, decide_eq_true_iff] at hok
  obtain ⟨⟨hw0, hwn⟩, hev⟩ := hok
  obtain ⟨hm0, hm16, hme, hmw⟩ := widthN_ne hw0
  have hle : evenL l = true ∧ l.length ≤ 16 := by unfold evenB at hev; rwa [Bool.and_eq_true, decide_eq_true_iff] at hev
  have HWD := Lib.hid (width_any w va m ha)
  have HEV := Lib.hid (even_any w vb l hb)
  rw [hev] at HEV
  rw [hwn] at HWD hw0 hmw
  have HMR : Hid (∀ i (h : i < m.length), m[i].size = l.length) := fun i h => (evenL_get hme i h).trans hmw.symm
  have HLR : Hid (∀ i (h : i < l.length), l[i].size = firstN l) := fun i h => evenL_get hle.1 i h
  have HM16 := Lib.hid hm16
  obtain ⟨Am, cm, rfl, h1, h2⟩ := ha.len
  have HCm := Lib.hid (ha.cells hm0)
  obtain ⟨Al, cl, rfl, h3, h4⟩ := hb.len
  have hl0 : 0 < l.length := by omega
  have HCl := Lib.hid (hb.cells hl0)
  obtain ⟨bm, om, rfl, hbm, HCM⟩ := HCm.out
  obtain ⟨bl, ol, rfl, hbl, HCL⟩ := HCl.out
  have HCM := Lib.hid HCM
  have HCL := Lib.hid HCL
  have hl16 : l.length ≤ 16 := hle.2
  have hd0 : ((l.length : Int) == 0) = false := by rw [beq_eq_false_iff_ne]; omega
  clear ha hb hwn hev hme hmw hle HCm HCl h1 h2 h3 h4 hw0
  have hmI : m.length ≤ 9223372036854775807 := by omega
  have hlI : l.length ≤ 9223372036854775807 := by omega
  obtain ⟨W, hW⟩ : ∃ W, firstN l = W := ⟨_, rfl⟩
  have HFW : Hid (firstN l = W) := hW
  rw [hW] at hsz HLR
  clear hW
  go_enter Tryz.func63, Tryz.ntmps63
  go_wp2_with fail
  refine HWD.out.mono ?_
  rintro e w' ⟨rfl, rfl⟩
  go_wp2_with fail
  refine HEV.out.mono ?_
  rintro e w' ⟨rfl, rfl⟩
  go_wp2_with fail
  clear hd0 HWD HEV
  go_loopw [7, 30] (fun v i wr => ∃ j : Nat, j ≤ m.length ∧ i = .int .i64 j ∧ Hid (wr.ownsRow w.heap.size 9 1 v ((List.range j).map (timesRow m l)).length (((List.range j).map (timesRow m l)).map .string)) ∧ Hid (Below w.heap.size w wr)) (fun _ i _ => m.length - (intOf i).toNat)
  case atStart => exact ⟨0, Nat.zero_le _, rfl, World.ownsRow_nil _ _ _ _, Below.refl _ _⟩
  case round =>
    obtain ⟨i, hi, rfl, HO, HB⟩ := hrel
    obtain ⟨wo, hwo⟩ : ∃ wo, wo = wr := ⟨_, rfl⟩
    subst hwo
    by_cases hlt : i < m.length
    · have hlt' : (i : Int) < (m.length : Int) := by omega
      have e1 : wo.cell? ⟨bm, om + i, none⟩ = some (.string m[i]) := (HB.out.cell (p := ⟨bm, om + i, none⟩) hbm).trans (HCM.out i hlt)
      have e2 : wo.cell? ⟨bl, ol, none⟩ = some (.string l[0]) := (HB.out.cell (p := ⟨bl, ol, none⟩) hbl).trans (HCL.out 0 hl0)
      have z0 : l[0].size = W := HLR.out 0 hl0
      have zx : m[i].size = l.length := HMR.out i hlt
      have HX : Hid (∀ j k, um (mt m i j) (mt l j k) = um (rw' m[i] j) (mt l j k)) := fun j k => by rw [mt_get hlt]
      generalize l[0] = y0 at *
      generalize m[i] = x at *
      go_wp2_with (at_make; refine wpList_make_bytes rfl _ _ 83 rfl Tryz.underlying83 W rfl rfl (by omega) ?_)
      intro w1 hF hB1
      have HF := Lib.hid hF; clear hF
      have HB1 := Lib.hid hB1; clear hB1
      clear e1 e2 z0
      go_wp2_with fail
      go_loopw [41] (fun q wr => ∃ j : Nat, j ≤ l.length ∧ q = .int .i64 j ∧ Hid (FRow wr wo.heap.size W (fun k => sg j (fun q => um (rw' x q) (mt l q k)))) ∧ Hid (Below wo.heap.size wo wr)) (fun q _ => l.length - (intOf q).toNat)
      case atStart => exact ⟨0, Nat.zero_le _, rfl, HF.out, HB1.out⟩
      case round =>
        obtain ⟨j, hj, rfl, HFq, HBq⟩ := hrel
        by_cases hjl : j < l.length
        · have hjl' : (j : Int) < (l.length : Int) := by omega
          have hjx : j < x.size := by omega
          have hjx' : (j : Int) < (x.size : Int) := by omega
          have e3 : wr.cell? ⟨bl, ol + j, none⟩ = some (.string l[j]) := by
            have hb2 : bl < wo.heap.size := Nat.lt_of_lt_of_le hbl HB.out.size
            exact (HBq.out.cell (p := ⟨bl, ol + j, none⟩) hb2).trans ((HB.out.cell (p := ⟨bl, ol + j, none⟩) hbl).trans (HCL.out j hjl))
          have zj : l[j].size = W := HLR.out j hjl
          have HMJ : Hid (∀ k, mt l j k = rw' l[j] k) := fun k => mt_get hjl k
          have HXJ : Hid (x[j] = rw' x j) := rw_get x j hjx
          generalize l[j] = y at *
          obtain ⟨W2, cap, hcv, hF2, hB2⟩ := conv_bytes wr y (by omega)
          have hadd := add_any wo.heap.size W W wr.heap.size W cap x[j] (rw' y) (fun k => sg j (fun q => um (rw' x q) (mt l q k))) W2 (HFq.out.below hB2) (by rw [zj] at hF2; exact hF2) (by have := HFq.out.lt; omega) (Nat.le_refl _) (by omega)
          rw [zj] at hcv
          have HA := Lib.hid hadd; clear hadd
          have HB2 := Lib.hid hB2; clear hB2 hF2
          have hq1 := HBq.out.size
          go_wp2_with fail
          refine HA.out.mono ?_
          rintro e w3 ⟨rfl, hf3, hg3⟩
          have HF3 : Hid (FRow w3 wo.heap.size W (fun k => sg (j + 1) (fun q => um (rw' x q) (mt l q k)))) := hf3.congr fun k hk => by
            unfold adF; rw [if_pos hk]
            show _ = sg j _ ^^^ _
            rw [HXJ.out, ← HMJ.out]
          have HB3 : Hid (Below wo.heap.size wo w3) := (HBq.out.trans (HB2.out.mono hq1)).grown hg3 (Nat.le_trans hq1 HB2.out.size) (fun k e => by injection e with e; omega)
          clear hf3 hg3
          go_wp2_with fail
          go_roundw
          case rel => exact ⟨j + 1, by omega, by go_num, HF3, HB3⟩
          case measure => simp [intOf]; omega
        · obtain rfl : j = l.length := by omega
          have hcs := conv_str HFq.out 0 W W (by omega)
          have HE : Hid (bytesF W (fun k => (fun k => sg l.length (fun q => um (rw' x q) (mt l q k))) (0 + k)) = timesRow m l i) := by
            unfold Hid timesRow
            rw [HFW.out]
            exact bytesF_congr fun k hk => by
              simp only [Nat.zero_add]
              exact sg_congr fun q _ => (HX.out q k).symm
          rw [HE.out] at hcs
          have hown2 := HO.out.kept (grown_of_below HBq.out none) (by
            by_cases e : u7.ownBlock = none
            · exact .inl e
            · exact .inr e)
          have hi3 : ((List.range i).map (timesRow m l)).length + 1 ≤ 1000000000 := by simp; omega
          have hq1 := HBq.out.size
          have hs1 := HB.out.size
          have HR : Hid ((List.range i).map (timesRow m l) ++ [timesRow m l i] = (List.range (i + 1)).map (timesRow m l)) := by unfold Hid; rw [List.range_succ, List.map_append]; rfl
          generalize timesRow m l i = z at *
          generalize (List.range i).map (timesRow m l) = out at *
          go_wp2_with (at_builtin; refine wpList_push_str rfl _ _ 37 rfl Tryz.underlying37 w.heap.size _ out rfl (hown2.alloc _) ⟨wr.heap.size, 0, none⟩ _ z rfl (by simp) hi3 (by simp; omega) ?_)
          intro v' w4 hown4 hg4
          have HO4 : Hid (w4.ownsRow w.heap.size 9 1 v' ((List.range (i + 1)).map (timesRow m l)).length (((List.range (i + 1)).map (timesRow m l)).map .string)) := by unfold Hid; rw [← HR.out]; simpa using hown4
          have HB4 : Hid (Below w.heap.size w w4) := ((HB.out.trans (HBq.out.mono hs1)).alloc (by omega) _).grown hg4 (by simp; omega) (fun k hk => (hown2.lt k hk).1)
          clear hown4 hg4 hcs
          go_wp2_with fail
          go_roundw
          case rel => exact ⟨i + 1, by omega, by go_num, HO4, HB4⟩
          case measure => simp [intOf]; omega
    · obtain rfl : i = m.length := by omega
      go_wp2_with fail
      go_ret2
      exact ⟨_, rfl, by rw [HL.out]; exact StrsN.of_owns HO.out, HB.out⟩
set_option maxRecDepth 20000 in
set_option maxHeartbeats 2000000 in
theorem times_no (w : World) (va vb : Value) (m l : List ByteArray) (ha : StrsB w va m) (hb : StrsB w vb l) (hok : timesOk m l = false) :
    Calls Tryz.prog 63 #[va, vb] w fun e w' => e = .returned (.tuple #[.slice none 0 0, .bool false]) ∧ w = w' := by
  have HWD := Lib.hid (width_any w va m ha)
  have HEV := Lib.hid (even_any w vb l hb)
  obtain ⟨Al, cl, rfl, h3, h4⟩ := hb.len
  clear hb ha
  unfold timesOk at hok
  by_cases h0 : widthN m = 0
  · rw [h0] at HWD
    clear h0 hok h3 h4
    go_enter Tryz.func63, Tryz.ntmps63
    go_wp2_with fail
    refine HWD.out.mono ?_
    rintro e w' ⟨rfl, rfl⟩
    go_wp2_with fail
    go_ret2
    exact ⟨rfl, rfl⟩
  · have d0 : ((widthN m : Int) == 0) = false := by rw [beq_eq_false_iff_ne]; omega
    by_cases h1 : widthN m = l.length
    · have he : evenB l = false := by rw [decide_eq_true ⟨h0, h1⟩, Bool.true_and] at hok; exact hok
      rw [he] at HEV
      have d1 : ((widthN m : Int) != (l.length : Int)) = false := by rw [bne_eq_false_iff_eq]; omega
      generalize widthN m = q at *
      clear h0 h1 hok he h3 h4
      go_enter Tryz.func63, Tryz.ntmps63
      go_wp2_with fail
      refine HWD.out.mono ?_
      rintro e w' ⟨rfl, rfl⟩
      go_wp2_with fail
      refine HEV.out.mono ?_
      rintro e w' ⟨rfl, rfl⟩
      go_wp2_with fail
      go_ret2
      exact ⟨rfl, rfl⟩
    · have d1 : ((widthN m : Int) != (l.length : Int)) = true := by rw [bne_iff_ne]; omega
      generalize widthN m = q at *
      clear h0 h1 hok h3 h4
      go_enter Tryz.func63, Tryz.ntmps63
      go_wp2_with fail
      refine HWD.out.mono ?_
      rintro e w' ⟨rfl, rfl⟩
      go_wp2_with fail
      go_ret2
      exact ⟨rfl, rfl⟩
theorem strsN_nil (w : World) : StrsN w (.slice none 0 0) [] := ⟨strsB_nil w, fun n c h => by cases h; rfl⟩
theorem mtimes_any (w : World) (va vb : Value) (m l : List ByteArray) (ha : StrsB w va m) (hb : StrsB w vb l) (hsz : firstN l ≤ 1000000000) :
    Calls Tryz.prog 63 #[va, vb] w fun e w' => ∃ v, e = .returned (.tuple #[v, .bool (timesOk m l)]) ∧ StrsN w' v (timesL m l) ∧ Below w.heap.size w w' := by
  cases hok : timesOk m l with
  | true => exact times_ok w va vb m l ha hb hok hsz
  | false =>
    refine (times_no w va vb m l ha hb hok).mono ?_
    rintro e w' ⟨rfl, rfl⟩
    refine ⟨_, rfl, ?_, Below.refl _ _⟩
    unfold timesL
    rw [hok]
    exact strsN_nil w
end Go.Proofs.YtfpofcfoeajkiaaGreat
/- siloref35.Times: walk. -/
namespace Go.Proofs.YtfpofcfoeajkiaaGreat
open Go.RowKit
set_option linter.unusedVariables false
theorem timesOk_ref (m l : List ByteArray) : timesOk m l = (evenR m && evenR l && decide (m.length ≤ 16) && decide (l.length ≤ 16) && decide (firstN m = l.length)) := by
  unfold timesOk evenB evenR widthN evenB
  by_cases h0 : m.length = 0
  · rw [if_pos (Or.inl h0)]; simp [h0]
  · cases he : evenL m
    · simp
    · by_cases h16 : m.length ≤ 16
      · have d1 : decide (m.length ≤ 16) = true := by simpa using h16
        rw [d1]
        simp only [h0, false_or, Bool.true_and, Bool.and_true]
        rw [if_neg (by simp), show decide (0 < m.length) = true from by simp; omega]
        simp only [Bool.true_and]
        rw [Bool.eq_iff_iff]
        simp only [Bool.and_eq_true, decide_eq_true_iff]
        constructor
        · rintro ⟨⟨a, b⟩, c, d⟩; exact ⟨⟨⟨c, by omega⟩, d⟩, b⟩
        · rintro ⟨⟨⟨a, b⟩, c⟩, d⟩; exact ⟨⟨by omega, d⟩, a, c⟩
      · have d1 : decide (m.length ≤ 16) = false := by simpa using h16
        rw [d1]; simp
def stT (n : Nat) (F : Nat → Nat → UInt8) (k j q : Nat) : UInt8 := if q < k then sg n (F q) else if q = k then sg j (F q) else 0
theorem stT_step (n : Nat) (F : Nat → Nat → UInt8) (k j : Nat) : updG (stT n F k j) k (sg j (F k) ^^^ F k j) = stT n F k (j + 1) := by
  funext q
  unfold updG stT
  by_cases e : q = k
  · subst e; rw [if_pos rfl, if_neg (by omega), if_pos rfl]; rfl
  · rw [if_neg e, if_neg e, if_neg e]
theorem stT_next (n : Nat) (F : Nat → Nat → UInt8) (k q : Nat) : stT n F k n q = stT n F (k + 1) 0 q := by
  unfold stT
  by_cases e : q = k
  · subst e; rw [if_neg (by omega), if_pos rfl, if_pos (by omega)]
  · by_cases h : q < k
    · rw [if_pos h, if_pos (by omega)]
    · rw [if_neg h, if_neg e, if_neg (by omega)]
      by_cases e2 : q = k + 1
      · rw [if_pos e2]; rfl
      · rw [if_neg e2]
end Go.Proofs.YtfpofcfoeajkiaaGreat
