/- Texts of this claim's author, packed: ScrAwake, ScrBools, ParPickK, ParCauK, ParKerK, ParRowK, ParGrowK. Conditions: none. -/
import Derived.Test.YtfpofcfoeajkiaaGreatQR19
import Derived.Test.YtfpofcfoeajkiaaGreatQR22
import Derived.Laws.OwnMore
import Derived.Test.YtfpofcfoeajkiaaGreatQR18
/- The law's own examples of chapter 45: the walk; shards that came in, as they are opened. -/
namespace Go.Proofs.YtfpofcfoeajkiaaGreat
open Go.ChangeShapes Go.WideShapes Go.RowKit
set_option linter.unusedVariables false
set_option linter.unusedSimpArgs false
abbrev QInt (y : Int) : Prop := -9223372036854775808 ≤ y ∧ y ≤ 9223372036854775807
abbrev ShdA := SlArg (Int × ByteArray × ByteArray)
abbrev QShds (W : World) (x : ShdA) : Prop := (Sl W x.1 x.2.1 x.2.2.1 3 (x.2.2.2.flatMap (ES3 (EInt .i64) EStr EStr)) ∧ x.2.2.2.length = x.2.1 ∧ (x.1 = none → x.2.2.1 = 0) ∧ ∀ y ∈ x.2.2.2, QInt y.1 ∧ y.2.1.size ≤ 140737488351232 ∧ y.2.2.size ≤ 140737488351232) ∧ x.2.1 ≤ 140737488351232
abbrev QWard (W : World) (x : Int × Int × Int × ShdA) : Prop := QInt x.1 ∧ QInt x.2.1 ∧ QInt x.2.2.1 ∧ QShds W x.2.2.2
theorem ward_of {W : World} {x : Int × Int × Int × ShdA} (h : QWard W x) : ShdB W (.slice x.2.2.2.1 x.2.2.2.2.1 x.2.2.2.2.2.1) x.2.2.2.2.2.2 ∧ ∀ y ∈ x.2.2.2.2.2.2, y.2.1.size ≤ 140737488351232 ∧ y.2.2.size ≤ 140737488351232 := by
  obtain ⟨_, _, _, ⟨h1, h2, _, h4⟩, _⟩ := h
  exact ⟨shd_of_sl h1 h2, fun y hy => (h4 y hy).2⟩
set_option maxRecDepth 20000 in
set_option maxHeartbeats 4000000 in
theorem awake_any (w : World) :
    Calls Tryz.prog 6 #[] w fun e w' => e = .returned (.bool true) ∧ Below w.heap.size w w' := by
  have hlen : (allG ⟨#[97, 98, 99]⟩ 2 1).length = 3 := by decide +kernel
  have HG : Hid (∀ W, Calls Tryz.prog 12 #[.string ⟨#[97, 98, 99]⟩, .int .i64 2, .int .i64 1] W fun e w' => ∃ A c, e = .returned (.tuple #[.agg #[.int .i64 2, .int .i64 1, .int .i64 3, .slice A 3 c], .int .i64 0]) ∧ Below W.heap.size W w') := fun W => by
    have h := guard_ok ⟨#[97, 98, 99]⟩ 2 1 W (by decide) (by decide) (by decide) (by decide) (by decide) (by decide +kernel) (by rw [hlen]; decide) (by rw [hlen]; decide) (by decide +kernel)
    rw [hlen] at h
    refine h.mono ?_
    rintro e w' ⟨A, c, rfl, _, b⟩
    exact ⟨A, c, rfl, b⟩
  have HR : Hid (∀ W, Calls Tryz.prog 7 #[.string ⟨#[]⟩] W fun e w' => e = .returned (.tuple #[.agg #[.int .i64 0, .int .i64 0, .int .i64 0, .slice none 0 0], .int .i64 5]) ∧ Below W.heap.size W w') := fun W => by
    refine (pread_any ⟨#[]⟩ (by decide) W).mono ?_
    rintro e w' ⟨h, b⟩
    exact ⟨h.1 rfl, b⟩
  clear hlen
  go_enter Tryz.func6, Tryz.ntmps6
  go_wp2_with fail
  refine (HG.out _).mono ?_
  rintro e w1 ⟨A, c, rfl, b1⟩
  obtain ⟨q, hq⟩ : ∃ q, q = w1.alloc (.cells #[.int .i64 2, .int .i64 1, .int .i64 3, .slice A 3 c] 24) := ⟨_, rfl⟩
  have HQ := Lib.hid hq.symm
  have HB1 : Hid (Below w.heap.size w q) := by rw [hq]; exact b1.alloc b1.size _
  have HV1 : Hid (q.heap[w1.heap.size]? = some (.cells #[.int .i64 2, .int .i64 1, .int .i64 3, .slice A 3 c] 24 (0, 0))) := by rw [hq]; exact World.alloc_heap_new _ _
  clear hq b1 HG
  go_wp2_with fail
  rw [HQ.out]
  refine (HR.out _).mono ?_
  rintro e w2 ⟨rfl, b2⟩
  have hq1 := (Array.getElem?_eq_some_iff.1 HV1.out).1
  obtain ⟨q2, hq2⟩ : ∃ q2, q2 = w2.alloc (.cells #[.int .i64 0, .int .i64 0, .int .i64 0, .slice none 0 0] 24) := ⟨_, rfl⟩
  have HQ2 := Lib.hid hq2.symm
  have HB2 : Hid (Below w.heap.size w q2) := by rw [hq2]; exact (HB1.out.trans (b2.mono HB1.out.size)).alloc (HB1.out.trans (b2.mono HB1.out.size)).size _
  have HV2 : Hid (q2.heap[w1.heap.size]? = some (.cells #[.int .i64 2, .int .i64 1, .int .i64 3, .slice A 3 c] 24 (0, 0))) := by
    rw [hq2]; exact (Below.heap_alloc _ _ _ (Nat.lt_of_lt_of_le hq1 b2.size)).trans ((b2.block _ hq1).trans HV1.out)
  obtain ⟨i0, i1, i2, i3, _⟩ := cells4b HV2.out
  rw [hq2] at i3
  clear hq2 b2 i0 i1 i2 HV1 HB1 HR HQ hq1
  go_wp2_with fail
  rw [HQ2.out] at i3 ⊢
  go_ret
  exact ⟨rfl, HB2.out⟩
end Go.Proofs.YtfpofcfoeajkiaaGreat
/- A row of truths of its own block (as in ParAny). -/
namespace Go.Proofs.YtfpofcfoeajkiaaGreat
open Go.RowKit
set_option linter.unusedVariables false
theorem boolInfo : (Tryz.prog.info? 4).map (fun i => (i.zero, i.size, i.bytes)) = some (some (.bool false), 1, 1) := by kernel_rfl
/-- block g begins with n truths f -/
structure BRow (w : World) (g n : Nat) (f : Nat → Bool) : Prop where
  lt : g < w.heap.size
  cell : ∀ j, j < n → w.cell? ⟨g, j, none⟩ = some (.bool (f j))
  free : ∀ j, j < n → w.frozen? ⟨g, j, none⟩ = false
theorem BRow.same {w w' : World} {g n : Nat} {f : Nat → Bool} (h : BRow w g n f) (hs : w.heap.size ≤ w'.heap.size) (hb : w'.heap[g]? = w.heap[g]?) : BRow w' g n f :=
  ⟨Nat.lt_of_lt_of_le h.lt hs, fun j hj => (World.cell?_of_block (a := ⟨g, j, none⟩) hb).trans (h.cell j hj), fun j hj => (World.frozen?_of_block (a := ⟨g, j, none⟩) hb).trans (h.free j hj)⟩
theorem BRow.congr {w : World} {g n : Nat} {f f' : Nat → Bool} (h : BRow w g n f) (he : ∀ j, j < n → f j = f' j) : BRow w g n f' :=
  ⟨h.lt, fun j hj => by rw [← he j hj]; exact h.cell j hj, h.free⟩
def updT (f : Nat → Bool) (j : Nat) (v : Bool) (i : Nat) : Bool := if i = j then v else f i
theorem BRow.set {w : World} {g n : Nat} {f : Nat → Bool} (h : BRow w g n f) (j : Nat) (v : Bool) (hj : j < n) : BRow (w.setCell ⟨g, j, none⟩ (.bool v)) g n (updT f j v) :=
  ⟨by rw [World.size_setCell]; exact h.lt, fun i hi => by
    by_cases e : i = j
    · subst e; rw [World.cell?_setCell_same _ _ _ (h.cell i hi)]; unfold updT; rw [if_pos rfl]
    · rw [World.cell?_setCell_other _ _ _ _ (by intro e'; injection e' with _ e'; exact e e'.symm)]
      unfold updT; rw [if_neg e]; exact h.cell i hi, fun i hi => by rw [World.frozen?_setCell]; exact h.free i hi⟩
theorem BRow.set_other {w : World} {g g2 n : Nat} {f : Nat → Bool} (h : BRow w g n f) (j : Nat) (v : Value) (hg : g2 ≠ g) : BRow (w.setCell ⟨g2, j, none⟩ v) g n f :=
  h.same (by rw [World.size_setCell]; exact Nat.le_refl _) (Below.heap_setCell _ _ _ _ (fun e => hg e.symm))
theorem BRow.made {w : World} {B g n cap : Nat} (h : w.ownsRow B 4 1 (.slice (some ⟨g, 0, none⟩) n cap) n (madeCells (Value.bool false).cells (n * 1)).toList) : BRow w g n (fun _ => false) := by
  rcases h.2 with ⟨h1, _⟩ | ⟨g', cap', cur, hv, hb, hg, hn, hm, hc, ht⟩
  · cases h1
  · cases hv
    refine ⟨(Array.getElem?_eq_some_iff.1 hg).1, fun j hj => ?_, fun j hj => frozen_of_row w g j cur _ hg⟩
    have := h.cells (g := g) rfl j (.bool false) (by
      have : (Value.bool false).cells = #[.bool false] := rfl
      rw [this]
      simp [madeCells, hj, Nat.mod_one])
    rw [Addr.add_mid, Nat.zero_add] at this
    exact this
theorem wpList_make_bools {w : World} {ops : Array Oper} {rest : List Oper} {o : Oper} {a : Act} {Q : Exit → Act → World → Prop} (hg : o.guard = none) (l c : Operand) (t : TypeId) (hop : o.op = Op.makeSlice t l c)
    (h1 : Tryz.prog.underlying t = some (.slice 4)) (n : Nat) (hl : a.eval l = .int .i64 (n : Int)) (hc : a.eval c = .int .i64 (n : Int)) (hn : n ≤ 1000000000)
    (h : ∀ w', BRow w' w.heap.size n (fun _ => false) → Below w.heap.size w w' → wpList Tryz.prog ops Q rest (a.put o.dst (.slice (some ⟨w.heap.size, 0, none⟩) n n)) w') : wpList Tryz.prog ops Q (o :: rest) a w := by
  obtain ⟨i0, hi0, hz0, hz1, hz2⟩ := info_parts boolInfo
  refine wpList_make_full w hg l c t hop w.heap.size 4 i0 (.bool false) 1 h1 hi0 hz0 hz1 .i64 .i64 _ _ n hl hc rfl rfl (by rw [hz2]; omega) (by unfold maxLen; omega) (Nat.le_refl _) ?_
  intro w' hown hgr
  exact h w' (BRow.made hown) ((Below.refl _ _).grown hgr (Nat.le_refl _) (fun k e => by cases e))
end Go.Proofs.YtfpofcfoeajkiaaGreat
/- picked; Mend where too few are there; the chapter's example: walks. -/
namespace Go.Proofs.YtfpofcfoeajkiaaGreat
open Go.RowKit
set_option linter.unusedVariables false
set_option linter.unusedSimpArgs false
/-- the slice v holds the Booleans h -/
def BoolB (w : World) (v : Value) (h : List Bool) : Prop :=
  ∃ A c, v = .slice A h.length c ∧ h.length ≤ c ∧ c ≤ maxLen ∧ (0 < h.length → ∃ b off, A = some ⟨b, off, none⟩ ∧ b < w.heap.size ∧ ∀ j (hj : j < h.length), w.cell? ⟨b, off + j, none⟩ = some (.bool h[j]))
theorem BoolB.below {w w' : World} {v : Value} {h : List Bool} {B : Nat} (hb : BoolB w v h) (b : Below B w w') (hB : w.heap.size ≤ B) : BoolB w' v h := by
  obtain ⟨A, c, h1, h2, h3, h4⟩ := hb
  refine ⟨A, c, h1, h2, h3, fun hl => ?_⟩
  obtain ⟨b0, off, e1, e2, e3⟩ := h4 hl
  exact ⟨b0, off, e1, Nat.lt_of_lt_of_le e2 b.size, fun j hj => (b.cell (p := ⟨b0, off + j, none⟩) (Nat.lt_of_lt_of_le e2 hB)).trans (e3 j hj)⟩
theorem BoolB.len {w : World} {v : Value} {h : List Bool} (hb : BoolB w v h) : ∃ A c, v = .slice A h.length c ∧ h.length ≤ c ∧ c ≤ maxLen := by
  obtain ⟨A, c, h1, h2, h3, _⟩ := hb; exact ⟨A, c, h1, h2, h3⟩
theorem own_sl {w : World} {B e k n : Nat} {v : Value} {xs : List Value} (h : w.ownsRow B e k v n xs) : ∃ A c, v = .slice A n c := by
  rcases h.2 with ⟨hv, h0⟩ | ⟨g, cap, cur, hv, _⟩
  · exact ⟨none, 0, by rw [hv, h0]⟩
  · exact ⟨_, _, hv⟩
set_option maxRecDepth 20000 in
set_option maxHeartbeats 1000000 in
theorem thereC_any (w : World) (vh : Value) (h : List Bool) (pb i : Nat) (hp : w.cell? ⟨pb, 0, none⟩ = some vh) (hb : BoolB w vh h) (hi : i < h.length) :
    Calls Tryz.prog 66 #[.int .i64 i, .pointer (some ⟨pb, 0, none⟩)] w fun e w' => e = .returned (.bool h[i]) ∧ w = w' := by
  obtain ⟨A, c, rfl, h2, h3, h4⟩ := hb
  obtain ⟨b, off, rfl, e2, e3⟩ := h4 (by omega)
  have e1 := e3 i hi
  have hlt : (i : Int) < (h.length : Int) := by omega
  generalize h[i] = q at *
  clear h4 e3
  go_enter Tryz.func66, Tryz.ntmps66
  go_wp2_with fail
  go_ret
  exact ⟨rfl, rfl⟩
/-- the first n texts for whose places h is true, out of the first j -/
def pickJ (l : List ByteArray) (h : List Bool) (n : Int) : Nat → List ByteArray
  | 0 => []
  | j + 1 => if ((pickJ l h n j).length : Int) < n ∧ h.getD j false = true then pickJ l h n j ++ [l.getD j .empty] else pickJ l h n j
theorem pickJ_len (l : List ByteArray) (h : List Bool) (n : Int) : ∀ j, (pickJ l h n j).length ≤ j
  | 0 => Nat.le_refl _
  | j + 1 => by
    unfold pickJ
    have := pickJ_len l h n j
    split
    · rw [List.length_append]; simp; omega
    · omega
set_option maxRecDepth 20000 in
set_option maxHeartbeats 2000000 in
theorem picked_any (w : World) (va vh : Value) (l : List ByteArray) (h : List Bool) (n : Int) (pb : Nat) (ha : StrsB w va l) (hp : w.cell? ⟨pb, 0, none⟩ = some vh) (hb : BoolB w vh h) (hl : l.length = h.length) (hsz : l.length ≤ 1000000) (hpb : pb < w.heap.size) :
    Calls Tryz.prog 67 #[va, .int .i64 n, .func (.func 66) #[] #[.pointer (some ⟨pb, 0, none⟩)]] w fun e w' => ∃ v, e = .returned v ∧ StrsN w' v (pickJ l h n l.length) ∧ Below w.heap.size w w' := by
  have HCL := Lib.hid (fun w' (b : Below w.heap.size w w') i hi => thereC_any w' vh h pb i ((b.cell (p := ⟨pb, 0, none⟩) hpb).trans hp) (hb.below b (Nat.le_refl _)) hi)
  have HL := Lib.hid hl
  obtain ⟨A, c, rfl, h1, h2⟩ := ha.len
  have HC := Lib.hid ha.cells
  clear ha hp hb hl h1 h2 hpb
  have hm : l.length ≤ 9223372036854775807 := by omega
  go_enter Tryz.func67, Tryz.ntmps67
  go_wp2_with fail
  go_loopw [7, 12] (fun v i wr => ∃ j : Nat, j ≤ l.length ∧ i = .int .i64 j ∧ Hid (wr.ownsRow w.heap.size 9 1 v (pickJ l h n j).length ((pickJ l h n j).map .string)) ∧ Hid (Below w.heap.size w wr)) (fun _ i _ => l.length - (intOf i).toNat)
  case atStart => exact ⟨0, Nat.zero_le _, rfl, World.ownsRow_nil _ _ _ _, Below.refl _ _⟩
  case round =>
    obtain ⟨j, hj, rfl, HO, HB⟩ := hrel
    have hpl := pickJ_len l h n j
    by_cases hlt : j < l.length
    · obtain ⟨b, off, rfl, hblt, hcell⟩ := HC.out (by omega)
      have e1 : wr.cell? ⟨b, off + j, none⟩ = some (.string l[j]) := (HB.out.cell (p := ⟨b, off + j, none⟩) hblt).trans (hcell j hlt)
      have hlt' : (j : Int) < (l.length : Int) := by omega
      have hjh : j < h.length := by rw [← HL.out]; exact hlt
      have HT := Lib.hid (HCL.out wr HB.out j hjh)
      have HP0 : Hid (pickJ l h n (j + 1) = if ((pickJ l h n j).length : Int) < n ∧ h[j] = true then pickJ l h n j ++ [l[j]] else pickJ l h n j) := by
        unfold Hid
        show (if _ then _ else _) = _
        rw [List.getD_eq_getElem?_getD, List.getElem?_eq_getElem hjh, List.getD_eq_getElem?_getD, List.getElem?_eq_getElem hlt]
        rfl
      obtain ⟨Ao, co, hv⟩ := own_sl HO.out
      subst hv
      have hown := HO.out
      have hsO := HB.out.size
      clear hcell HC HO
      generalize pickJ l h n j = out at *
      generalize l[j] = x at *
      have hi3 : out.length + 1 ≤ 1000000000 := by omega
      by_cases hn : (out.length : Int) < n
      · have hd : decide ((out.length : Int) < n) = true := by simpa using hn
        cases hq : h[j] with
        | false =>
          have HN : Hid (pickJ l h n (j + 1) = out) := by unfold Hid; rw [HP0.out, if_neg (by rw [hq]; simp)]
          rw [hq] at HT
          clear HP0 hq hn
          go_wp2_with fail
          refine HT.out.mono ?_
          rintro e w' ⟨rfl, rfl⟩
          go_wp2_with fail
          go_roundw
          case rel => exact ⟨j + 1, by omega, by go_num, by rw [HN.out]; exact hown, HB⟩
          case measure => simp [intOf]; omega
        | true =>
          have HN : Hid (pickJ l h n (j + 1) = out ++ [x]) := by unfold Hid; rw [HP0.out, if_pos ⟨hn, hq⟩]
          rw [hq] at HT
          clear HP0 hq hn
          go_wp2_with fail
          refine HT.out.mono ?_
          rintro e w' ⟨rfl, rfl⟩
          go_wp2_with (at_builtin; refine wpList_push_str rfl _ _ 37 rfl Tryz.underlying37 w.heap.size _ out rfl (hown.alloc _) ⟨wr.heap.size, 0, none⟩ _ x rfl (by simp) hi3 (by simp; omega) ?_)
          intro v' w4 hown4 hg4
          have HO4 : Hid (w4.ownsRow w.heap.size 9 1 v' (pickJ l h n (j + 1)).length ((pickJ l h n (j + 1)).map .string)) := by unfold Hid; rw [HN.out]; simpa using hown4
          have HB4 : Hid (Below w.heap.size w w4) := (HB.out.alloc hsO _).grown hg4 (by simp; omega) (fun k hk => (hown.lt k hk).1)
          clear hown hown4 hg4 HN HT HB
          go_wp2_with fail
          go_roundw
          case rel => exact ⟨j + 1, by omega, by go_num, HO4, HB4⟩
          case measure => simp [intOf]; omega
      · have hd : decide ((out.length : Int) < n) = false := by simpa using hn
        have HN : Hid (pickJ l h n (j + 1) = out) := by unfold Hid; rw [HP0.out, if_neg (fun e => hn e.1)]
        clear HP0 hn HT
        go_wp2_with fail
        go_roundw
        case rel => exact ⟨j + 1, by omega, by go_num, by rw [HN.out]; exact hown, HB⟩
        case measure => simp [intOf]; omega
    · obtain rfl : j = l.length := by omega
      go_wp2_with fail
      go_ret
      exact ⟨_, rfl, StrsN.of_owns HO.out, HB.out⟩
set_option maxRecDepth 20000 in
set_option maxHeartbeats 2000000 in
theorem mend_none (w : World) (va vh : Value) (l : List ByteArray) (h : List Bool) (k : Nat) (ha : StrsB w va l) (hb : BoolB w vh h) (hl : l.length = h.length) (hk0 : 0 < k) (hk : k ≤ 16) (hp0 : k < l.length) (hp : l.length ≤ k + 16) (hfew : (pickJ l h l.length l.length).length < k) :
    Calls Tryz.prog 37 #[va, vh, .int .i64 k] w fun e w' => e = .returned (.tuple #[.slice none 0 0, .int .i64 5]) ∧ Below w.heap.size w w' := by
  have HK : Hid (∀ w, Calls Tryz.prog 60 #[.int .i64 k] w fun e w' => e = .returned (.bool true) ∧ w = w') := fun w => by
    have h := pfewP_any k w; rwa [show fewN k = true by unfold fewN; simp; omega] at h
  have HP : Hid (∀ w, Calls Tryz.prog 60 #[.int .i64 ((l.length : Int) - (k : Int))] w fun e w' => e = .returned (.bool true) ∧ w = w') := fun w => by
    have h := pfewP_any ((l.length : Int) - (k : Int)) w; rwa [show fewN ((l.length : Int) - (k : Int)) = true by unfold fewN; simp; omega] at h
  have hbl : Below w.heap.size w (w.alloc (.cells #[vh] 57)) := (Below.refl _ _).alloc (Nat.le_refl _) _
  have HQ := Lib.hid (picked_any (w.alloc (.cells #[vh] 57)) va vh l h l.length w.heap.size (ha.below hbl (Nat.le_refl _)) (by simp) (hb.below hbl (Nat.le_refl _)) hl (by omega) (by simp))
  have HBL := Lib.hid hbl
  have hne : ((h.length : Int) != (l.length : Int)) = false := by rw [bne_eq_false_iff_eq]; omega
  obtain ⟨A, c, rfl, h1, h2⟩ := ha.len
  obtain ⟨A2, c2, rfl, h3, h4⟩ := hb.len
  clear ha hb h1 h2 h3 h4 hbl hl
  have hd : decide (((pickJ l h l.length l.length).length : Int) < (k : Int)) = true := by simp; omega
  generalize pickJ l h l.length l.length = out at *
  go_enter Tryz.func37, Tryz.ntmps37
  go_wp2_with fail
  refine (HK.out _).mono ?_
  rintro e w' ⟨rfl, rfl⟩
  go_wp2_with fail
  refine (HP.out _).mono ?_
  rintro e w' ⟨rfl, rfl⟩
  go_wp2_with fail
  refine HQ.out.mono ?_
  rintro e w1 ⟨v1, rfl, s1, b1⟩
  obtain ⟨A3, c3, rfl, h5, h6⟩ := s1.1.len
  have HW : Hid (Below w.heap.size w w1) := HBL.out.trans (b1.mono (by simp))
  clear s1 b1 h5 h6 HQ HBL hne
  go_wp2_with fail
  go_ret2
  exact ⟨rfl, HW.out⟩
end Go.Proofs.YtfpofcfoeajkiaaGreat
/- Any rows of 1 and 0 and of the Cauchy matrix: no kernel. Plain. -/
namespace Go.Proofs.YtfpofcfoeajkiaaGreat
set_option linter.unusedVariables false
set_option linter.unusedSimpArgs false
/-- how many of v's first k are not nought -/
def nz (v : Nat → UInt8) : Nat → Nat
  | 0 => 0
  | k + 1 => nz v k + if v k = 0 then 0 else 1
theorem nz_le (v w : Nat → UInt8) (h : ∀ j, v j = 0 → w j = 0) : ∀ k, nz w k ≤ nz v k
  | 0 => Nat.le_refl _
  | k + 1 => by
    have := nz_le v w h k
    unfold nz
    by_cases e : v k = 0
    · rw [if_pos e, if_pos (h k e)]; omega
    · rw [if_neg e]; split <;> omega
theorem nz_lt (v w : Nat → UInt8) (h : ∀ j, v j = 0 → w j = 0) (j0 : Nat) (h0 : v j0 ≠ 0) (h1 : w j0 = 0) : ∀ k, j0 < k → nz w k < nz v k
  | 0, hk => by omega
  | k + 1, hk => by
    unfold nz
    by_cases e : j0 = k
    · subst e
      have := nz_le v w h j0
      rw [if_neg h0, if_pos h1]; omega
    · have := nz_lt v w h j0 h0 h1 k (by omega)
      by_cases e2 : v k = 0
      · rw [if_pos e2, if_pos (h k e2)]; omega
      · rw [if_neg e2]; split <;> omega
theorem nz_zero (v : Nat → UInt8) : ∀ k, nz v k = 0 → ∀ j, j < k → v j = 0
  | 0, _, j, hj => by omega
  | k + 1, h, j, hj => by
    unfold nz at h
    by_cases e : j = k
    · subst e
      by_cases e2 : v j = 0
      · exact e2
      · rw [if_neg e2] at h; omega
    · exact nz_zero v k (by omega) j (by omega)
theorem um_zero_iff {a b : UInt8} (h : um a b = 0) (hb : b ≠ 0) : a = 0 := um_cancel hb h
theorem ui_ne {a : UInt8} (h : a ≠ 0) : ui a ≠ 0 := fun e => by
  have := um_ui a h
  rw [e, um_zero] at this
  exact absurd this (by decide)
theorem ui_um (a : UInt8) (h : a ≠ 0) : um (ui a) a = 1 := by rw [um_comm, um_ui a h]
theorem xor_ne {a b : UInt8} (h : a ≠ b) : a ^^^ b ≠ 0 := fun e => h (xor_eq_zero e)
/-- 1/(x+a) + 1/(y+a) = (x+y) 1/(x+a) 1/(y+a) -/
theorem ui_sum (p q : UInt8) (hp : p ≠ 0) (hq : q ≠ 0) : ui p ^^^ ui q = um (p ^^^ q) (um (ui p) (ui q)) := by
  rw [add_um]
  have e1 : um p (um (ui p) (ui q)) = ui q := by rw [um_assoc, um_ui p hp, one_um]
  have e2 : um q (um (ui p) (ui q)) = ui p := by rw [um_comm (ui p), um_assoc, um_ui q hq, one_um]
  rw [e1, e2, UInt8.xor_comm]
instance : Std.Associative um := ⟨fun a b c => (um_assoc a b c).symm⟩
instance : Std.Commutative um := ⟨um_comm⟩
theorem um_ac (D E a b z : UInt8) : um D (um (um E (um a b)) z) = um E (um a (um (um D b) z)) := by ac_rfl
/-- a sum over Cauchy's row x: so many rows as v has places that are not nought: v is nought -/
theorem cauchy (k : Nat) (y : Nat → UInt8) (hy : ∀ i j, i < k → j < k → y i = y j → i = j) : ∀ (xs : List UInt8) (v : Nat → UInt8), xs.Nodup → (∀ x ∈ xs, ∀ j, j < k → x ≠ y j) → nz v k ≤ xs.length →
    (∀ x ∈ xs, sg k (fun j => um (ui (x ^^^ y j)) (v j)) = 0) → ∀ j, j < k → v j = 0
  | [], v, _, _, hn, _ => nz_zero v k (by simpa using hn)
  | x :: xs, v, hnd, hxy, hn, hs => by
    rw [List.nodup_cons] at hnd
    by_cases hz : ∀ j, j < k → v j = 0
    · exact hz
    · exfalso
      obtain ⟨j0, hj0⟩ := Classical.not_forall.1 hz
      obtain ⟨hj, hv0⟩ := Classical.not_imp.1 hj0
      have hxne : ∀ j, j < k → x ^^^ y j ≠ 0 := fun j hj => xor_ne (hxy x (by simp) j hj)
      -- the smaller vector
      let w : Nat → UInt8 := fun j => um (um (y j ^^^ y j0) (ui (x ^^^ y j))) (v j)
      have hw0 : w j0 = 0 := by show um (um (y j0 ^^^ y j0) _) _ = 0; rw [xx, zero_um, zero_um]
      have hwv : ∀ j, v j = 0 → w j = 0 := fun j h => by show um _ (v j) = 0; rw [h, um_zero]
      have hwz := cauchy k y hy xs w hnd.2 (fun x' hx' j hj => hxy x' (by simp [hx']) j hj) (by
        have := nz_lt v w hwv j0 hv0 hw0 k hj
        simp at hn; omega) (fun x' hx' => by
        have hx'ne : ∀ j, j < k → x' ^^^ y j ≠ 0 := fun j hj => xor_ne (hxy x' (by simp [hx']) j hj)
        have hxx : x' ^^^ x ≠ 0 := xor_ne (fun e => hnd.1 (e ▸ hx'))
        -- (x'+y0) S(x') + (x+y0) S(x) = (x'+x) W(x')
        have key : um (x' ^^^ y j0) (sg k (fun j => um (ui (x' ^^^ y j)) (v j))) ^^^ um (x ^^^ y j0) (sg k (fun j => um (ui (x ^^^ y j)) (v j))) = um (x' ^^^ x) (sg k (fun j => um (ui (x' ^^^ y j)) (w j))) := by
          rw [um_sg, um_sg, um_sg, ← sg_add]
          refine sg_congr fun j hjk => ?_
          have hp := hx'ne j hjk
          have hq := hxne j hjk
          have hwj : w j = um (um (y j ^^^ y j0) (ui (x ^^^ y j))) (v j) := rfl
          rw [hwj]
          clear hwj
          clear hwv hw0
          clear_value w
          generalize hP : x' ^^^ y j = P at *
          generalize hQ : x ^^^ y j = Q at *
          have e1 : x' ^^^ y j0 = P ^^^ (y j ^^^ y j0) := by rw [← hP, UInt8.xor_assoc, ← UInt8.xor_assoc (y j), xx, UInt8.zero_xor]
          have e2 : x ^^^ y j0 = Q ^^^ (y j ^^^ y j0) := by rw [← hQ, UInt8.xor_assoc, ← UInt8.xor_assoc (y j), xx, UInt8.zero_xor]
          have e3 : x' ^^^ x = P ^^^ Q := by rw [← hP, ← hQ, x22, xx, UInt8.xor_zero]
          rw [e1, e2, e3]
          clear e1 e2 e3
          show um (P ^^^ (y j ^^^ y j0)) (um (ui P) (v j)) ^^^ um (Q ^^^ (y j ^^^ y j0)) (um (ui Q) (v j)) = um (P ^^^ Q) (um (ui P) (um (um (y j ^^^ y j0) (ui Q)) (v j)))
          generalize y j ^^^ y j0 = D
          generalize v j = z
          rw [add_um, add_um, um_assoc P, um_ui P hp, one_um, um_assoc Q, um_ui Q hq, one_um, x22, xx, UInt8.zero_xor, ← um_add, ← add_um]
          rw [ui_sum P Q hp hq]
          generalize P ^^^ Q = E
          generalize ui P = a
          generalize ui Q = b
          exact um_ac D E a b z
        have h1 := hs x' (by simp [hx'])
        have h2 := hs x (by simp)
        rw [h1, h2, um_zero, um_zero, xx] at key
        exact um_cancel hxx (by rw [um_comm]; exact key.symm))
      -- all but j0 are nought
      have hall : ∀ j, j < k → j ≠ j0 → v j = 0 := fun j hjk hne => by
        have hw : um (um (y j ^^^ y j0) (ui (x ^^^ y j))) (v j) = 0 := hwz j hjk
        have hyy : y j ^^^ y j0 ≠ 0 := xor_ne (fun e => hne (hy j j0 hjk hj e))
        rw [← um_assoc, um_comm] at hw
        have h2 := um_cancel hyy hw
        rw [um_comm] at h2
        exact um_cancel (ui_ne (hxne j hjk)) h2
      have hsx := hs x (by simp)
      rw [sg_one (i := j0) _ hj (fun j hjk hne => by rw [hall j hjk hne, um_zero])] at hsx
      rw [um_comm] at hsx
      exact hv0 (um_cancel (ui_ne (hxne j0 hj)) hsx)
end Go.Proofs.YtfpofcfoeajkiaaGreat
/- Rows that are picked out of all rows: the matrix can be undone. Plain. -/
namespace Go.Proofs.YtfpofcfoeajkiaaGreat
set_option linter.unusedVariables false
set_option linter.unusedSimpArgs false
def cntB (h : List Bool) : Nat → Nat
  | 0 => 0
  | j + 1 => cntB h j + if h.getD j false = true then 1 else 0
theorem pickJ_count (l : List ByteArray) (h : List Bool) (n : Nat) : ∀ j, (pickJ l h n j).length = min n (cntB h j)
  | 0 => by simp [pickJ, cntB]
  | j + 1 => by
    have ih := pickJ_count l h n j
    unfold pickJ cntB
    simp only [Nat.min_def] at ih ⊢
    by_cases e : h.getD j false = true
    · by_cases e2 : (pickJ l h n j).length < n
      · rw [if_pos ⟨by omega, e⟩, if_pos e, List.length_append, List.length_singleton]
        split at ih <;> split <;> omega
      · rw [if_neg (fun e3 => by have := e3.1; omega), if_pos e]
        split at ih <;> split <;> omega
    · rw [if_neg (fun e3 => e e3.2), if_neg e]
      exact ih
theorem pickJ_succ (l : List ByteArray) (h : List Bool) (n : Int) (j : Nat) : pickJ l h n (j + 1) = if ((pickJ l h n j).length : Int) < n ∧ h.getD j false = true then pickJ l h n j ++ [l.getD j .empty] else pickJ l h n j := rfl
theorem cntB_le (h : List Bool) : ∀ j, cntB h j ≤ j
  | 0 => Nat.le_refl _
  | j + 1 => by have := cntB_le h j; unfold cntB; split <;> omega
theorem cntB_mono (h : List Bool) (j : Nat) : ∀ d, cntB h j ≤ cntB h (j + d)
  | 0 => Nat.le_refl _
  | d + 1 => by have := cntB_mono h j d; show _ ≤ cntB h (j + d) + (if _ then 1 else 0); omega
theorem pickJ_sub (l : List ByteArray) (h : List Bool) (n : Int) (j : Nat) : ∀ r ∈ pickJ l h n j, r ∈ pickJ l h n (j + 1) := fun r hr => by
  show r ∈ (if _ then _ else _)
  split
  · exact List.mem_append.2 (.inl hr)
  · exact hr
theorem pickJ_mem (l : List ByteArray) (h : List Bool) (n : Int) : ∀ j, ∀ r ∈ pickJ l h n j, ∃ i, i < j ∧ h.getD i false = true ∧ r = l.getD i .empty
  | 0, r, hr => by cases hr
  | j + 1, r, hr => by
    change r ∈ (if _ then _ else _) at hr
    split at hr
    · next hc =>
      rcases List.mem_append.1 hr with h1 | h1
      · obtain ⟨i, a, b, c⟩ := pickJ_mem l h n j r h1; exact ⟨i, by omega, b, c⟩
      · simp at h1; exact ⟨j, by omega, hc.2, by rw [h1]; simp⟩
    · obtain ⟨i, a, b, c⟩ := pickJ_mem l h n j r hr; exact ⟨i, by omega, b, c⟩
/-- all of the first n that are there are picked -/
theorem pickJ_all (l : List ByteArray) (h : List Bool) (n : Nat) : ∀ j, j ≤ n → ∀ i, i < j → h.getD i false = true → l.getD i .empty ∈ pickJ l h n j
  | 0, _, i, hi, _ => by omega
  | j + 1, hj, i, hi, he => by
    by_cases e : i = j
    · subst e
      have h1 := pickJ_len l h n i
      show _ ∈ (if _ then _ else _)
      rw [if_pos ⟨by omega, he⟩]
      simp
    · exact pickJ_sub l h n j _ (pickJ_all l h n j (by omega) i (by omega) he)
/-- those picked behind the first n -/
theorem pickJ_more (l : List ByteArray) (h : List Bool) (n : Nat) : ∀ d, ∃ xs : List Nat, xs.Nodup ∧ (∀ x ∈ xs, n ≤ x ∧ x < n + d) ∧ xs.length + cntB h n = (pickJ l h n (n + d)).length ∧ ∀ x ∈ xs, l.getD x .empty ∈ pickJ l h n (n + d)
  | 0 => by
    refine ⟨[], List.nodup_nil, fun _ h => absurd h (by simp), ?_, fun _ h => absurd h (by simp)⟩
    rw [pickJ_count, Nat.add_zero, Nat.min_def]
    have := cntB_le h n
    simp only [List.length_nil]
    split <;> omega
  | d + 1 => by
    obtain ⟨xs, h1, h2, h3, h4⟩ := pickJ_more l h n d
    have hsub := pickJ_sub l h n (n + d)
    by_cases e : ((pickJ l h n (n + d)).length : Int) < n ∧ h.getD (n + d) false = true
    · refine ⟨(n + d) :: xs, List.nodup_cons.2 ⟨fun hm => by have := h2 _ hm; omega, h1⟩, fun x hx => ?_, ?_, fun x hx => ?_⟩
      · rcases List.mem_cons.1 hx with rfl | hx
        · exact ⟨by omega, by omega⟩
        · have := h2 x hx; exact ⟨by omega, by omega⟩
      · have e2 : pickJ l h n (n + (d + 1)) = pickJ l h n (n + d) ++ [l.getD (n + d) .empty] := by
          rw [show n + (d + 1) = (n + d) + 1 from rfl, pickJ_succ, if_pos e]
        rw [e2, List.length_append, List.length_cons, List.length_singleton]; omega
      · rcases List.mem_cons.1 hx with rfl | hx
        · have e2 : pickJ l h n (n + (d + 1)) = pickJ l h n (n + d) ++ [l.getD (n + d) .empty] := by
            rw [show n + (d + 1) = (n + d) + 1 from rfl, pickJ_succ, if_pos e]
          rw [e2]; simp
        · exact hsub _ (h4 x hx)
    · refine ⟨xs, h1, fun x hx => by have := h2 x hx; exact ⟨by omega, by omega⟩, ?_, fun x hx => hsub _ (h4 x hx)⟩
      have e2 : pickJ l h n (n + (d + 1)) = pickJ l h n (n + d) := by
        rw [show n + (d + 1) = (n + d) + 1 from rfl, pickJ_succ, if_neg e]
      rw [e2]; exact h3
/-- all rows: those of 1 and 0, and the matrix's -/
def rowsP (k p : Nat) : List ByteArray := (List.range k).map (fun i => bytesF k (dI i)) ++ parM k p
theorem rowsP_len (k p : Nat) : (rowsP k p).length = k + p := by simp [rowsP, parM]
theorem rowsP_low (k p i : Nat) (h : i < k) : (rowsP k p).getD i .empty = bytesF k (dI i) := by
  unfold rowsP
  rw [List.getD_eq_getElem?_getD, List.getElem?_append_left (by simpa using h), ← List.getD_eq_getElem?_getD]
  exact mapF_get k k dI i h
theorem rowsP_high (k p i : Nat) (h1 : k ≤ i) (h2 : i < k + p) : (rowsP k p).getD i .empty = bytesF k (cau k (i - k)) := by
  unfold rowsP
  rw [List.getD_eq_getElem?_getD, List.getElem?_append_right (by simpa using h1), ← List.getD_eq_getElem?_getD]
  simp only [List.length_map, List.length_range]
  exact mapF_get p k (cau k) (i - k) (by omega)
theorem rowsP_size (k p i : Nat) (h : i < k + p) : ((rowsP k p).getD i .empty).size = k := by
  by_cases e : i < k
  · rw [rowsP_low k p i e, bytesF_size]
  · rw [rowsP_high k p i (by omega) h, bytesF_size]
theorem nz_cnt (h : List Bool) (v : Nat → UInt8) : ∀ k, (∀ j, j < k → h.getD j false = true → v j = 0) → nz v k + cntB h k ≤ k
  | 0, _ => Nat.le_refl _
  | k + 1, hv => by
    have := nz_cnt h v k fun j hj => hv j (by omega)
    unfold nz cntB
    by_cases e : h.getD k false = true
    · rw [if_pos (hv k (by omega) e), if_pos e]; omega
    · rw [if_neg e]; split <;> omega
theorem ofNat_inj {a b : Nat} (ha : a < 256) (hb : b < 256) (h : UInt8.ofNat a = UInt8.ofNat b) : a = b := by
  have := congrArg UInt8.toNat h
  rwa [UInt8.toNat_ofNat', UInt8.toNat_ofNat', Nat.mod_eq_of_lt ha, Nat.mod_eq_of_lt hb] at this
theorem pick_ker (k p : Nat) (h : List Bool) (hk : k ≤ 16) (hp : p ≤ 16) (hc : k ≤ cntB h (k + p)) (v : Nat → UInt8)
    (hv : ∀ q, q < k → sg k (fun j => um (mt (pickJ (rowsP k p) h k (k + p)) q j) (v j)) = 0) : ∀ j, j < k → v j = 0 := by
  have hlen : (pickJ (rowsP k p) h k (k + p)).length = k := by rw [pickJ_count, Nat.min_def]; split <;> omega
  have hrow : ∀ r ∈ pickJ (rowsP k p) h k (k + p), sg k (fun j => um (rw' r j) (v j)) = 0 := fun r hr => by
    obtain ⟨q, hq, rfl⟩ := List.mem_iff_getElem.1 hr
    rw [← hv q (by omega)]
    exact sg_congr fun j _ => by rw [mt_get hq]
  have hlow : ∀ j, j < k → h.getD j false = true → v j = 0 := fun j hj he => by
    have hm : (rowsP k p).getD j .empty ∈ pickJ (rowsP k p) h k (k + p) := by
      have h1 := pickJ_all (rowsP k p) h k k (Nat.le_refl _) j hj he
      have : ∀ d, (rowsP k p).getD j .empty ∈ pickJ (rowsP k p) h k (k + d) := fun d => by
        induction d with
        | zero => exact h1
        | succ d ih => exact pickJ_sub _ _ _ _ _ ih
      exact this p
    have h2 := hrow _ hm
    rw [rowsP_low k p j hj] at h2
    rw [sg_congr (g := fun q => um (dI j q) (v q)) (fun q hq => by rw [rw_bytesF _ hq]), sg_dI _ hj] at h2
    exact h2
  obtain ⟨xs, x1, x2, x3, x4⟩ := pickJ_more (rowsP k p) h k p
  rw [hlen] at x3
  have hnz := nz_cnt h v k hlow
  refine cauchy k (fun j => UInt8.ofNat j) (fun i j hi hj e => ofNat_inj (by omega) (by omega) e) (xs.map fun x => UInt8.ofNat x) v ?_ ?_ (by rw [List.length_map]; omega) ?_
  · refine List.Pairwise.map _ ?_ (List.Pairwise.and_mem.1 x1)
    rintro a b ⟨ha, hb, hab⟩ e
    have h1 := x2 a ha
    have h2 := x2 b hb
    exact hab (ofNat_inj (by omega) (by omega) e)
  · intro x hx j hj e
    obtain ⟨a, ha, rfl⟩ := List.mem_map.1 hx
    have h1 := x2 a ha
    have := ofNat_inj (by omega) (by omega) e
    omega
  · intro x hx
    obtain ⟨a, ha, rfl⟩ := List.mem_map.1 hx
    have h1 := x2 a ha
    have h2 := hrow _ (x4 a ha)
    rw [rowsP_high k p a h1.1 h1.2] at h2
    rw [← h2]
    refine sg_congr fun j hj => ?_
    rw [rw_bytesF _ hj]
    unfold cau
    rw [show k + (a - k) = a by omega]
theorem pick_inv (k p : Nat) (h : List Bool) (hk0 : 0 < k) (hk : k ≤ 16) (hp : p ≤ 16) (hc : k ≤ cntB h (k + p)) : invOk (pickJ (rowsP k p) h k (k + p)) = true ∧ (pickJ (rowsP k p) h k (k + p)).length = k := by
  have hlen : (pickJ (rowsP k p) h k (k + p)).length = k := by rw [pickJ_count, Nat.min_def]; split <;> omega
  have hker := pick_ker k p h hk hp hc
  have hsz : ∀ r ∈ pickJ (rowsP k p) h k (k + p), r.size = k := fun r hr => by
    obtain ⟨i, hi, _, rfl⟩ := pickJ_mem _ _ _ _ _ hr
    exact rowsP_size k p i hi
  generalize pickJ (rowsP k p) h k (k + p) = M at *
  refine ⟨?_, hlen⟩
  obtain ⟨R, hR⟩ := el_some hker k (Nat.le_refl _)
  have hf : firstN M = k := by
    cases M with
    | nil => simp at hlen; omega
    | cons a t => exact hsz a (by simp)
  have he : evenL M = true := by
    unfold evenL allN
    rw [List.all_eq_true]
    intro r hr
    rw [decide_eq_true_iff, hf]; exact hsz r hr
  have hsq : sqOk M = true := by
    unfold sqOk widthN evenB
    rw [decide_eq_true_iff, hlen, he, hf]
    refine ⟨by omega, ?_⟩
    rw [if_neg]
    rintro (e | e)
    · omega
    · simp at e; omega
  unfold invOk
  rw [hsq, Bool.true_and, hlen]
  unfold inv
  rw [hR]
  rfl
end Go.Proofs.YtfpofcfoeajkiaaGreat
/- siloref36.row: walk. -/
namespace Go.Proofs.YtfpofcfoeajkiaaGreat
open Go.RowKit
set_option linter.unusedVariables false
set_option linter.unusedSimpArgs false
theorem parM_get (k p i : Nat) (h : i < p) : (parM k p).getD i .empty = bytesF k (cau k i) := mapF_get p k (cau k) i h
theorem parM_len (k p : Nat) : (parM k p).length = p := by simp [parM]
end Go.Proofs.YtfpofcfoeajkiaaGreat
/- parity.rows: walks. -/
namespace Go.Proofs.YtfpofcfoeajkiaaGreat
open Go.RowKit
set_option linter.unusedVariables false
set_option linter.unusedSimpArgs false
set_option maxRecDepth 20000 in
set_option maxHeartbeats 4000000 in
theorem rows_any (k p : Nat) (w : World) (hk0 : 0 < k) (hk : k ≤ 16) (hp0 : 0 < p) (hp : p ≤ 16) :
    Calls Tryz.prog 69 #[.int .i64 k, .int .i64 p] w fun e w' => ∃ v, e = .returned v ∧ StrsN w' v (rowsP k p) ∧ Below w.heap.size w w' := by
  have HMX := Lib.hid (fun w => matrix_ok k p w hk0 hk hp0 hp)
  have HRP : Hid ((List.range k).map (fun i => bytesF k (dI i)) ++ parM k p = rowsP k p) := rfl
  have hkI : k ≤ 9223372036854775807 := by omega
  go_enter Tryz.func69, Tryz.ntmps69
  go_wp2_with fail
  go_loopw [5, 9] (fun v q wr => ∃ i : Nat, i ≤ k ∧ q = .int .i64 i ∧ Hid (wr.ownsRow w.heap.size 9 1 v ((List.range i).map fun i => bytesF k (dI i)).length (((List.range i).map fun i => bytesF k (dI i)).map .string)) ∧ Hid (Below w.heap.size w wr)) (fun _ q _ => k - (intOf q).toNat)
  case atStart => exact ⟨0, Nat.zero_le _, rfl, World.ownsRow_nil _ _ _ _, Below.refl _ _⟩
  case round =>
    obtain ⟨i, hi, rfl, HO, HBr⟩ := hrel
    by_cases hlt : i < k
    · have hlt' : (i : Int) < (k : Int) := by omega
      go_wp2_with (at_make; refine wpList_make_bytes rfl _ _ 83 rfl Tryz.underlying83 k rfl rfl (by omega) ?_)
      intro w1 hF hB
      have e1 : w1.cell? ⟨wr.heap.size, i, none⟩ = some (.int .u8 0) := hF.cell i hlt
      have f1 : w1.frozen? ⟨wr.heap.size, i, none⟩ = false := hF.free i hlt
      have hF2 : FRow (w1.setCell ⟨wr.heap.size, i, none⟩ (.int .u8 1)) wr.heap.size k (updG (fun _ => 0) i 1) := hF.set i 1 hlt
      have hcs := conv_str hF2 0 k k (by omega)
      have HE : Hid (bytesF k (fun q => updG (fun _ => 0) i 1 (0 + q)) = bytesF k (dI i)) := bytesF_congr fun q hq => by
        unfold updG dI
        rw [Nat.zero_add]
        by_cases e : q = i
        · rw [if_pos e, if_pos e.symm]
        · rw [if_neg e, if_neg (fun e2 => e e2.symm)]
      rw [HE.out] at hcs
      have hb2 : Below wr.heap.size wr (w1.setCell ⟨wr.heap.size, i, none⟩ (.int .u8 1)) := hB.setCell (Nat.le_refl _) _
      have hown2 := HO.out.kept (grown_of_below hb2 none) (by
        by_cases e : u5.ownBlock = none
        · exact .inl e
        · exact .inr e)
      have hi3 : ((List.range i).map fun i => bytesF k (dI i)).length + 1 ≤ 1000000000 := by simp; omega
      have HR : Hid (((List.range i).map fun i => bytesF k (dI i)) ++ [bytesF k (dI i)] = (List.range (i + 1)).map fun i => bytesF k (dI i)) := by unfold Hid; rw [List.range_succ, List.map_append]; rfl
      have HB2 := Lib.hid hb2
      have hs1 := HBr.out.size
      have hs2 : wr.heap.size ≤ w1.heap.size := hB.size
      generalize bytesF k (dI i) = z at *
      generalize ((List.range i).map fun i => bytesF k (dI i)) = out at *
      clear hF hF2 hB HE hb2
      go_wp2_with (at_builtin; refine wpList_push_str rfl _ _ 37 rfl Tryz.underlying37 w.heap.size _ out rfl (hown2.alloc _) ⟨w1.heap.size, 0, none⟩ _ z rfl ?hcell hi3 (by simp; omega) ?_)
      case hcell =>
        have h := heap_alloc_new (w1.setCell ⟨wr.heap.size, i, none⟩ (.int .u8 1)) (.cells #[.string z] 9)
        rw [World.size_setCell] at h
        exact (cell_of_row _ _ 0 _ _ _ h).trans rfl
      intro v' w4 hown4 hg4
      have HO4 : Hid (w4.ownsRow w.heap.size 9 1 v' ((List.range (i + 1)).map fun i => bytesF k (dI i)).length (((List.range (i + 1)).map fun i => bytesF k (dI i)).map .string)) := by unfold Hid; rw [← HR.out]; simpa using hown4
      have HB4 : Hid (Below w.heap.size w w4) := ((HBr.out.trans (HB2.out.mono hs1)).alloc (by simp; omega) _).grown hg4 (by simp; omega) (fun k hk => (hown2.lt k hk).1)
      clear hown4 hg4 hcs e1 f1 hown2
      go_wp2_with fail
      go_roundw
      case rel => exact ⟨i + 1, by omega, by go_num, HO4, HB4⟩
      case measure => simp [intOf]; omega
    · obtain rfl : i = k := by omega
      obtain ⟨A5, c5, hv5⟩ := own_sl HO.out
      subst hv5
      have HS := Lib.hid (StrsN.of_owns HO.out)
      have hln : ((List.range i).map fun i' => bytesF i (dI i')).length ≤ 1000000 := by simp; omega
      have hlm : (parM i p).length ≤ 1000000 := by rw [parM_len]; omega
      generalize ((List.range i).map fun i' => bytesF i (dI i')) = L1 at *
      obtain ⟨L2, hL2⟩ : ∃ L2, L2 = parM i p := ⟨_, rfl⟩
      rw [← hL2] at HMX HRP hlm
      clear hL2
      go_wp2_with fail
      refine (HMX.out _).mono ?_
      rintro e w2 ⟨v2, rfl, s2, b2⟩
      obtain ⟨A6, c6, rfl, _, _⟩ := s2.1.len
      have hb3 : Below w2.heap.size w2 (w2.alloc (.cells #[.slice A5 L1.length c5, .slice A6 L2.length c6] 37)) := (Below.refl _ _).alloc (Nat.le_refl _) _
      have HC := Lib.hid (concat2 (w2.alloc (.cells #[.slice A5 L1.length c5, .slice A6 L2.length c6] 37)) w2.heap.size _ _ L1 L2 (by simp) (by simp) ((HS.out.below b2 (Nat.le_refl _)).below hb3 (Nat.le_refl _)) (s2.below hb3 (Nat.le_refl _)) hln hlm (by simp))
      have HW := Lib.hid (HBr.out.trans (b2.mono HBr.out.size))
      have hs5 := HW.out.size
      clear s2 b2 hb3 HS HO
      go_wp2_with fail
      refine HC.out.mono ?_
      rintro e w3 ⟨v3, rfl, s3, b3⟩
      have H3 := Lib.hid s3
      have HW3 : Hid (Below w.heap.size w w3) := (HW.out.alloc hs5 _).trans (b3.mono (by simp; omega))
      clear s3 b3 HC
      go_wp2_with fail
      go_ret
      exact ⟨_, rfl, by rw [← HRP.out]; exact H3.out, HW3.out⟩
end Go.Proofs.YtfpofcfoeajkiaaGreat
