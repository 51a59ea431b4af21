/- parity.Matrix, siloref36.Matrix: walks. -/
import Derived.Test.YtdgnhnhmcobfkaaParFew
import Derived.Test.YtdgnhnhmcobfkaaBuilder
namespace Go.Proofs.Ytdgnhnhmcobfkaa
open Go.RowKit
set_option linter.unusedVariables false
set_option linter.unusedSimpArgs false
/-- block g begins with n texts f -/
structure SRow (w : World) (g n : Nat) (f : Nat → ByteArray) : Prop where
  lt : g < w.heap.size
  cell : ∀ j, j < n → w.cell? ⟨g, j, none⟩ = some (.string (f j))
  free : ∀ j, j < n → w.frozen? ⟨g, j, none⟩ = false
theorem SRow.same {w w' : World} {g n : Nat} {f : Nat → ByteArray} (h : SRow w g n f) (hs : w.heap.size ≤ w'.heap.size) (hb : w'.heap[g]? = w.heap[g]?) : SRow w' g n f :=
  ⟨Nat.lt_of_lt_of_le h.lt hs, fun j hj => (World.cell?_of_block (a := ⟨g, j, none⟩) hb).trans (h.cell j hj), fun j hj => (World.frozen?_of_block (a := ⟨g, j, none⟩) hb).trans (h.free j hj)⟩
theorem SRow.below {w w' : World} {g n B : Nat} {f : Nat → ByteArray} (h : SRow w g n f) (hb : Below B w w') (hB : g < B) : SRow w' g n f := h.same hb.size (hb.block g hB)
theorem SRow.congr {w : World} {g n : Nat} {f f' : Nat → ByteArray} (h : SRow w g n f) (he : ∀ j, j < n → f j = f' j) : SRow w g n f' :=
  ⟨h.lt, fun j hj => by rw [← he j hj]; exact h.cell j hj, h.free⟩
def updS (f : Nat → ByteArray) (j : Nat) (v : ByteArray) (i : Nat) : ByteArray := if i = j then v else f i
theorem SRow.set {w : World} {g n : Nat} {f : Nat → ByteArray} (h : SRow w g n f) (j : Nat) (v : ByteArray) (hj : j < n) : SRow (w.setCell ⟨g, j, none⟩ (.string v)) g n (updS f j v) :=
  ⟨by rw [World.size_setCell]; exact h.lt, fun i hi => by
    by_cases e : i = j
    · subst e; rw [World.cell?_setCell_same _ _ _ (h.cell i hi)]; unfold updS; rw [if_pos rfl]
    · rw [World.cell?_setCell_other _ _ _ _ (by intro e'; injection e' with _ e'; exact e e'.symm)]
      unfold updS; rw [if_neg e]; exact h.cell i hi, fun i hi => by rw [World.frozen?_setCell]; exact h.free i hi⟩
theorem SRow.made {w : World} {B g n cap : Nat} (h : w.ownsRow B 9 1 (.slice (some ⟨g, 0, none⟩) n cap) n (madeCells (Value.string ByteArray.empty).cells (n * 1)).toList) : SRow w g n (fun _ => .empty) := by
  rcases h.2 with ⟨h1, _⟩ | ⟨g', cap', cur, hv, hb, hg, hn, hm, hc, ht⟩
  · cases h1
  · cases hv
    refine ⟨(Array.getElem?_eq_some_iff.1 hg).1, fun j hj => ?_, fun j hj => frozen_of_row w g j cur _ hg⟩
    have := h.cells (g := g) rfl j (.string .empty) (by
      have : (Value.string ByteArray.empty).cells = #[.string ByteArray.empty] := rfl
      rw [this]
      simp [madeCells, hj, Nat.mod_one])
    rw [Addr.add_mid, Nat.zero_add] at this
    exact this
theorem SRow.strs {w : World} {g n : Nat} {f : Nat → ByteArray} (h : SRow w g n f) (hn : n ≤ maxLen) : StrsN w (.slice (some ⟨g, 0, none⟩) n n) ((List.range n).map f) := by
  refine ⟨⟨_, n, by simp, by simp, hn, fun hl => ⟨g, 0, rfl, h.lt, fun j hj => ?_⟩⟩, fun a b e => by cases e⟩
  have hj' : j < n := by simpa using hj
  rw [Nat.zero_add, h.cell j hj']
  simp [hj']
theorem wpList_make_strs {w : World} {ops : Array Oper} {rest : List Oper} {o : Oper} {a : Act} {Q : Exit → Act → World → Prop} (hg : o.guard = none) (l c : Operand) (t : TypeId) (hop : o.op = Op.makeSlice t l c)
    (h1 : Try.prog.underlying t = some (.slice 9)) (n : Nat) (hl : a.eval l = .int .i64 (n : Int)) (hc : a.eval c = .int .i64 (n : Int)) (hn : n ≤ 1000000000)
    (h : ∀ w', SRow w' w.heap.size n (fun _ => .empty) → Below w.heap.size w w' → wpList Try.prog ops Q rest (a.put o.dst (.slice (some ⟨w.heap.size, 0, none⟩) n n)) w') : wpList Try.prog ops Q (o :: rest) a w := by
  obtain ⟨i0, hi0, hz0, hz1, hz2⟩ := info_parts strInfo
  refine wpList_make_full w hg l c t hop w.heap.size 9 i0 (.string ByteArray.empty) 1 h1 hi0 hz0 hz1 .i64 .i64 _ _ n hl hc rfl rfl (by rw [hz2]; omega) (by unfold maxLen; omega) (Nat.le_refl _) ?_
  intro w' hown hgr
  exact h w' (SRow.made hown) ((Below.refl _ _).grown hgr (Nat.le_refl _) (fun k e => by cases e))
/-- the rows by which shards are made -/
def cau (k i j : Nat) : UInt8 := ui (UInt8.ofNat (k + i) ^^^ UInt8.ofNat j)
def parM (k p : Nat) : List ByteArray := (List.range p).map fun i => bytesF k (cau k i)
def matL (k p : Int) : List ByteArray := if (fewN k && fewN p) = true then parM k.toNat p.toNat else []
theorem gDiv1 (b : Nat) (hb : b < 256) : gDiv 1 b = gInv b := by
  unfold gDiv
  by_cases h : b = 0
  · rw [if_pos h, h]; unfold gInv; rw [gPow_zero (by decide)]
  · rw [if_neg h, one_gMul (gInv_lt hb)]
theorem cau_nat (k i j : Nat) (h1 : k + i < 256) (h2 : j < 256) : ((cau k i j).toNat : Int) = ((gDiv 1 ((k + i) ^^^ j) : Nat) : Int) := by
  have hx : (k + i) ^^^ j < 256 := xlt h1 h2
  rw [gDiv1 _ hx]
  unfold cau
  rw [ui_nat, UInt8.toNat_xor, UInt8.toNat_ofNat', UInt8.toNat_ofNat', Nat.mod_eq_of_lt h1, Nat.mod_eq_of_lt h2]
theorem cauD_any (k i j : Nat) (h1 : k + i < 256) (h2 : j < 256) (w : World) : Calls Try.prog 11 #[.int .u8 1, .int .u8 (bits .xor .u8 ((k : Int) + (i : Int)) (j : Int))] w fun e w' => ∃ q, e = .returned (.tuple #[.int .u8 (cau k i j).toNat, .bool q]) ∧ w = w' := by
  have hx := x8n (k + i) j h1 h2
  rw [Int.natCast_add] at hx
  rw [hx, cau_nat k i j h1 h2]
  exact (div_any 1 _ (by decide) (xlt h1 h2) w).mono fun e w' ⟨a, b⟩ => ⟨_, a, b⟩
theorem cauR_any (k i j : Nat) (h1 : k + i < 256) (h2 : j < 256) (w : World) : Calls Try.prog 14 #[.int .u8 1, .int .u8 (bits .xor .u8 ((k : Int) + (i : Int)) (j : Int))] w fun e w' => ∃ q, e = .returned (.tuple #[.int .u8 (cau k i j).toNat, .bool q]) ∧ w = w' := by
  have hx := x8n (k + i) j h1 h2
  rw [Int.natCast_add] at hx
  rw [hx, cau_nat k i j h1 h2]
  exact (refDiv_any 1 _ (by decide) (xlt h1 h2) w).mono fun e w' ⟨a, b⟩ => ⟨_, a, b⟩
theorem fewN_pos {n : Int} (h : fewN n = true) : 0 < n ∧ n ≤ 16 := by unfold fewN at h; simpa using h
set_option maxRecDepth 20000 in
set_option maxHeartbeats 4000000 in
theorem matrix_ok (k p : Nat) (w : World) (hk0 : 0 < k) (hk : k ≤ 16) (hp0 : 0 < p) (hp : p ≤ 16) :
    Calls Try.prog 36 #[.int .i64 k, .int .i64 p] w fun e w' => ∃ v, e = .returned v ∧ StrsN w' v (parM k p) ∧ Below w.heap.size w w' := by
  have HK : Hid (∀ w, Calls Try.prog 49 #[.int .i64 k] w fun e w' => e = .returned (.bool true) ∧ w = w') := fun w => by
    have h := pfew_any k w; rwa [show fewN k = true by unfold fewN; simp; omega] at h
  have HP : Hid (∀ w, Calls Try.prog 49 #[.int .i64 p] w fun e w' => e = .returned (.bool true) ∧ w = w') := fun w => by
    have h := pfew_any p w; rwa [show fewN p = true by unfold fewN; simp; omega] at h
  go_enter Try.func36, Try.ntmps36
  go_wp2_with fail
  refine (HK.out _).mono ?_
  rintro e w' ⟨rfl, rfl⟩
  go_wp2_with fail
  refine (HP.out _).mono ?_
  rintro e w' ⟨rfl, rfl⟩
  go_wp2_with (at_make; refine wpList_make_strs rfl _ _ 31 rfl Try.underlying31 p rfl rfl (by omega) ?_)
  intro w1 hS hB
  have HS := Lib.hid hS; clear hS
  have HB := Lib.hid hB; clear hB
  clear HK HP
  go_wp2_with fail
  go_loopw [23] (fun q wr => ∃ i : Nat, i ≤ p ∧ q = .int .i64 i ∧ Hid (SRow wr w.heap.size p (fun q => if q < i then bytesF k (cau k q) else .empty)) ∧ Hid (Below w.heap.size w wr)) (fun q _ => p - (intOf q).toNat)
  case atStart => exact ⟨0, Nat.zero_le _, rfl, HS.out.congr fun j hj => by rw [if_neg (by omega)], HB.out⟩
  case round =>
    obtain ⟨i, hi, rfl, HR, HBr⟩ := hrel
    clear HS HB
    obtain ⟨wo, hwo⟩ : ∃ wo, wo = wr := ⟨_, rfl⟩
    subst hwo
    by_cases hlt : i < p
    · have hlt' : (i : Int) < (p : Int) := by omega
      have H0 := Lib.hid (isBld_fresh wo)
      have HB0 := Lib.hid ((Below.refl wo.heap.size wo).alloc (Nat.le_refl _) (.cells #[.pointer none, .slice none 0 0] 78))
      go_wp2_with fail
      go_loopw [27] (fun q wr => ∃ j : Nat, j ≤ k ∧ q = .int .i64 j ∧ Hid (isBld wr wo.heap.size ((List.range j).map (cau k i))) ∧ Hid (Below wo.heap.size wo wr)) (fun q _ => k - (intOf q).toNat)
      case atStart => exact ⟨0, Nat.zero_le _, rfl, H0.out, HB0.out⟩
      case round =>
        obtain ⟨j, hj, rfl, HI, HBj⟩ := hrel
        by_cases hjl : j < k
        · have hjl' : (j : Int) < (k : Int) := by omega
          have HD := Lib.hid (cauD_any k i j (by omega) (by omega))
          have hn : ((List.range j).map (cau k i)).length + 1 ≤ 140737488355328 := by simp; omega
          have HN : Hid ((List.range j).map (cau k i) ++ [cau k i j] = (List.range (j + 1)).map (cau k i)) := by unfold Hid; rw [List.range_succ, List.map_append]; rfl
          have hs := HBj.out.size
          generalize cau k i j = c at *
          generalize (List.range j).map (cau k i) = L at *
          go_wp2_with fail
          refine (HD.out _).mono ?_
          rintro e w' ⟨q, rfl, rfl⟩
          go_wp2_with fail
          refine (bldByte_ok _ _ _ _ HI.out hn hs).mono ?_
          rintro e w2 ⟨rfl, hI2, hB2⟩
          have HI2 : Hid (isBld w2 wo.heap.size ((List.range (j + 1)).map (cau k i))) := by unfold Hid; rw [← HN.out]; exact hI2
          have HB2 : Hid (Below wo.heap.size wo w2) := HBj.out.trans hB2
          clear hI2 hB2 HD HI HBj HN hn hs
          go_wp2_with fail
          go_roundw
          case rel => exact ⟨j + 1, by omega, by go_num, HI2, HB2⟩
          case measure => simp [intOf]; omega
        · obtain rfl : j = k := by omega
          have hne : (List.range j).map (cau j i) ≠ [] := by
            intro e; have := congrArg List.length e; simp at this; omega
          have HE : Hid ((⟨((List.range j).map (cau j i)).toArray⟩ : ByteArray) = bytesF j (cau j i)) := rfl
          have HT := Lib.hid (bldString_ok _ _ _ HI.out hne)
          rw [HE.out] at HT
          have hsl := HR.out.lt
          have HNx : Hid (∀ q, q < p → updS (fun q => if q < i then bytesF j (cau j q) else .empty) i (bytesF j (cau j i)) q = if q < i + 1 then bytesF j (cau j q) else .empty) := fun q hq => by
            unfold updS
            by_cases e : q = i
            · rw [if_pos e, if_pos (by omega), e]
            · rw [if_neg e]; dsimp only
              by_cases e2 : q < i
              · rw [if_pos e2, if_pos (by omega)]
              · rw [if_neg e2, if_neg (by omega)]
          generalize bytesF j (cau j i) = z at *
          clear HI HE hne
          go_wp2_with fail
          refine HT.out.mono ?_
          rintro e w3 ⟨rfl, hB3⟩
          have hB4 : Below wo.heap.size wo w3 := HBj.out.trans hB3
          have hR3 := HR.out.below hB4 hsl
          have e5 : w3.cell? ⟨w.heap.size, i, none⟩ = some (.string .empty) := by
            have := hR3.cell i hlt; rwa [if_neg (by omega)] at this
          have f5 : w3.frozen? ⟨w.heap.size, i, none⟩ = false := hR3.free i hlt
          have HR4 : Hid (SRow (w3.setCell ⟨w.heap.size, i, none⟩ (.string z)) w.heap.size p (fun q => if q < i + 1 then bytesF j (cau j q) else .empty)) := (hR3.set i z hlt).congr HNx.out
          have HB5 : Hid (Below w.heap.size w (w3.setCell ⟨w.heap.size, i, none⟩ (.string z))) := (HBr.out.trans (hB4.mono HBr.out.size)).setCell (Nat.le_refl _) _
          clear hB3 hB4 hR3 HT HNx
          go_wp2_with fail
          go_roundw
          case rel => exact ⟨i + 1, by omega, by go_num, HR4, HB5⟩
          case measure => simp [intOf]; omega
    · obtain rfl : i = p := by omega
      have hst := (HR.out.congr (f' := fun q => bytesF k (cau k q)) fun q hq => by rw [if_pos hq]).strs (by unfold maxLen; omega)
      have HST := Lib.hid hst; clear hst
      go_wp2_with fail
      go_ret
      exact ⟨_, rfl, HST.out, HBr.out⟩
set_option maxRecDepth 20000 in
set_option maxHeartbeats 4000000 in
theorem rmatrix_ok (k p : Nat) (w : World) (hk0 : 0 < k) (hk : k ≤ 16) (hp0 : 0 < p) (hp : p ≤ 16) :
    Calls Try.prog 37 #[.int .i64 k, .int .i64 p] w fun e w' => ∃ v, e = .returned v ∧ StrsN w' v (parM k p) ∧ Below w.heap.size w w' := by
  have HK : Hid (∀ w, Calls Try.prog 54 #[.int .i64 k] w fun e w' => e = .returned (.bool true) ∧ w = w') := fun w => by
    have h := prfew_any k w; rwa [show fewN k = true by unfold fewN; simp; omega] at h
  have HP : Hid (∀ w, Calls Try.prog 54 #[.int .i64 p] w fun e w' => e = .returned (.bool true) ∧ w = w') := fun w => by
    have h := prfew_any p w; rwa [show fewN p = true by unfold fewN; simp; omega] at h
  go_enter Try.func37, Try.ntmps37
  go_wp2_with fail
  refine (HK.out _).mono ?_
  rintro e w' ⟨rfl, rfl⟩
  go_wp2_with fail
  refine (HP.out _).mono ?_
  rintro e w' ⟨rfl, rfl⟩
  clear HK HP
  go_wp2_with fail
  go_loopw [5, 6] (fun v q wr => ∃ i : Nat, i ≤ p ∧ q = .int .i64 i ∧ Hid (wr.ownsRow w.heap.size 9 1 v ((List.range i).map fun i => bytesF k (cau k i)).length (((List.range i).map fun i => bytesF k (cau k i)).map .string)) ∧ Hid (Below w.heap.size w wr)) (fun _ q _ => p - (intOf q).toNat)
  case atStart => exact ⟨0, Nat.zero_le _, rfl, World.ownsRow_nil _ _ _ _, Below.refl _ _⟩
  case round =>
    obtain ⟨i, hi, rfl, HO, HBr⟩ := hrel
    obtain ⟨wo, hwo⟩ : ∃ wo, wo = wr := ⟨_, rfl⟩
    subst hwo
    by_cases hlt : i < p
    · have hlt' : (i : Int) < (p : Int) := by omega
      go_wp2_with (at_make; refine wpList_make_bytes rfl _ _ 63 rfl Try.underlying63 k rfl rfl (by omega) ?_)
      intro w1 hF hB1
      have HF := Lib.hid hF; clear hF
      have HB1 := Lib.hid hB1; clear hB1
      go_wp2_with fail
      go_loopw [8] (fun q wr => ∃ j : Nat, j ≤ k ∧ q = .int .i64 j ∧ Hid (FRow wr wo.heap.size k (fun q => if q < j then cau k i q else 0)) ∧ Hid (Below wo.heap.size wo wr)) (fun q _ => k - (intOf q).toNat)
      case atStart => exact ⟨0, Nat.zero_le _, rfl, HF.out.congr fun q hq => by rw [if_neg (by omega)], HB1.out⟩
      case round =>
        obtain ⟨j, hj, rfl, HI, HBj⟩ := hrel
        by_cases hjl : j < k
        · have hjl' : (j : Int) < (k : Int) := by omega
          have HD := Lib.hid (cauR_any k i j (by omega) (by omega))
          have e1 : wr.cell? ⟨wo.heap.size, j, none⟩ = some (.int .u8 0) := by
            have := HI.out.cell j hjl; rw [if_neg (by omega)] at this; exact this
          have f1 : wr.frozen? ⟨wo.heap.size, j, none⟩ = false := HI.out.free j hjl
          have HN : Hid (FRow (wr.setCell ⟨wo.heap.size, j, none⟩ (.int .u8 (cau k i j).toNat)) wo.heap.size k (fun q => if q < j + 1 then cau k i q else 0)) := (HI.out.set j (cau k i j) hjl).congr fun q hq => by
            unfold updB
            by_cases e : q = j
            · rw [if_pos e, if_pos (by omega), e]
            · rw [if_neg e]; dsimp only
              by_cases e2 : q < j
              · rw [if_pos e2, if_pos (by omega)]
              · rw [if_neg e2, if_neg (by omega)]
          have HN2 : Hid (Below wo.heap.size wo (wr.setCell ⟨wo.heap.size, j, none⟩ (.int .u8 (cau k i j).toNat))) := HBj.out.setCell (Nat.le_refl _) _
          generalize cau k i j = c at *
          clear HI HBj
          go_wp2_with fail
          refine (HD.out _).mono ?_
          rintro e w' ⟨q, rfl, rfl⟩
          go_wp2_with fail
          go_roundw
          case rel => exact ⟨j + 1, by omega, by go_num, HN, HN2⟩
          case measure => simp [intOf]; omega
        · obtain rfl : j = k := by omega
          have hcs := conv_str HI.out 0 j j (by omega)
          have HE : Hid (bytesF j (fun q => (fun q => if q < j then cau j i q else 0) (0 + q)) = bytesF j (cau j i)) := bytesF_congr fun q hq => by
            simp only [Nat.zero_add]; rw [if_pos hq]
          rw [HE.out] at hcs
          have hown2 := HO.out.kept (grown_of_below HBj.out none) (by
            by_cases e : u5.ownBlock = none
            · exact .inl e
            · exact .inr e)
          have hi3 : ((List.range i).map fun i => bytesF j (cau j i)).length + 1 ≤ 1000000000 := by simp; omega
          have hq1 := HBj.out.size
          have hs1 := HBr.out.size
          have HR : Hid (((List.range i).map fun i => bytesF j (cau j i)) ++ [bytesF j (cau j i)] = (List.range (i + 1)).map fun i => bytesF j (cau j i)) := by unfold Hid; rw [List.range_succ, List.map_append]; rfl
          generalize bytesF j (cau j i) = z at *
          generalize ((List.range i).map fun i => bytesF j (cau j i)) = out at *
          go_wp2_with (at_builtin; refine wpList_push_str rfl _ _ 31 rfl Try.underlying31 w.heap.size _ out rfl (hown2.alloc _) ⟨wr.heap.size, 0, none⟩ _ z rfl (by simp) hi3 (by simp; omega) ?_)
          intro v' w4 hown4 hg4
          have HO4 : Hid (w4.ownsRow w.heap.size 9 1 v' ((List.range (i + 1)).map fun i => bytesF j (cau j i)).length (((List.range (i + 1)).map fun i => bytesF j (cau j i)).map .string)) := by unfold Hid; rw [← HR.out]; simpa using hown4
          have HB4 : Hid (Below w.heap.size w w4) := ((HBr.out.trans (HBj.out.mono hs1)).alloc (by omega) _).grown hg4 (by simp; omega) (fun k hk => (hown2.lt k hk).1)
          clear hown4 hg4 hcs
          go_wp2_with fail
          go_roundw
          case rel => exact ⟨i + 1, by omega, by go_num, HO4, HB4⟩
          case measure => simp [intOf]; omega
    · obtain rfl : i = p := by omega
      go_wp2_with fail
      go_ret
      exact ⟨_, rfl, StrsN.of_owns HO.out, HBr.out⟩
set_option maxRecDepth 20000 in
set_option maxHeartbeats 1000000 in
theorem matrix_no (k p : Int) (w : World) (h : (fewN k && fewN p) = false) :
    Calls Try.prog 36 #[.int .i64 k, .int .i64 p] w fun e w' => e = .returned (.slice none 0 0) ∧ w = w' := by
  have HK := Lib.hid (fun w => pfew_any k w)
  have HP := Lib.hid (fun w => pfew_any p w)
  cases hk : fewN k with
  | false =>
    rw [hk] at HK
    clear hk h
    go_enter Try.func36, Try.ntmps36
    go_wp2_with fail
    refine (HK.out _).mono ?_
    rintro e w' ⟨rfl, rfl⟩
    go_wp2_with fail
    go_ret
    exact ⟨rfl, rfl⟩
  | true =>
    rw [hk, Bool.true_and] at h
    rw [hk] at HK
    rw [h] at HP
    clear hk h
    go_enter Try.func36, Try.ntmps36
    go_wp2_with fail
    refine (HK.out _).mono ?_
    rintro e w' ⟨rfl, rfl⟩
    go_wp2_with fail
    refine (HP.out _).mono ?_
    rintro e w' ⟨rfl, rfl⟩
    go_wp2_with fail
    go_ret
    exact ⟨rfl, rfl⟩
theorem matrix_any (k p : Int) (w : World) :
    Calls Try.prog 36 #[.int .i64 k, .int .i64 p] w fun e w' => ∃ v, e = .returned v ∧ StrsN w' v (matL k p) ∧ Below w.heap.size w w' := by
  unfold matL
  cases h : fewN k && fewN p with
  | false =>
    refine (matrix_no k p w h).mono ?_
    rintro e w' ⟨rfl, rfl⟩
    exact ⟨_, rfl, by rw [if_neg (by simp)]; exact strsN_nil w, Below.refl _ _⟩
  | true =>
    rw [Bool.and_eq_true] at h
    obtain ⟨a, b⟩ := fewN_pos h.1
    obtain ⟨c, d⟩ := fewN_pos h.2
    rw [if_pos rfl]
    have := matrix_ok k.toNat p.toNat w (by omega) (by omega) (by omega) (by omega)
    rwa [Int.toNat_of_nonneg (by omega), Int.toNat_of_nonneg (by omega)] at this
set_option maxRecDepth 20000 in
set_option maxHeartbeats 1000000 in
theorem rmatrix_no (k p : Int) (w : World) (h : (fewN k && fewN p) = false) :
    Calls Try.prog 37 #[.int .i64 k, .int .i64 p] w fun e w' => e = .returned (.slice none 0 0) ∧ w = w' := by
  have HK := Lib.hid (fun w => prfew_any k w)
  have HP := Lib.hid (fun w => prfew_any p w)
  cases hk : fewN k with
  | false =>
    rw [hk] at HK
    clear hk h
    go_enter Try.func37, Try.ntmps37
    go_wp2_with fail
    refine (HK.out _).mono ?_
    rintro e w' ⟨rfl, rfl⟩
    go_wp2_with fail
    go_ret
    exact ⟨rfl, rfl⟩
  | true =>
    rw [hk, Bool.true_and] at h
    rw [hk] at HK
    rw [h] at HP
    clear hk h
    go_enter Try.func37, Try.ntmps37
    go_wp2_with fail
    refine (HK.out _).mono ?_
    rintro e w' ⟨rfl, rfl⟩
    go_wp2_with fail
    refine (HP.out _).mono ?_
    rintro e w' ⟨rfl, rfl⟩
    go_wp2_with fail
    go_ret
    exact ⟨rfl, rfl⟩
theorem rmatrix_any (k p : Int) (w : World) :
    Calls Try.prog 37 #[.int .i64 k, .int .i64 p] w fun e w' => ∃ v, e = .returned v ∧ StrsN w' v (matL k p) ∧ Below w.heap.size w w' := by
  unfold matL
  cases h : fewN k && fewN p with
  | false =>
    refine (rmatrix_no k p w h).mono ?_
    rintro e w' ⟨rfl, rfl⟩
    exact ⟨_, rfl, by rw [if_neg (by simp)]; exact strsN_nil w, Below.refl _ _⟩
  | true =>
    rw [Bool.and_eq_true] at h
    obtain ⟨a, b⟩ := fewN_pos h.1
    obtain ⟨c, d⟩ := fewN_pos h.2
    rw [if_pos rfl]
    have := rmatrix_ok k.toNat p.toNat w (by omega) (by omega) (by omega) (by omega)
    rwa [Int.toNat_of_nonneg (by omega), Int.toNat_of_nonneg (by omega)] at this
end Go.Proofs.Ytdgnhnhmcobfkaa
