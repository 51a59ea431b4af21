/- Texts of this claim's author, packed: ShaSum, ShaJoin, ShaPlain, ScrP. Conditions: none. -/
import Derived.Test.YtfpofcfoeajkiaaGreatQR07
import Derived.Test.YtfpofcfoeajkiaaGreatQR01
import Derived.Test.YtfpofcfoeajkiaaGreatQR04
import Derived.Laws.AppendOwnNone
/- (*feeder).sum, its walk. -/
namespace Go.Proofs.YtfpofcfoeajkiaaGreat
open Go.RowKit
set_option linter.unusedVariables false
def word4 (x : UInt32) : List UInt8 := [(x >>> 24).toUInt8, (x >>> 16).toUInt8, (x >>> 8).toUInt8, x.toUInt8]
def hUp (f : Nat → UInt32) (k : Nat) : List UInt8 := (List.range k).flatMap fun i => word4 (f i)
theorem hUp_succ (f : Nat → UInt32) (k : Nat) : hUp f (k + 1) = hUp f k ++ word4 (f k) := by simp [hUp, List.range_succ]
theorem hUp_len (f : Nat → UInt32) (k : Nat) : (hUp f k).length = 4 * k := by
  induction k with
  | zero => rfl
  | succ k ih => rw [hUp_succ, List.length_append, ih]; simp [word4]; omega
/-- byte k of a number -/
def nAt (m k : Nat) : UInt8 := UInt8.ofNat (m / 2 ^ k)
def len8 (m : Nat) : List UInt8 := [nAt m 56, nAt m 48, nAt m 40, nAt m 32, nAt m 24, nAt m 16, nAt m 8, nAt m 0]
theorem nAt_eq (m k : Nat) : ((m / 2 ^ k : Nat) : Int) % 256 = ((nAt m k).toNat : Int) := by
  unfold nAt
  rw [UInt8.toNat_ofNat']
  omega
/-- how many zeros -/
def zeros (n : Nat) : Nat := (119 - n % 64) % 64
theorem zeros_end (n : Nat) : (n + 1 + zeros n) % 64 = 56 := by unfold zeros; omega
theorem zeros_not (n j : Nat) (h : j < zeros n) : (n + 1 + j) % 64 ≠ 56 := by unfold zeros at h; omega
theorem zeros_lt (n : Nat) : zeros n < 64 := by unfold zeros; omega
/-- what is fed at the end -/
def padL (n : Nat) : List UInt8 := [128] ++ List.replicate (zeros n) 0 ++ len8 (8 * n)
def sumS (S : St) : St := feedL S (padL S.n)
def sizeAt (w : World) (p : Nat) : Nat := match w.cell? ⟨p, 8, none⟩ with | some (.int _ n) => n.toNat | _ => 0
theorem sizeAt_of {w : World} {p : Nat} {S : St} (h : FeedS w p S) : sizeAt w p = S.n := by
  have : w.cell? ⟨p, 8, none⟩ = some (.int .u64 S.n) := h.s
  unfold sizeAt; rw [this]; simp
theorem FeedS.below {w w' : World} {p B : Nat} {S : St} (h : FeedS w p S) (hb : Below B w w') (hB : p < B) : FeedS w' p S := Feed.below h hb hB
theorem FeedS.alloc {w : World} {p : Nat} {S : St} (h : FeedS w p S) (o : Obj) : FeedS (w.alloc o) p S := Feed.alloc h o
theorem FeedS.lt {w : World} {p : Nat} {S : St} (h : FeedS w p S) : p < w.heap.size := Feed.lt h
theorem index_hash (B : Array Value) (k : Nat) (v : Value) (h : k < 8) (hg : B[k]? = some v) (W : World) : (Instr.index 85 (.agg B) (.int .i64 (k : Int))).run Tryz.prog W = .ok v W := by
  simp [Instr.index, run_underlying Tryz.underlying85, go_sem, h, hg]
theorem four_str (w : World) (c3 c2 c1 c0 : UInt8) : (convert 83 9 (.slice (some ⟨w.heap.size, 0, none⟩) 4 4)).run Tryz.prog (w.alloc (.cells #[.int .u8 c3.toNat, .int .u8 c2.toNat, .int .u8 c1.toNat, .int .u8 c0.toNat] 5)) = .ok (.string ⟨#[c3, c2, c1, c0]⟩) (w.alloc (.cells #[.int .u8 c3.toNat, .int .u8 c2.toNat, .int .u8 c1.toNat, .int .u8 c0.toNat] 5)) := by
  refine run_bytes_str _ 83 9 5 Tryz.underlying83 Tryz.underlying5 Tryz.underlying9 _ 0 4 4 [c3, c2, c1, c0] rfl ?_
  intro i hi
  have hh : (w.alloc (.cells #[.int .u8 c3.toNat, .int .u8 c2.toNat, .int .u8 c1.toNat, .int .u8 c0.toNat] 5)).heap[w.heap.size]? = some (.cells #[.int .u8 c3.toNat, .int .u8 c2.toNat, .int .u8 c1.toNat, .int .u8 c0.toNat] 5 (0, 0)) := by
    show (w.heap.push _)[w.heap.size]? = _
    simp
  rw [Lib.cell_of_heap hh]
  match i, hi with
  | 0, _ => rfl
  | 1, _ => rfl
  | 2, _ => rfl
  | 3, _ => rfl
set_option maxRecDepth 20000 in
set_option maxHeartbeats 8000000 in
theorem sum_any (p : Nat) (S : St) (w : World) (hF : FeedS w p S) (hn : S.n ≤ 100000000000) :
    Calls Tryz.prog 98 #[.pointer (some ⟨p, 0, none⟩)] w fun e w' => e = .returned (.string ⟨(hUp (sumS S).f 8).toArray⟩) ∧ w.grownBy w' (some p) := by
  have hplt := hF.lt
  have e8 : w.cell? ⟨p, 8, none⟩ = some (.int .u64 S.n) := hF.s
  have HF := Lib.hid hF; clear hF
  have r8 : (S.n : Int) * 8 % 18446744073709551616 = ((8 * S.n : Nat) : Int) := by omega
  go_enter Tryz.func98, Tryz.ntmps98
  go_wp2_with fail
  refine (feed_any p S ⟨#[128]⟩ _ HF.out (by show S.n + 1 ≤ _; omega)).mono ?_
  rintro e w1 ⟨rfl, b1, g1⟩
  have HF1 : Hid (FeedS w1 p (feedL (feedL S [128]) (List.replicate 0 0))) := b1
  have HG1 := Lib.hid g1
  clear b1 g1 e8 HF
  go_wp2_with fail
  obtain ⟨m, hm⟩ : ∃ m : Nat, m = 8 * S.n := ⟨_, rfl⟩
  have rm : (S.n : Int) * 8 = (m : Int) := by omega
  rw [rm]
  clear rm r8
  have HM := Lib.hid hm; clear hm
  go_loopw [] (fun wr => ∃ j : Nat, j ≤ zeros S.n ∧ Hid (FeedS wr p (feedL (feedL S [128]) (List.replicate j 0))) ∧ Hid (w.grownBy wr (some p))) (fun wr => S.n + 200 - sizeAt wr p)
  case atStart => exact ⟨0, Nat.zero_le _, HF1.out, HG1.out⟩
  case round =>
    obtain ⟨j, hj, HR, HG⟩ := hrel
    have HSZ := Lib.hid (sizeAt_of HR.out)
    have hTn : (feedL (feedL S [128]) (List.replicate j 0)).n = S.n + 1 + j := by rw [feedL_n, feedL_n]; simp
    have HTn := Lib.hid hTn; clear hTn
    have hz := zeros_lt S.n
    have e8 : wr.cell? ⟨p, 8, none⟩ = some (.int .u64 ((S.n + 1 + j : Nat) : Int)) := by rw [← HTn.out]; exact HR.out.s
    by_cases hlt : j < zeros S.n
    · have HNX : Hid (feedL (feedL S [128]) (List.replicate (j + 1) 0) = feedL (feedL (feedL S [128]) (List.replicate j 0)) [0]) := by
        unfold Hid; rw [List.replicate_succ', feedL_append (feedL S [128])]
      have hne := zeros_not S.n j hlt
      generalize feedL (feedL S [128]) (List.replicate j 0) = T at *
      obtain ⟨N, hN⟩ : ∃ N : Nat, N = S.n + 1 + j := ⟨_, rfl⟩
      rw [← hN] at e8 hne HTn
      have z1 : ((N : Int) % 64 == 56) = false := by rw [beq_eq_false_iff_ne]; omega
      have z2 : ((N : Int) % 64 != 56) = true := by rw [bne_iff_ne]; omega
      have HN := Lib.hid hN
      clear hne hN
      go_wp2_with fail
      refine (feed_any p T ⟨#[0]⟩ _ HR.out (by rw [HTn.out, HN.out]; show S.n + 1 + j + 1 ≤ _; omega)).mono ?_
      rintro e w2 ⟨rfl, b2, g2⟩
      have HF2 : Hid (FeedS w2 p (feedL T [0])) := b2
      have HG2 : Hid (w.grownBy w2 (some p)) := grown_then HG.out g2
      have HSZ2 : Hid (sizeAt w2 p = N + 1) := by unfold Hid; rw [sizeAt_of b2, feedL_n, HTn.out]; rfl
      clear b2 g2 e8
      go_wp2
      go_roundw
      case rel => exact ⟨j + 1, hlt, by rw [HNX.out]; exact HF2, HG2⟩
      case measure => rw [HSZ.out, HSZ2.out, HTn.out, HN.out]; omega
    · obtain rfl : j = zeros S.n := by omega
      have heq := zeros_end S.n
      generalize hT : feedL (feedL S [128]) (List.replicate (zeros S.n) 0) = T at *
      have HT := Lib.hid hT; clear hT
      obtain ⟨N, hN⟩ : ∃ N : Nat, N = S.n + 1 + zeros S.n := ⟨_, rfl⟩
      rw [← hN] at e8 heq HTn
      have z1 : ((N : Int) % 64 == 56) = true := by rw [beq_iff_eq]; omega
      have z2 : ((N : Int) % 64 != 56) = false := by rw [bne_eq_false_iff_eq]; omega
      have HN := Lib.hid hN
      clear heq hN
      go_wp2_with fail
      have HF3 := Lib.hid (HR.out.alloc (.cells #[.pointer none, .slice none 0 0] 93))
      have HG3 : Hid (w.grownBy (wr.alloc (.cells #[.pointer none, .slice none 0 0] 93)) (some p)) := grown_then HG.out (World.grownBy_alloc wr _ (some p))
      have HB3 := Lib.hid (isBld_fresh wr)
      have hpb : p < wr.heap.size := HR.out.lt
      have hwb : w.heap.size ≤ wr.heap.size := HG.out.size
      have hs3 : (wr.alloc (.cells #[.pointer none, .slice none 0 0] 93)).heap.size = wr.heap.size + 1 := by simp
      generalize (wr.alloc (.cells #[.pointer none, .slice none 0 0] 93)) = w3 at *
      generalize wr.heap.size = b at *
      clear HG HSZ HR e8
      have HS3 := Lib.hid hs3; clear hs3
      have y56 := nAt_eq m 56
      have y48 := nAt_eq m 48
      have y40 := nAt_eq m 40
      have y32 := nAt_eq m 32
      have y24 := nAt_eq m 24
      have y16 := nAt_eq m 16
      have y8 := nAt_eq m 8
      have y0 := nAt_eq m 0
      simp only [Nat.reducePow, Int.natCast_ediv, Int.cast_ofNat_Int, Nat.div_one] at y56 y48 y40 y32 y24 y16 y8 y0
      go_loopw [5] (fun i wr => ∃ j : Nat, j ≤ 8 ∧ i = .int .i64 (56 - 8 * (j : Int)) ∧ Hid (isBld wr b ((len8 m).take j)) ∧ Hid (Below b w3 wr)) (fun i _ => (intOf i + 8).toNat)
      case atStart => exact ⟨0, by omega, rfl, HB3.out, Below.refl _ _⟩
      case round =>
        obtain ⟨j, hj, rfl, HB, HW⟩ := hrel
        have hwr : b < _ := isBld_lt HB.out
        by_cases hlt8 : j < 8
        · have hj8 : j = 0 ∨ j = 1 ∨ j = 2 ∨ j = 3 ∨ j = 4 ∨ j = 5 ∨ j = 6 ∨ j = 7 := by omega
          rcases hj8 with rfl | rfl | rfl | rfl | rfl | rfl | rfl | rfl
          · go_wp2_with fail
            refine (bldByte_ok b _ (nAt m 56) _ HB.out (by show (List.take 0 (len8 m)).length + 1 ≤ _; rw [List.length_take]; omega) (by omega)).mono ?_
            rintro e w5 ⟨rfl, b5, g5⟩
            have HB5 : Hid (isBld w5 b ((len8 m).take (0 + 1))) := b5
            have HW5 := Lib.hid (HW.out.trans g5)
            clear b5 g5
            go_wp2
            go_roundw
            case rel => exact ⟨0 + 1, by omega, by go_num, HB5, HW5⟩
            case measure => simp [intOf]
          · go_wp2_with fail
            refine (bldByte_ok b _ (nAt m 48) _ HB.out (by show (List.take 1 (len8 m)).length + 1 ≤ _; rw [List.length_take]; omega) (by omega)).mono ?_
            rintro e w5 ⟨rfl, b5, g5⟩
            have HB5 : Hid (isBld w5 b ((len8 m).take (1 + 1))) := b5
            have HW5 := Lib.hid (HW.out.trans g5)
            clear b5 g5
            go_wp2
            go_roundw
            case rel => exact ⟨1 + 1, by omega, by go_num, HB5, HW5⟩
            case measure => simp [intOf]
          · go_wp2_with fail
            refine (bldByte_ok b _ (nAt m 40) _ HB.out (by show (List.take 2 (len8 m)).length + 1 ≤ _; rw [List.length_take]; omega) (by omega)).mono ?_
            rintro e w5 ⟨rfl, b5, g5⟩
            have HB5 : Hid (isBld w5 b ((len8 m).take (2 + 1))) := b5
            have HW5 := Lib.hid (HW.out.trans g5)
            clear b5 g5
            go_wp2
            go_roundw
            case rel => exact ⟨2 + 1, by omega, by go_num, HB5, HW5⟩
            case measure => simp [intOf]
          · go_wp2_with fail
            refine (bldByte_ok b _ (nAt m 32) _ HB.out (by show (List.take 3 (len8 m)).length + 1 ≤ _; rw [List.length_take]; omega) (by omega)).mono ?_
            rintro e w5 ⟨rfl, b5, g5⟩
            have HB5 : Hid (isBld w5 b ((len8 m).take (3 + 1))) := b5
            have HW5 := Lib.hid (HW.out.trans g5)
            clear b5 g5
            go_wp2
            go_roundw
            case rel => exact ⟨3 + 1, by omega, by go_num, HB5, HW5⟩
            case measure => simp [intOf]
          · go_wp2_with fail
            refine (bldByte_ok b _ (nAt m 24) _ HB.out (by show (List.take 4 (len8 m)).length + 1 ≤ _; rw [List.length_take]; omega) (by omega)).mono ?_
            rintro e w5 ⟨rfl, b5, g5⟩
            have HB5 : Hid (isBld w5 b ((len8 m).take (4 + 1))) := b5
            have HW5 := Lib.hid (HW.out.trans g5)
            clear b5 g5
            go_wp2
            go_roundw
            case rel => exact ⟨4 + 1, by omega, by go_num, HB5, HW5⟩
            case measure => simp [intOf]
          · go_wp2_with fail
            refine (bldByte_ok b _ (nAt m 16) _ HB.out (by show (List.take 5 (len8 m)).length + 1 ≤ _; rw [List.length_take]; omega) (by omega)).mono ?_
            rintro e w5 ⟨rfl, b5, g5⟩
            have HB5 : Hid (isBld w5 b ((len8 m).take (5 + 1))) := b5
            have HW5 := Lib.hid (HW.out.trans g5)
            clear b5 g5
            go_wp2
            go_roundw
            case rel => exact ⟨5 + 1, by omega, by go_num, HB5, HW5⟩
            case measure => simp [intOf]
          · go_wp2_with fail
            refine (bldByte_ok b _ (nAt m 8) _ HB.out (by show (List.take 6 (len8 m)).length + 1 ≤ _; rw [List.length_take]; omega) (by omega)).mono ?_
            rintro e w5 ⟨rfl, b5, g5⟩
            have HB5 : Hid (isBld w5 b ((len8 m).take (6 + 1))) := b5
            have HW5 := Lib.hid (HW.out.trans g5)
            clear b5 g5
            go_wp2
            go_roundw
            case rel => exact ⟨6 + 1, by omega, by go_num, HB5, HW5⟩
            case measure => simp [intOf]
          · go_wp2_with fail
            refine (bldByte_ok b _ (nAt m 0) _ HB.out (by show (List.take 7 (len8 m)).length + 1 ≤ _; rw [List.length_take]; omega) (by omega)).mono ?_
            rintro e w5 ⟨rfl, b5, g5⟩
            have HB5 : Hid (isBld w5 b ((len8 m).take (7 + 1))) := b5
            have HW5 := Lib.hid (HW.out.trans g5)
            clear b5 g5
            go_wp2
            go_roundw
            case rel => exact ⟨7 + 1, by omega, by go_num, HB5, HW5⟩
            case measure => simp [intOf]
        · obtain rfl : j = 8 := by omega
          have HB8 : Hid (isBld wr b (len8 m)) := HB.out
          have HF5 := Lib.hid (HF3.out.below HW.out hpb)
          have HG5 := Lib.hid (grown_low HG3.out HW.out hwb)
          have hn0 : len8 m ≠ [] := by simp [len8]
          have HN0 := Lib.hid hn0
          clear HB HW HF3 HG3 hn0 y56 y48 y40 y32 y24 y16 y8 y0 HB3
          go_wp2_with fail
          refine (bldString_keep b _ _ HB8.out HN0.out).mono ?_
          rintro e w6 ⟨rfl, g6, bp, bv, hb6⟩
          have HF6 := Lib.hid (HF5.out.below g6 hpb)
          have HG6 := Lib.hid (grown_low HG5.out g6 hwb)
          have HH6 := Lib.hid hb6
          clear g6 hb6 HF5 HG5 HB8
          go_wp2_with fail
          refine (feed_any p T ⟨(len8 m).toArray⟩ _ HF6.out (by rw [HTn.out, HN.out]; show S.n + 1 + zeros S.n + 8 ≤ _; omega)).mono ?_
          rintro e w7 ⟨rfl, b7, g7⟩
          have HT7 : Hid (feedL T (len8 m) = sumS S) := by
            unfold Hid sumS padL; rw [← HT.out, HM.out, feedL_append, feedL_append]
          have HF7 : Hid (FeedS w7 p (sumS S)) := by rw [← HT7.out]; exact b7
          have HG7 := Lib.hid (grown_then HG6.out g7)
          have HH7 : Hid (w7.heap[b]? = some (.cells #[bp, bv] 93 (0, 0))) := (g7.block b (by
            refine Decidable.byContradiction fun hh => ?_
            have := HH6.out
            rw [Array.getElem?_eq_none (by omega)] at this; cases this) (by simp; omega)).trans HH6.out
          clear b7 g7 HF6 HG6 HH6
          generalize hZ : sumS S = Z at *
          have HZ := Lib.hid hZ; clear hZ
          go_wp2_with fail
          refine (bldReset_ok b bp bv _ HH7.out).mono ?_
          rintro e w8 ⟨rfl, b8, g8⟩
          have HF8 := Lib.hid (HF7.out.below g8 hpb)
          have HG8 := Lib.hid (grown_low HG7.out g8 hwb)
          have HB8 := Lib.hid b8
          clear g8 b8 HF7 HG7 HH7 HT7 HTn HT HN HM
          obtain ⟨F, n, part⟩ := Z
          obtain ⟨A, hA⟩ : ∃ A, A = cellsOf 8 F := ⟨_, rfl⟩
          have HRA : Hid (w8.rangeAt p 0 A.toList) := by rw [hA]; exact HF8.out.h
          have HlA : Hid ((Tryz.prog.info? 85).map (·.size) = some A.toList.length) := by unfold Hid; rw [Array.length_toList, hA, cellsOf_size]; kernel_rfl
          have HAA := Lib.hid hA; clear hA
          go_wp2_with (refine wpList_load_mid rfl 85 _ rfl p 0 rfl A.toList _ HRA.out Tryz.underlying85 rfl HlA.out ?_)
          have hb8 := isBld_lt HB8.out
          clear HRA HlA
          go_loopw [43] (fun i wr => ∃ k : Nat, k ≤ 8 ∧ i = .int .i64 k ∧ Hid (isBld wr b (hUp F k)) ∧ Hid (Below b w8 wr)) (fun i _ => 8 - (intOf i).toNat)
          case atStart => exact ⟨0, by omega, rfl, HB8.out, Below.refl _ _⟩
          case round =>
            obtain ⟨k, hk, rfl, HB, HW⟩ := hrel
            have hbw := isBld_lt HB.out
            by_cases hlt8 : k < 8
            · have hix := fun W => index_hash A k _ hlt8 (by rw [HAA.out]; exact cellsOf_get _ hlt8) W
              have HNX := Lib.hid (hUp_succ F k)
              have hW4 : word4 (F k) = word4 (F k) := rfl
              generalize F k = x at *
              have y3 := by3 x
              have y2 := by2 x
              have y1 := by1 x
              have y0 := by0 x
              have HL4 : Hid (word4 x = [(x >>> 24).toUInt8, (x >>> 16).toUInt8, (x >>> 8).toUInt8, x.toUInt8]) := rfl
              generalize (x >>> 24).toUInt8 = c3 at *
              generalize (x >>> 16).toUInt8 = c2 at *
              generalize (x >>> 8).toUInt8 = c1 at *
              generalize x.toUInt8 = c0 at *
              have lk : (k : Int) < 8 := by omega
              clear hW4
              have y3' : (c3.toNat : Int) % 256 = (c3.toNat : Int) := by have := c3.toNat_lt; omega
              have hcv := four_str wr c3 c2 c1 c0
              go_wp2_with fail
              refine (bldText_ok b _ ⟨#[c3, c2, c1, c0]⟩ _ (isBld_alloc HB.out hpb _) (by rw [hUp_len]; show 4 * k + 4 ≤ _; omega) (by simp; omega)).mono ?_
              rintro e w9 ⟨rfl, b9, g9⟩
              have HB9 : Hid (isBld w9 b (hUp F (k + 1))) := by rw [HNX.out, HL4.out]; exact b9
              have HW9 := Lib.hid ((HW.out.alloc (by have := HW.out.size; omega) _).trans g9)
              clear b9 g9
              go_wp2
              go_roundw
              case rel => exact ⟨k + 1, by omega, by go_num, HB9, HW9⟩
              case measure => simp [intOf]; omega
            · obtain rfl : k = 8 := by omega
              have hn8 : hUp F 8 ≠ [] := by intro e; have := hUp_len F 8; rw [e] at this; cases this
              have HN8 := Lib.hid hn8
              clear hn8
              go_wp2_with fail
              refine (bldString_ok b _ _ HB.out HN8.out).mono ?_
              rintro e w9 ⟨rfl, g9⟩
              go_wp2
              go_ret
              exact ⟨by rw [HZ.out]; rfl, grown_low (grown_low HG8.out HW.out hwb) g9 hwb⟩
end Go.Proofs.YtfpofcfoeajkiaaGreat
/- Join and Sum: their walks. -/
namespace Go.Proofs.YtfpofcfoeajkiaaGreat
open Go.RowKit
set_option linter.unusedVariables false
/-- the slice v holds the texts l -/
def Texts (w : World) (A : Option Addr) (l : List ByteArray) : Prop :=
  0 < l.length → ∃ b off, A = some ⟨b, off, none⟩ ∧ b < w.heap.size ∧ ∀ j, j < l.length → w.cell? ⟨b, off + j, none⟩ = (l[j]?).map .string
theorem Texts.below {w w' : World} {A : Option Addr} {l : List ByteArray} (h : Texts w A l) (hb : Below w.heap.size w w') : Texts w' A l := fun hl => by
  obtain ⟨b, off, e1, e2, e3⟩ := h hl
  exact ⟨b, off, e1, Nat.lt_of_lt_of_le e2 hb.size, fun j hj => (hb.cell (p := ⟨b, off + j, none⟩) e2).trans (e3 j hj)⟩
def S0 : St := ⟨fun i => shaFirst.getD i 0, 0, fun _ => 0⟩
def C73 : Array Value := cellsOf 8 (fun i => shaFirst.getD i 0) ++ #[.int .u64 0] ++ bytesOf 64 (fun _ => 0)
theorem C73_get (j : Nat) : C73[j]? = if j < 8 then (cellsOf 8 (fun i => shaFirst.getD i 0))[j]? else if j = 8 then some (.int .u64 0) else (bytesOf 64 (fun _ => 0))[j - 9]? := by
  unfold C73
  rw [Array.getElem?_append, Array.getElem?_append]
  simp only [Array.size_append, cellsOf_size, List.size_toArray, List.length_cons, List.length_nil]
  by_cases h1 : j < 8
  · rw [if_pos (by omega), if_pos h1, if_pos h1]
  · rw [if_neg h1, if_neg h1]
    by_cases h2 : j = 8
    · subst h2; rfl
    · rw [if_neg (by omega), if_neg h2]
theorem C73_size : C73.size = 73 := by simp [C73, cellsOf_size, bytesOf_size]
theorem feed_new (w : World) : FeedS (w.alloc (.cells C73 141)) w.heap.size S0 := by
  have hh : (w.alloc (.cells C73 141)).heap[w.heap.size]? = some (.cells C73 141 (0, 0)) := by
    show (w.heap.push _)[w.heap.size]? = _
    simp
  have hc : ∀ j, (w.alloc (.cells C73 141)).cell? ⟨w.heap.size, j, none⟩ = C73[j]? := fun j => Lib.cell_of_heap hh j
  refine ⟨fun j v hj => ?_, ?_, fun j v hj => ?_, fun j hj => ⟨?_, ?_⟩⟩
  · have h8 : j < 8 := by
      have := (List.getElem?_eq_some_iff.1 hj).1
      rw [Array.length_toList, cellsOf_size] at this; exact this
    rw [hc, Nat.zero_add, C73_get, if_pos h8]
    rw [← Array.getElem?_toList]; exact hj
  · rw [hc, C73_get]; rfl
  · rw [hc, C73_get, if_neg (by omega), if_neg (by omega), show 9 + j - 9 = j by omega]
    rw [← Array.getElem?_toList]; exact hj
  · rw [Nat.zero_add, hc, Array.getElem?_eq_getElem (by rw [C73_size]; exact hj)]; rfl
  · exact Lib.frozen_of_heap hh _
def allT (l : List ByteArray) : List UInt8 := l.flatMap (·.data.toList)
def shaSum (l : List UInt8) : ByteArray := ⟨(hUp (sumS (feedL S0 l)).f 8).toArray⟩
theorem below_grown {w wr w' : World} {p : Nat} (h : Below w.heap.size w wr) (g : wr.grownBy w' (some p)) (hp : w.heap.size ≤ p) : Below w.heap.size w w' :=
  ⟨g.os.trans h.os, g.tape.trans h.tape, g.output.trans h.output, Nat.le_trans h.size g.size, fun i hi => (g.block i (Nat.lt_of_lt_of_le hi h.size) (by simp; omega)).trans (h.block i hi)⟩
set_option maxRecDepth 20000 in
set_option maxHeartbeats 8000000 in
theorem join_any (A : Option Addr) (c : Nat) (l : List ByteArray) (w : World) (hA : Texts w A l) (hl : (allT l).length ≤ 100000000000) (hll : l.length ≤ 100000000000) :
    Calls Tryz.prog 73 #[.slice A l.length c] w fun e w' => e = .returned (.string (shaSum (allT l))) ∧ Below w.heap.size w w' := by
  have HA := Lib.hid hA; clear hA
  go_enter Tryz.func73, Tryz.ntmps73
  go_wp2_with fail
  refine (first_any _).mono ?_
  rintro e w1 ⟨rfl, b1⟩
  rw [← lit8]
  go_wp2_with (refine wpList_build_to rfl 141 _ rfl C73 (by kernel_rfl) ?_)
  have HF0 := Lib.hid (feed_new w1)
  have HB0 := Lib.hid (b1.alloc b1.size (.cells C73 141))
  have hpw : w.heap.size ≤ w1.heap.size := b1.size
  clear b1
  generalize (w1.alloc (.cells C73 141)) = w2 at *
  generalize w1.heap.size = p at *
  clear w1
  go_loopw [12] (fun i wr => ∃ k : Nat, k ≤ l.length ∧ i = .int .i64 k ∧ Hid (FeedS wr p (feedL S0 (allT (l.take k)))) ∧ Hid (Below w.heap.size w wr)) (fun i _ => l.length - (intOf i).toNat)
  case atStart => exact ⟨0, Nat.zero_le _, rfl, HF0.out, HB0.out⟩
  case round =>
    obtain ⟨k, hk, rfl, HR, HW⟩ := hrel
    by_cases hlt : k < l.length
    · obtain ⟨bb, off, rfl, h2, h3⟩ := HA.out (by omega)
      obtain ⟨x, hx⟩ : ∃ x, l[k]? = some x := ⟨l[k], List.getElem?_eq_getElem hlt⟩
      have ek : wr.cell? ⟨bb, off + k, none⟩ = some (.string x) := by
        have := (HW.out.cell (p := ⟨bb, off + k, none⟩) h2).trans (h3 k hlt)
        rw [this, hx]; rfl
      have hT : l.take (k + 1) = l.take k ++ [x] := by
        rw [List.take_add_one, hx]; rfl
      have hsz : (allT (l.take (k + 1))).length ≤ (allT l).length := by
        have : allT l = allT (l.take (k + 1)) ++ allT (l.drop (k + 1)) := by unfold allT; rw [← List.flatMap_append, List.take_append_drop]
        rw [this, List.length_append]; omega
      have hN : feedL S0 (allT (l.take (k + 1))) = feedL (feedL S0 (allT (l.take k))) x.data.toList := by
        rw [hT, ← feedL_append]; congr 1; simp [allT]
      have hnn : (feedL S0 (allT (l.take k))).n + x.size ≤ 1000000000000 := by
        have e1 : (feedL S0 (allT (l.take (k + 1)))).n ≤ (allT l).length := by rw [feedL_n]; show 0 + _ ≤ _; omega
        rw [hN, feedL_n] at e1
        have : x.data.toList.length = x.size := by simp
        omega
      have HN := Lib.hid hN
      have HNN := Lib.hid hnn
      clear hN hnn hsz hT hx h3 h2
      generalize feedL S0 (allT (l.take k)) = T at *
      have lk : (k : Int) < (l.length : Int) := by omega
      have pk : (0 : Int) ≤ (k : Int) := by omega
      go_wp2_with fail
      refine (feed_any p T x _ HR.out HNN.out).mono ?_
      rintro e w3 ⟨rfl, b3, g3⟩
      have HF3 : Hid (FeedS w3 p (feedL S0 (allT (l.take (k + 1))))) := by rw [HN.out]; exact b3
      have HW3 := Lib.hid (below_grown HW.out g3 hpw)
      clear b3 g3
      go_wp2
      go_roundw
      case rel => exact ⟨k + 1, hlt, by go_num, HF3, HW3⟩
      case measure => simp [intOf]; omega
    · obtain rfl : k = l.length := by omega
      have HT : Hid (feedL S0 (allT (l.take l.length)) = feedL S0 (allT l)) := by rw [List.take_length]; rfl
      have hTn : (feedL S0 (allT l)).n ≤ 100000000000 := by rw [feedL_n]; show 0 + _ ≤ _; omega
      have HR : Hid (FeedS wr p (feedL S0 (allT l))) := by rw [← HT.out]; exact HR.out
      clear HT
      have HV : Hid (shaSum (allT l) = ⟨(hUp (sumS (feedL S0 (allT l))).f 8).toArray⟩) := rfl
      generalize feedL S0 (allT l) = T at *
      go_wp2_with fail
      refine (sum_any p T _ HR.out hTn).mono ?_
      rintro e w3 ⟨rfl, g3⟩
      go_wp2
      go_ret
      exact ⟨by rw [HV.out]; rfl, below_grown HW.out g3 hpw⟩
theorem texts_one (w : World) (x : ByteArray) : Texts (w.alloc (.cells #[.string x] 9)) (some ⟨w.heap.size, 0, none⟩) [x] := fun _ => by
  have hh : (w.alloc (.cells #[.string x] 9)).heap[w.heap.size]? = some (.cells #[.string x] 9 (0, 0)) := by
    show (w.heap.push _)[w.heap.size]? = _
    simp
  refine ⟨_, 0, rfl, by simp, fun j hj => ?_⟩
  rw [Lib.cell_of_heap hh]
  simp at hj
  subst hj
  rfl
set_option maxRecDepth 20000 in
theorem shaSum_any (s : ByteArray) (w : World) (hs : s.size ≤ 100000000000) :
    Calls Tryz.prog 44 #[.string s] w fun e w' => e = .returned (.string (shaSum s.data.toList)) ∧ Below w.heap.size w w' := by
  have hl : allT [s] = s.data.toList := by simp [allT]
  have hn : s.data.toList.length = s.size := by simp
  have hJ := join_any (some ⟨w.heap.size, 0, none⟩) 1 [s] _ (texts_one w s) (by rw [hl, hn]; exact hs) (by show 1 ≤ _; omega)
  rw [hl] at hJ
  have HJ := Lib.hid hJ; clear hJ hl hn
  go_enter Tryz.func44, Tryz.ntmps44
  go_wp2_with fail
  refine HJ.out.mono ?_
  rintro e w1 ⟨rfl, b1⟩
  go_wp2
  go_ret
  exact ⟨rfl, ((Below.refl _ _).alloc (Nat.le_refl _) _).trans (b1.mono (by simp))⟩
end Go.Proofs.YtfpofcfoeajkiaaGreat
/- Plain: feeding byte by byte is taking block by block. -/
namespace Go.Proofs.YtfpofcfoeajkiaaGreat
set_option linter.unusedVariables false
/-- q blocks of l, one by one -/
def blocksF (f : Nat → UInt32) (l : List UInt8) : Nat → (Nat → UInt32)
  | 0 => f
  | q + 1 => blocksF (blockF f (l.take 64)) (l.drop 64) q
theorem getD_snoc (l : List UInt8) (c : UInt8) (i : Nat) (hi : i < l.length + 1) : (l ++ [c]).getD i 0 = if i = l.length then c else l.getD i 0 := by
  rw [List.getD_eq_getElem?_getD, List.getElem?_append]
  by_cases h : i = l.length
  · subst h; simp
  · rw [if_pos (by omega), if_neg h, List.getD_eq_getElem?_getD]
theorem snoc_of (l : List UInt8) (m : Nat) (h : l.length = m + 1) : ∃ l0 c, l = l0 ++ [c] ∧ l0.length = m := by
  have h0 : l ≠ [] := by intro e; subst e; simp at h
  exact ⟨l.dropLast, l.getLast h0, (List.dropLast_concat_getLast h0).symm, by simp [h]⟩
/-- the part that is filled: its first bytes are those of l -/
theorem feedL_part (f : Nat → UInt32) (n : Nat) (part : Nat → UInt8) (hn : n % 64 = 0) (m : Nat) : ∀ (l : List UInt8), l.length = m → m < 64 →
    ∃ P, feedL ⟨f, n, part⟩ l = ⟨f, n + m, P⟩ ∧ ∀ i, i < m → P i = l.getD i 0 := by
  induction m with
  | zero =>
    intro l hm _
    have : l = [] := List.eq_nil_of_length_eq_zero hm
    subst this
    exact ⟨part, rfl, fun i hi => absurd hi (by omega)⟩
  | succ m ih =>
    intro l hm hlt
    obtain ⟨l0, c, rfl, h0⟩ := snoc_of l m hm
    obtain ⟨P, h1, h2⟩ := ih l0 h0 (by omega)
    have hq : (n + m) % 64 = m := by omega
    rw [feedL_snoc, h1]
    unfold feed1
    dsimp only
    rw [hq, if_neg (by omega)]
    refine ⟨_, rfl, fun i hi => ?_⟩
    unfold updB
    rw [getD_snoc _ _ _ (by omega), h0]
    by_cases h : i = m
    · rw [if_pos h, if_pos h]
    · rw [if_neg h, if_neg h, h2 i (by omega)]
theorem partL_of (P : Nat → UInt8) (l : List UInt8) (hl : l.length = 64) (h : ∀ i, i < 64 → P i = l.getD i 0) : partL P = l := by
  apply List.ext_getElem?
  intro i
  by_cases hi : i < 64
  · have e1 : (partL P)[i]? = some (P i) := by simp [partL, hi]
    rw [e1, h i hi, List.getD_eq_getElem?_getD, List.getElem?_eq_getElem (by omega)]
    rfl
  · rw [List.getElem?_eq_none (by rw [partL_len]; omega), List.getElem?_eq_none (by omega)]
theorem feedL_block (f : Nat → UInt32) (n : Nat) (part : Nat → UInt8) (hn : n % 64 = 0) (l : List UInt8) (hl : l.length = 64) :
    ∃ P, feedL ⟨f, n, part⟩ l = ⟨blockF f l, n + 64, P⟩ := by
  obtain ⟨l0, c, rfl, h0⟩ := snoc_of l 63 hl
  obtain ⟨P, h1, h2⟩ := feedL_part f n part hn 63 l0 h0 (by omega)
  have hq : (n + 63) % 64 = 63 := by omega
  have hp : partL (updB P 63 c) = l0 ++ [c] := partL_of _ _ hl (fun i hi => by
    unfold updB
    rw [getD_snoc _ _ _ (by omega), h0]
    by_cases h : i = 63
    · rw [if_pos h, if_pos h]
    · rw [if_neg h, if_neg h, h2 i (by omega)])
  rw [feedL_snoc, h1]
  unfold feed1
  dsimp only
  rw [hq, if_pos rfl, hp]
  exact ⟨_, rfl⟩
theorem feedL_blocks : ∀ (q : Nat) (f : Nat → UInt32) (n : Nat) (part : Nat → UInt8) (hn : n % 64 = 0) (l : List UInt8) (hl : l.length = 64 * q),
    ∃ P, feedL ⟨f, n, part⟩ l = ⟨blocksF f l q, n + 64 * q, P⟩
  | 0, f, n, part, hn, l, hl => by
    have : l = [] := List.eq_nil_of_length_eq_zero hl
    subst this
    exact ⟨part, rfl⟩
  | q + 1, f, n, part, hn, l, hl => by
    have e : l = l.take 64 ++ l.drop 64 := (List.take_append_drop 64 l).symm
    obtain ⟨P, h1⟩ := feedL_block f n part hn (l.take 64) (by rw [List.length_take]; omega)
    obtain ⟨P2, h2⟩ := feedL_blocks q (blockF f (l.take 64)) (n + 64) P (by omega) (l.drop 64) (by rw [List.length_drop]; omega)
    refine ⟨P2, ?_⟩
    rw [e, feedL_append, h1, h2, ← e]
    rw [show n + 64 + 64 * q = n + 64 * (q + 1) by omega]
    rfl
theorem blocksF_snoc : ∀ (q : Nat) (f : Nat → UInt32) (l : List UInt8), blocksF f l (q + 1) = blockF (blocksF f l q) ((l.drop (64 * q)).take 64)
  | 0, f, l => rfl
  | q + 1, f, l => by
    show blocksF (blockF f (l.take 64)) (l.drop 64) (q + 1) = blockF (blocksF (blockF f (l.take 64)) (l.drop 64) q) _
    rw [blocksF_snoc q, List.drop_drop, show 64 + 64 * q = 64 * (q + 1) by omega]
/-- a text, filled up -/
def padOf (l : List UInt8) : List UInt8 := l ++ padL l.length
def nBlk (n : Nat) : Nat := (n + 9 + zeros n) / 64
theorem padL_len (n : Nat) : (padL n).length = 9 + zeros n := by simp [padL, len8]; omega
theorem padOf_len (l : List UInt8) : (padOf l).length = 64 * nBlk l.length := by
  have := zeros_end l.length
  rw [padOf, List.length_append, padL_len]; unfold nBlk; omega
def H0 (i : Nat) : UInt32 := shaFirst.getD i 0
theorem shaSum_eq (l : List UInt8) : shaSum l = ⟨(hUp (blocksF H0 (padOf l) (nBlk l.length)) 8).toArray⟩ := by
  have e : sumS (feedL S0 l) = feedL S0 (padOf l) := by
    unfold sumS padOf
    rw [feedL_append, feedL_n]
    show feedL _ (padL (0 + l.length)) = _
    rw [Nat.zero_add]
  obtain ⟨P, h⟩ := feedL_blocks (nBlk l.length) H0 0 (fun _ => 0) rfl (padOf l) (padOf_len l)
  unfold shaSum
  rw [e, show feedL S0 (padOf l) = _ from h]
theorem shaSum_data (l : List UInt8) : (shaSum l).data.toList = hUp (blocksF H0 (padOf l) (nBlk l.length)) 8 := by rw [shaSum_eq]
theorem shaSum_size (l : List UInt8) : (shaSum l).size = 32 := by
  have : (shaSum l).data.toList.length = 32 := by rw [shaSum_data, hUp_len]
  simpa using this
end Go.Proofs.YtfpofcfoeajkiaaGreat
/- Plain: shards, wards, their bytes; rows of shards in memory. -/
namespace Go.Proofs.YtfpofcfoeajkiaaGreat
open Go.ChangeShapes Go.WideShapes Go.ChangeAt Go.RowKit
set_option linter.unusedVariables false
set_option linter.unusedSimpArgs false
abbrev Shd := Int × ByteArray × ByteArray
abbrev shCells (l : List Shd) : List Value := l.flatMap (ES3 (EInt .i64) EStr EStr)
theorem shCells_len (l : List Shd) : (shCells l).length = l.length * 3 := by
  induction l with
  | nil => rfl
  | cons o l ih => show ([Value.int .i64 o.1, .string o.2.1, .string o.2.2] ++ shCells l).length = _; rw [List.length_append, ih, List.length_cons]; simp; omega
theorem shCells_append (l m : List Shd) : shCells (l ++ m) = shCells l ++ shCells m := by simp [shCells]
theorem shCells_mem {l : List Shd} {u : Value} (h : u ∈ shCells l) : u.oneCell' = true := by
  obtain ⟨o, _, h2⟩ := List.mem_flatMap.1 h
  simp [ES3, EStr, EInt] at h2
  rcases h2 with rfl | rfl | rfl <;> rfl
theorem sh_get : ∀ (l : List Shd) (i : Nat) (h : i < l.length), (shCells l)[i * 3]? = some (.int .i64 l[i].1) ∧ (shCells l)[i * 3 + 1]? = some (.string l[i].2.1) ∧ (shCells l)[i * 3 + 2]? = some (.string l[i].2.2)
  | o :: l, 0, _ => ⟨rfl, rfl, rfl⟩
  | o :: l, i + 1, h => by
    have ih := sh_get l i (by simpa using h)
    have e : ∀ k, (shCells (o :: l))[(i + 1) * 3 + k]? = (shCells l)[i * 3 + k]? := fun k => by
      show ([Value.int .i64 o.1, .string o.2.1, .string o.2.2] ++ shCells l)[(i + 1) * 3 + k]? = _
      rw [List.getElem?_append_right (by simp; omega)]
      congr 1
      simp; omega
    exact ⟨(e 0).trans ih.1, (e 1).trans ih.2.1, (e 2).trans ih.2.2⟩
/-- shards, readable -/
def ShdB (w : World) (v : Value) (l : List Shd) : Prop :=
  ∃ A c, v = .slice A l.length c ∧ l.length ≤ c ∧ c ≤ maxLen ∧ (0 < l.length → ∃ b off, A = some ⟨b, off, none⟩ ∧ b < w.heap.size ∧ ∀ i (h : i < l.length), w.cell? ⟨b, off + i * 3, none⟩ = some (.int .i64 l[i].1) ∧ w.cell? ⟨b, off + i * 3 + 1, none⟩ = some (.string l[i].2.1) ∧ w.cell? ⟨b, off + i * 3 + 2, none⟩ = some (.string l[i].2.2))
theorem ShdB.below {w w' : World} {v : Value} {l : List Shd} {B : Nat} (h : ShdB w v l) (hb : Below B w w') (hB : w.heap.size ≤ B) : ShdB w' v l := by
  obtain ⟨A, c, h1, h2, h3, h4⟩ := h
  refine ⟨A, c, h1, h2, h3, fun hl => ?_⟩
  obtain ⟨b, off, e1, e2, e3⟩ := h4 hl
  have hk := hb.block b (Nat.lt_of_lt_of_le e2 hB)
  exact ⟨b, off, e1, Nat.lt_of_lt_of_le e2 hb.size, fun i hi => ⟨(World.cell?_of_block hk).trans (e3 i hi).1, (World.cell?_of_block hk).trans (e3 i hi).2.1, (World.cell?_of_block hk).trans (e3 i hi).2.2⟩⟩
theorem ShdB.kept {w w' : World} {v : Value} {l : List Shd} (h : ShdB w v l) (hk : ∀ b o n c, v = .slice (some ⟨b, o, none⟩) n c → w'.heap[b]? = w.heap[b]?) (hs : w.heap.size ≤ w'.heap.size) : ShdB w' v l := by
  obtain ⟨A, c, h1, h2, h3, h4⟩ := h
  refine ⟨A, c, h1, h2, h3, fun hl => ?_⟩
  obtain ⟨b, off, e1, e2, e3⟩ := h4 hl
  have hk := hk b off _ _ (by rw [h1, e1])
  exact ⟨b, off, e1, Nat.lt_of_lt_of_le e2 hs, fun i hi => ⟨(World.cell?_of_block hk).trans (e3 i hi).1, (World.cell?_of_block hk).trans (e3 i hi).2.1, (World.cell?_of_block hk).trans (e3 i hi).2.2⟩⟩
theorem shd_of_sl {w : World} {A : Option Addr} {n c : Nat} {l : List Shd} (h : Sl w A n c 3 (shCells l)) (hn : l.length = n) : ShdB w (.slice A n c) l := by
  refine ⟨A, c, by rw [hn], by rw [hn]; exact h.le, h.cap, fun hl => ?_⟩
  obtain ⟨b, off, e1, e2, e3⟩ := h.cells (by omega)
  refine ⟨b, off, e1, e2, fun i hi => ?_⟩
  obtain ⟨g1, g2, g3⟩ := sh_get l i hi
  exact ⟨(e3 (i * 3) (by omega)).trans g1, by rw [Nat.add_assoc]; exact (e3 (i * 3 + 1) (by omega)).trans g2, by rw [Nat.add_assoc]; exact (e3 (i * 3 + 2) (by omega)).trans g3⟩
theorem ShdB.of_owns {w : World} {v : Value} {l : List Shd} {B : Nat} (h : w.ownsRow B 46 3 v l.length (shCells l)) : ShdB w v l := by
  have h0 := h
  rcases h.2 with ⟨hv, h0⟩ | ⟨g, cap, cur, hv, hb, hg, hn, hm, hc, ht⟩
  · exact ⟨none, 0, by rw [hv, h0], by omega, by unfold maxLen; omega, fun hl => by omega⟩
  · refine ⟨some ⟨g, 0, none⟩, cap, hv, hn, hm, fun hl => ⟨g, 0, rfl, (Array.getElem?_eq_some_iff.1 hg).1, fun i hi => ?_⟩⟩
    obtain ⟨g1, g2, g3⟩ := sh_get l i hi
    have c1 := h.cells (g := g) (by rw [hv]; rfl) (i * 3) _ g1
    have c2 := h.cells (g := g) (by rw [hv]; rfl) (i * 3 + 1) _ g2
    have c3 := h.cells (g := g) (by rw [hv]; rfl) (i * 3 + 2) _ g3
    rw [add_eq] at c1 c2 c3
    exact ⟨c1, by rw [Nat.add_assoc]; exact c2, by rw [Nat.add_assoc]; exact c3⟩
theorem ShdB.shape {w : World} {v : Value} {l : List Shd} (h : ShdB w v l) : ∃ A c, v = .slice A l.length c ∧ l.length ≤ c ∧ c ≤ maxLen := by
  obtain ⟨A, c, h1, h2, h3, _⟩ := h
  exact ⟨A, c, h1, h2, h3⟩
def fewK (n : Int) : Bool := decide (0 < n) && decide (n ≤ 16)
/-- the shards stand at their places, with sums of a key's length -/
def fitL (i : Nat) : List Shd → Bool
  | [] => true
  | x :: r => decide (x.1 = (i : Int)) && decide (x.2.2.size = 32) && fitL (i + 1) r
def fitW (K P Z : Int) (l : List Shd) : Bool := fewK K && fewK P && decide (0 ≤ Z ∧ Z ≤ 65536) && decide ((l.length : Int) = K + P) && fitL 0 l
theorem fitL_step (l : List Shd) (i : Nat) (h : i < l.length) : fitL i (l.drop i) = (decide (l[i].1 = (i : Int)) && decide (l[i].2.2.size = 32) && fitL (i + 1) (l.drop (i + 1))) := by
  rw [List.drop_eq_getElem_cons h]; rfl
theorem fitL_get : ∀ {l : List Shd} {k : Nat}, fitL k l = true → ∀ i (h : i < l.length), l[i].1 = ((k + i : Nat) : Int) ∧ l[i].2.2.size = 32
  | [], _, _, i, h => absurd h (Nat.not_lt_zero _)
  | x :: r, k, hf, 0, h => by
    simp [fitL] at hf
    exact ⟨by simpa using hf.1.1, hf.1.2⟩
  | x :: r, k, hf, i + 1, h => by
    simp [fitL] at hf
    have := fitL_get hf.2 i (by simpa using h)
    exact ⟨by rw [show k + (i + 1) = k + 1 + i by omega]; exact this.1, this.2⟩
/-- what the law takes -/
def fewS : List Shd → Bool
  | [] => true
  | x :: r => decide (x.2.1.size ≤ 300) && decide (x.2.2.size ≤ 100) && fewS r
theorem fewS_step (l : List Shd) (i : Nat) (h : i < l.length) : fewS (l.drop i) = (decide (l[i].2.1.size ≤ 300) && decide (l[i].2.2.size ≤ 100) && fewS (l.drop (i + 1))) := by
  rw [List.drop_eq_getElem_cons h]; rfl
theorem fewS_get : ∀ {l : List Shd}, fewS l = true → ∀ x ∈ l, x.2.1.size ≤ 300 ∧ x.2.2.size ≤ 100
  | [], _, x, h => nomatch h
  | y :: r, hf, x, h => by
    simp [fewS] at hf
    rcases List.mem_cons.1 h with rfl | h
    · exact hf.1
    · exact fewS_get hf.2 x h
end Go.Proofs.YtfpofcfoeajkiaaGreat
