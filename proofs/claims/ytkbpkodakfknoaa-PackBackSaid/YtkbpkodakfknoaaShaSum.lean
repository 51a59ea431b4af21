/- (*feeder).sum, its walk. -/
import Derived.Test.YtkbpkodakfknoaaShaFeed
import Derived.Test.YtkbpkodakfknoaaShaBld
namespace Go.Proofs.Ytkbpkodakfknoaa
open Go.RowKit
set_option linter.unusedVariables false
def word4 (x : UInt32) : List UInt8 := [(x >>> 24).toUInt8, (x >>> 16).toUInt8, (x >>> 8).toUInt8, x.toUInt8]
def hUp (f : Nat → UInt32) (k : Nat) : List UInt8 := (List.range k).flatMap fun i => word4 (f i)
theorem hUp_succ (f : Nat → UInt32) (k : Nat) : hUp f (k + 1) = hUp f k ++ word4 (f k) := by simp [hUp, List.range_succ]
theorem hUp_len (f : Nat → UInt32) (k : Nat) : (hUp f k).length = 4 * k := by
  induction k with
  | zero => rfl
  | succ k ih => rw [hUp_succ, List.length_append, ih]; simp [word4]; omega
/-- byte k of a number -/
def nAt (m k : Nat) : UInt8 := UInt8.ofNat (m / 2 ^ k)
def len8 (m : Nat) : List UInt8 := [nAt m 56, nAt m 48, nAt m 40, nAt m 32, nAt m 24, nAt m 16, nAt m 8, nAt m 0]
theorem nAt_eq (m k : Nat) : ((m / 2 ^ k : Nat) : Int) % 256 = ((nAt m k).toNat : Int) := by
  unfold nAt
  rw [UInt8.toNat_ofNat']
  omega
/-- how many zeros -/
def zeros (n : Nat) : Nat := (119 - n % 64) % 64
theorem zeros_end (n : Nat) : (n + 1 + zeros n) % 64 = 56 := by unfold zeros; omega
theorem zeros_not (n j : Nat) (h : j < zeros n) : (n + 1 + j) % 64 ≠ 56 := by unfold zeros at h; omega
theorem zeros_lt (n : Nat) : zeros n < 64 := by unfold zeros; omega
/-- what is fed at the end -/
def padL (n : Nat) : List UInt8 := [128] ++ List.replicate (zeros n) 0 ++ len8 (8 * n)
def sumS (S : St) : St := feedL S (padL S.n)
def sizeAt (w : World) (p : Nat) : Nat := match w.cell? ⟨p, 8, none⟩ with | some (.int _ n) => n.toNat | _ => 0
theorem sizeAt_of {w : World} {p : Nat} {S : St} (h : FeedS w p S) : sizeAt w p = S.n := by
  have : w.cell? ⟨p, 8, none⟩ = some (.int .u64 S.n) := h.s
  unfold sizeAt; rw [this]; simp
theorem FeedS.below {w w' : World} {p B : Nat} {S : St} (h : FeedS w p S) (hb : Below B w w') (hB : p < B) : FeedS w' p S := Feed.below h hb hB
theorem FeedS.alloc {w : World} {p : Nat} {S : St} (h : FeedS w p S) (o : Obj) : FeedS (w.alloc o) p S := Feed.alloc h o
theorem FeedS.lt {w : World} {p : Nat} {S : St} (h : FeedS w p S) : p < w.heap.size := Feed.lt h
theorem index_hash (B : Array Value) (k : Nat) (v : Value) (h : k < 8) (hg : B[k]? = some v) (W : World) : (Instr.index 75 (.agg B) (.int .i64 (k : Int))).run Try.prog W = .ok v W := by
  simp [Instr.index, run_underlying Try.underlying75, go_sem, h, hg]
theorem four_str (w : World) (c3 c2 c1 c0 : UInt8) : (convert 49 9 (.slice (some ⟨w.heap.size, 0, none⟩) 4 4)).run Try.prog (w.alloc (.cells #[.int .u8 c3.toNat, .int .u8 c2.toNat, .int .u8 c1.toNat, .int .u8 c0.toNat] 5)) = .ok (.string ⟨#[c3, c2, c1, c0]⟩) (w.alloc (.cells #[.int .u8 c3.toNat, .int .u8 c2.toNat, .int .u8 c1.toNat, .int .u8 c0.toNat] 5)) := by
  refine run_bytes_str _ 49 9 5 Try.underlying49 Try.underlying5 Try.underlying9 _ 0 4 4 [c3, c2, c1, c0] rfl ?_
  intro i hi
  have hh : (w.alloc (.cells #[.int .u8 c3.toNat, .int .u8 c2.toNat, .int .u8 c1.toNat, .int .u8 c0.toNat] 5)).heap[w.heap.size]? = some (.cells #[.int .u8 c3.toNat, .int .u8 c2.toNat, .int .u8 c1.toNat, .int .u8 c0.toNat] 5 (0, 0)) := by
    show (w.heap.push _)[w.heap.size]? = _
    simp
  rw [Lib.cell_of_heap hh]
  match i, hi with
  | 0, _ => rfl
  | 1, _ => rfl
  | 2, _ => rfl
  | 3, _ => rfl
set_option maxRecDepth 20000 in
set_option maxHeartbeats 8000000 in
theorem sum_any (p : Nat) (S : St) (w : World) (hF : FeedS w p S) (hn : S.n ≤ 100000000000) :
    Calls Try.prog 71 #[.pointer (some ⟨p, 0, none⟩)] w fun e w' => e = .returned (.string ⟨(hUp (sumS S).f 8).toArray⟩) ∧ w.grownBy w' (some p) := by
  have hplt := hF.lt
  have e8 : w.cell? ⟨p, 8, none⟩ = some (.int .u64 S.n) := hF.s
  have HF := Lib.hid hF; clear hF
  have r8 : (S.n : Int) * 8 % 18446744073709551616 = ((8 * S.n : Nat) : Int) := by omega
  go_enter Try.func71, Try.ntmps71
  go_wp2_with fail
  refine (feed_any p S ⟨#[128]⟩ _ HF.out (by show S.n + 1 ≤ _; omega)).mono ?_
  rintro e w1 ⟨rfl, b1, g1⟩
  have HF1 : Hid (FeedS w1 p (feedL (feedL S [128]) (List.replicate 0 0))) := b1
  have HG1 := Lib.hid g1
  clear b1 g1 e8 HF
  go_wp2_with fail
  obtain ⟨m, hm⟩ : ∃ m : Nat, m = 8 * S.n := ⟨_, rfl⟩
  have rm : (S.n : Int) * 8 = (m : Int) := by omega
  rw [rm]
  clear rm r8
  have HM := Lib.hid hm; clear hm
  go_loopw [] (fun wr => ∃ j : Nat, j ≤ zeros S.n ∧ Hid (FeedS wr p (feedL (feedL S [128]) (List.replicate j 0))) ∧ Hid (w.grownBy wr (some p))) (fun wr => S.n + 200 - sizeAt wr p)
  case atStart => exact ⟨0, Nat.zero_le _, HF1.out, HG1.out⟩
  case round =>
    obtain ⟨j, hj, HR, HG⟩ := hrel
    have HSZ := Lib.hid (sizeAt_of HR.out)
    have hTn : (feedL (feedL S [128]) (List.replicate j 0)).n = S.n + 1 + j := by rw [feedL_n, feedL_n]; simp
    have HTn := Lib.hid hTn; clear hTn
    have hz := zeros_lt S.n
    have e8 : wr.cell? ⟨p, 8, none⟩ = some (.int .u64 ((S.n + 1 + j : Nat) : Int)) := by rw [← HTn.out]; exact HR.out.s
    by_cases hlt : j < zeros S.n
    · have HNX : Hid (feedL (feedL S [128]) (List.replicate (j + 1) 0) = feedL (feedL (feedL S [128]) (List.replicate j 0)) [0]) := by
        unfold Hid; rw [List.replicate_succ', feedL_append (feedL S [128])]
      have hne := zeros_not S.n j hlt
      generalize feedL (feedL S [128]) (List.replicate j 0) = T at *
      obtain ⟨N, hN⟩ : ∃ N : Nat, N = S.n + 1 + j := ⟨_, rfl⟩
      rw [← hN] at e8 hne HTn
      have z1 : ((N : Int) % 64 == 56) = false := by rw [beq_eq_false_iff_ne]; omega
      have z2 : ((N : Int) % 64 != 56) = true := by rw [bne_iff_ne]; omega
      have HN := Lib.hid hN
      clear hne hN
      go_wp2_with fail
      refine (feed_any p T ⟨#[0]⟩ _ HR.out (by rw [HTn.out, HN.out]; show S.n + 1 + j + 1 ≤ _; omega)).mono ?_
      rintro e w2 ⟨rfl, b2, g2⟩
      have HF2 : Hid (FeedS w2 p (feedL T [0])) := b2
      have HG2 : Hid (w.grownBy w2 (some p)) := grown_then HG.out g2
      have HSZ2 : Hid (sizeAt w2 p = N + 1) := by unfold Hid; rw [sizeAt_of b2, feedL_n, HTn.out]; rfl
      clear b2 g2 e8
      go_wp2
      go_roundw
      case rel => exact ⟨j + 1, hlt, by rw [HNX.out]; exact HF2, HG2⟩
      case measure => rw [HSZ.out, HSZ2.out, HTn.out, HN.out]; omega
    · obtain rfl : j = zeros S.n := by omega
      have heq := zeros_end S.n
      generalize hT : feedL (feedL S [128]) (List.replicate (zeros S.n) 0) = T at *
      have HT := Lib.hid hT; clear hT
      obtain ⟨N, hN⟩ : ∃ N : Nat, N = S.n + 1 + zeros S.n := ⟨_, rfl⟩
      rw [← hN] at e8 heq HTn
      have z1 : ((N : Int) % 64 == 56) = true := by rw [beq_iff_eq]; omega
      have z2 : ((N : Int) % 64 != 56) = false := by rw [bne_eq_false_iff_eq]; omega
      have HN := Lib.hid hN
      clear heq hN
      go_wp2_with fail
      have HF3 := Lib.hid (HR.out.alloc (.cells #[.pointer none, .slice none 0 0] 51))
      have HG3 : Hid (w.grownBy (wr.alloc (.cells #[.pointer none, .slice none 0 0] 51)) (some p)) := grown_then HG.out (World.grownBy_alloc wr _ (some p))
      have HB3 := Lib.hid (isBld_fresh wr)
      have hpb : p < wr.heap.size := HR.out.lt
      have hwb : w.heap.size ≤ wr.heap.size := HG.out.size
      have hs3 : (wr.alloc (.cells #[.pointer none, .slice none 0 0] 51)).heap.size = wr.heap.size + 1 := by simp
      generalize (wr.alloc (.cells #[.pointer none, .slice none 0 0] 51)) = w3 at *
      generalize wr.heap.size = b at *
      clear HG HSZ HR e8
      have HS3 := Lib.hid hs3; clear hs3
      have y56 := nAt_eq m 56
      have y48 := nAt_eq m 48
      have y40 := nAt_eq m 40
      have y32 := nAt_eq m 32
      have y24 := nAt_eq m 24
      have y16 := nAt_eq m 16
      have y8 := nAt_eq m 8
      have y0 := nAt_eq m 0
      simp only [Nat.reducePow, Int.natCast_ediv, Int.cast_ofNat_Int, Nat.div_one] at y56 y48 y40 y32 y24 y16 y8 y0
      go_loopw [5] (fun i wr => ∃ j : Nat, j ≤ 8 ∧ i = .int .i64 (56 - 8 * (j : Int)) ∧ Hid (isBld wr b ((len8 m).take j)) ∧ Hid (Below b w3 wr)) (fun i _ => (intOf i + 8).toNat)
      case atStart => exact ⟨0, by omega, rfl, HB3.out, Below.refl _ _⟩
      case round =>
        obtain ⟨j, hj, rfl, HB, HW⟩ := hrel
        have hwr : b < _ := isBld_lt HB.out
        by_cases hlt8 : j < 8
        · have hj8 : j = 0 ∨ j = 1 ∨ j = 2 ∨ j = 3 ∨ j = 4 ∨ j = 5 ∨ j = 6 ∨ j = 7 := by omega
          rcases hj8 with rfl | rfl | rfl | rfl | rfl | rfl | rfl | rfl
          · go_wp2_with fail
            refine (bldByte_ok b _ (nAt m 56) _ HB.out (by show (List.take 0 (len8 m)).length + 1 ≤ _; rw [List.length_take]; omega) (by omega)).mono ?_
            rintro e w5 ⟨rfl, b5, g5⟩
            have HB5 : Hid (isBld w5 b ((len8 m).take (0 + 1))) := b5
            have HW5 := Lib.hid (HW.out.trans g5)
            clear b5 g5
            go_wp2
            go_roundw
            case rel => exact ⟨0 + 1, by omega, by go_num, HB5, HW5⟩
            case measure => simp [intOf]
          · go_wp2_with fail
            refine (bldByte_ok b _ (nAt m 48) _ HB.out (by show (List.take 1 (len8 m)).length + 1 ≤ _; rw [List.length_take]; omega) (by omega)).mono ?_
            rintro e w5 ⟨rfl, b5, g5⟩
            have HB5 : Hid (isBld w5 b ((len8 m).take (1 + 1))) := b5
            have HW5 := Lib.hid (HW.out.trans g5)
            clear b5 g5
            go_wp2
            go_roundw
            case rel => exact ⟨1 + 1, by omega, by go_num, HB5, HW5⟩
            case measure => simp [intOf]
          · go_wp2_with fail
            refine (bldByte_ok b _ (nAt m 40) _ HB.out (by show (List.take 2 (len8 m)).length + 1 ≤ _; rw [List.length_take]; omega) (by omega)).mono ?_
            rintro e w5 ⟨rfl, b5, g5⟩
            have HB5 : Hid (isBld w5 b ((len8 m).take (2 + 1))) := b5
            have HW5 := Lib.hid (HW.out.trans g5)
            clear b5 g5
            go_wp2
            go_roundw
            case rel => exact ⟨2 + 1, by omega, by go_num, HB5, HW5⟩
            case measure => simp [intOf]
          · go_wp2_with fail
            refine (bldByte_ok b _ (nAt m 32) _ HB.out (by show (List.take 3 (len8 m)).length + 1 ≤ _; rw [List.length_take]; omega) (by omega)).mono ?_
            rintro e w5 ⟨rfl, b5, g5⟩
            have HB5 : Hid (isBld w5 b ((len8 m).take (3 + 1))) := b5
            have HW5 := Lib.hid (HW.out.trans g5)
            clear b5 g5
            go_wp2
            go_roundw
            case rel => exact ⟨3 + 1, by omega, by go_num, HB5, HW5⟩
            case measure => simp [intOf]
          · go_wp2_with fail
            refine (bldByte_ok b _ (nAt m 24) _ HB.out (by show (List.take 4 (len8 m)).length + 1 ≤ _; rw [List.length_take]; omega) (by omega)).mono ?_
            rintro e w5 ⟨rfl, b5, g5⟩
            have HB5 : Hid (isBld w5 b ((len8 m).take (4 + 1))) := b5
            have HW5 := Lib.hid (HW.out.trans g5)
            clear b5 g5
            go_wp2
            go_roundw
            case rel => exact ⟨4 + 1, by omega, by go_num, HB5, HW5⟩
            case measure => simp [intOf]
          · go_wp2_with fail
            refine (bldByte_ok b _ (nAt m 16) _ HB.out (by show (List.take 5 (len8 m)).length + 1 ≤ _; rw [List.length_take]; omega) (by omega)).mono ?_
            rintro e w5 ⟨rfl, b5, g5⟩
            have HB5 : Hid (isBld w5 b ((len8 m).take (5 + 1))) := b5
            have HW5 := Lib.hid (HW.out.trans g5)
            clear b5 g5
            go_wp2
            go_roundw
            case rel => exact ⟨5 + 1, by omega, by go_num, HB5, HW5⟩
            case measure => simp [intOf]
          · go_wp2_with fail
            refine (bldByte_ok b _ (nAt m 8) _ HB.out (by show (List.take 6 (len8 m)).length + 1 ≤ _; rw [List.length_take]; omega) (by omega)).mono ?_
            rintro e w5 ⟨rfl, b5, g5⟩
            have HB5 : Hid (isBld w5 b ((len8 m).take (6 + 1))) := b5
            have HW5 := Lib.hid (HW.out.trans g5)
            clear b5 g5
            go_wp2
            go_roundw
            case rel => exact ⟨6 + 1, by omega, by go_num, HB5, HW5⟩
            case measure => simp [intOf]
          · go_wp2_with fail
            refine (bldByte_ok b _ (nAt m 0) _ HB.out (by show (List.take 7 (len8 m)).length + 1 ≤ _; rw [List.length_take]; omega) (by omega)).mono ?_
            rintro e w5 ⟨rfl, b5, g5⟩
            have HB5 : Hid (isBld w5 b ((len8 m).take (7 + 1))) := b5
            have HW5 := Lib.hid (HW.out.trans g5)
            clear b5 g5
            go_wp2
            go_roundw
            case rel => exact ⟨7 + 1, by omega, by go_num, HB5, HW5⟩
            case measure => simp [intOf]
        · obtain rfl : j = 8 := by omega
          have HB8 : Hid (isBld wr b (len8 m)) := HB.out
          have HF5 := Lib.hid (HF3.out.below HW.out hpb)
          have HG5 := Lib.hid (grown_low HG3.out HW.out hwb)
          have hn0 : len8 m ≠ [] := by simp [len8]
          have HN0 := Lib.hid hn0
          clear HB HW HF3 HG3 hn0 y56 y48 y40 y32 y24 y16 y8 y0 HB3
          go_wp2_with fail
          refine (bldString_keep b _ _ HB8.out HN0.out).mono ?_
          rintro e w6 ⟨rfl, g6, bp, bv, hb6⟩
          have HF6 := Lib.hid (HF5.out.below g6 hpb)
          have HG6 := Lib.hid (grown_low HG5.out g6 hwb)
          have HH6 := Lib.hid hb6
          clear g6 hb6 HF5 HG5 HB8
          go_wp2_with fail
          refine (feed_any p T ⟨(len8 m).toArray⟩ _ HF6.out (by rw [HTn.out, HN.out]; show S.n + 1 + zeros S.n + 8 ≤ _; omega)).mono ?_
          rintro e w7 ⟨rfl, b7, g7⟩
          have HT7 : Hid (feedL T (len8 m) = sumS S) := by
            unfold Hid sumS padL; rw [← HT.out, HM.out, feedL_append, feedL_append]
          have HF7 : Hid (FeedS w7 p (sumS S)) := by rw [← HT7.out]; exact b7
          have HG7 := Lib.hid (grown_then HG6.out g7)
          have HH7 : Hid (w7.heap[b]? = some (.cells #[bp, bv] 51 (0, 0))) := (g7.block b (by
            refine Decidable.byContradiction fun hh => ?_
            have := HH6.out
            rw [Array.getElem?_eq_none (by omega)] at this; cases this) (by simp; omega)).trans HH6.out
          clear b7 g7 HF6 HG6 HH6
          generalize hZ : sumS S = Z at *
          have HZ := Lib.hid hZ; clear hZ
          go_wp2_with fail
          refine (bldReset_ok b bp bv _ HH7.out).mono ?_
          rintro e w8 ⟨rfl, b8, g8⟩
          have HF8 := Lib.hid (HF7.out.below g8 hpb)
          have HG8 := Lib.hid (grown_low HG7.out g8 hwb)
          have HB8 := Lib.hid b8
          clear g8 b8 HF7 HG7 HH7 HT7 HTn HT HN HM
          obtain ⟨F, n, part⟩ := Z
          obtain ⟨A, hA⟩ : ∃ A, A = cellsOf 8 F := ⟨_, rfl⟩
          have HRA : Hid (w8.rangeAt p 0 A.toList) := by rw [hA]; exact HF8.out.h
          have HlA : Hid ((Try.prog.info? 75).map (·.size) = some A.toList.length) := by unfold Hid; rw [Array.length_toList, hA, cellsOf_size]; kernel_rfl
          have HAA := Lib.hid hA; clear hA
          go_wp2_with (refine wpList_load_mid rfl 75 _ rfl p 0 rfl A.toList _ HRA.out Try.underlying75 rfl HlA.out ?_)
          have hb8 := isBld_lt HB8.out
          clear HRA HlA
          go_loopw [43] (fun i wr => ∃ k : Nat, k ≤ 8 ∧ i = .int .i64 k ∧ Hid (isBld wr b (hUp F k)) ∧ Hid (Below b w8 wr)) (fun i _ => 8 - (intOf i).toNat)
          case atStart => exact ⟨0, by omega, rfl, HB8.out, Below.refl _ _⟩
          case round =>
            obtain ⟨k, hk, rfl, HB, HW⟩ := hrel
            have hbw := isBld_lt HB.out
            by_cases hlt8 : k < 8
            · have hix := fun W => index_hash A k _ hlt8 (by rw [HAA.out]; exact cellsOf_get _ hlt8) W
              have HNX := Lib.hid (hUp_succ F k)
              have hW4 : word4 (F k) = word4 (F k) := rfl
              generalize F k = x at *
              have y3 := by3 x
              have y2 := by2 x
              have y1 := by1 x
              have y0 := by0 x
              have HL4 : Hid (word4 x = [(x >>> 24).toUInt8, (x >>> 16).toUInt8, (x >>> 8).toUInt8, x.toUInt8]) := rfl
              generalize (x >>> 24).toUInt8 = c3 at *
              generalize (x >>> 16).toUInt8 = c2 at *
              generalize (x >>> 8).toUInt8 = c1 at *
              generalize x.toUInt8 = c0 at *
              have lk : (k : Int) < 8 := by omega
              clear hW4
              have y3' : (c3.toNat : Int) % 256 = (c3.toNat : Int) := by have := c3.toNat_lt; omega
              have hcv := four_str wr c3 c2 c1 c0
              go_wp2_with fail
              refine (bldText_ok b _ ⟨#[c3, c2, c1, c0]⟩ _ (isBld_alloc HB.out hpb _) (by rw [hUp_len]; show 4 * k + 4 ≤ _; omega) (by simp; omega)).mono ?_
              rintro e w9 ⟨rfl, b9, g9⟩
              have HB9 : Hid (isBld w9 b (hUp F (k + 1))) := by rw [HNX.out, HL4.out]; exact b9
              have HW9 := Lib.hid ((HW.out.alloc (by have := HW.out.size; omega) _).trans g9)
              clear b9 g9
              go_wp2
              go_roundw
              case rel => exact ⟨k + 1, by omega, by go_num, HB9, HW9⟩
              case measure => simp [intOf]; omega
            · obtain rfl : k = 8 := by omega
              have hn8 : hUp F 8 ≠ [] := by intro e; have := hUp_len F 8; rw [e] at this; cases this
              have HN8 := Lib.hid hn8
              clear hn8
              go_wp2_with fail
              refine (bldString_ok b _ _ HB.out HN8.out).mono ?_
              rintro e w9 ⟨rfl, g9⟩
              go_wp2
              go_ret
              exact ⟨by rw [HZ.out]; rfl, grown_low (grown_low HG8.out HW.out hwb) g9 hwb⟩
end Go.Proofs.Ytkbpkodakfknoaa
