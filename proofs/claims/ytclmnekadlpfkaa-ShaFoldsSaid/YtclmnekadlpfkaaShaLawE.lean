/- ShaFolds: its walk. -/
import Derived.Test.YtclmnekadlpfkaaShaLawD
namespace Go.Proofs.Ytclmnekadlpfkaa
open Go.RowKit
set_option linter.unusedVariables false
set_option linter.unusedSimpArgs false
theorem fold_step (l x : List UInt8) (k : Nat) (hl : l.length = 64 * k) (hx : x.length = 64) : blocksF H0 (l ++ x) (k + 1) = blockF (blocksF H0 l k) x := by
  rw [blocksF_snoc, blocksF_pre k H0 l x (by omega), ← hl, List.drop_left, List.take_of_length_le (by omega)]
theorem end_lit (a b : Int) (v w : UInt8) (ha : a = v.toNat) (hb : b = w.toNat) : (#[Value.int .u8 128, Value.int .u8 0, Value.int .u8 0, Value.int .u8 0, Value.int .u8 0, Value.int .u8 0, Value.int .u8 0, Value.int .u8 0, Value.int .u8 0, Value.int .u8 0, Value.int .u8 0, Value.int .u8 0, Value.int .u8 0, Value.int .u8 0, Value.int .u8 0, Value.int .u8 0, Value.int .u8 0, Value.int .u8 0, Value.int .u8 0, Value.int .u8 0, Value.int .u8 0, Value.int .u8 0, Value.int .u8 0, Value.int .u8 0, Value.int .u8 0, Value.int .u8 0, Value.int .u8 0, Value.int .u8 0, Value.int .u8 0, Value.int .u8 0, Value.int .u8 0, Value.int .u8 0, Value.int .u8 0, Value.int .u8 0, Value.int .u8 0, Value.int .u8 0, Value.int .u8 0, Value.int .u8 0, Value.int .u8 0, Value.int .u8 0, Value.int .u8 0, Value.int .u8 0, Value.int .u8 0, Value.int .u8 0, Value.int .u8 0, Value.int .u8 0, Value.int .u8 0, Value.int .u8 0, Value.int .u8 0, Value.int .u8 0, Value.int .u8 0, Value.int .u8 0, Value.int .u8 0, Value.int .u8 0, Value.int .u8 0, Value.int .u8 0, Value.int .u8 0, Value.int .u8 0, Value.int .u8 0, Value.int .u8 0, Value.int .u8 0, Value.int .u8 0, Value.int .u8 a, Value.int .u8 b] : Array Value) = bytesOf 64 (fun i => ([128] ++ List.replicate 61 0 ++ [v, w]).getD i 0) := by subst ha; subst hb; rfl
theorem flat_rows : ∀ (l : List (List UInt8)) (k : Nat), (∀ y ∈ l, y.length = 64) → (h : k < l.length) → ∀ j, j < 64 → (List.flatMap (fun xs => List.flatMap EU8 xs) l)[64 * k + j]? = ((l[k]).map (fun b => Value.int .u8 b.toNat))[j]?
  | [], k, hl, h, j, hj => absurd h (by simp)
  | x :: l, 0, hl, h, j, hj => by
    have hx : x.length = 64 := hl x (by simp)
    rw [List.flatMap_cons, List.getElem?_append_left (by rw [flat_u8d]; simp; omega), flat_u8d]
    simp
  | x :: l, k + 1, hl, h, j, hj => by
    have hx : x.length = 64 := hl x (by simp)
    rw [List.flatMap_cons, List.getElem?_append_right (by rw [flat_u8d]; simp; omega), flat_u8d]
    have := flat_rows l k (fun y hy => hl y (by simp [hy])) (by simpa using h) j hj
    rw [List.length_map, hx, show 64 * (k + 1) + j - 64 = 64 * k + j by omega, this]
    simp
theorem flat_len : ∀ (l : List (List UInt8)), (∀ y ∈ l, y.length = 64) → l.flatten.length = 64 * l.length
  | [], _ => rfl
  | x :: l, h => by
    rw [List.flatten_cons, List.length_append, flat_len l (fun y hy => h y (by simp [hy])), h x (by simp), List.length_cons]; omega
set_option maxRecDepth 20000 in
set_option maxHeartbeats 1000000 in
theorem shaFolds_ok (W : World) (A0 : Option Addr) (n0 c0 : Nat) (x0 : List (List UInt8)) (w0 : Sl W A0 n0 c0 64 (x0.flatMap (fun xs => List.flatMap EU8 xs)) ∧ x0.length = n0 ∧ (A0 = none → c0 = 0) ∧ ∀ y ∈ x0, y.length = 64 ∧ ∀ z ∈ y, True) :
    Calls Try.prog 7 #[.slice A0 n0 c0] W fun e w' => e = .returned (.bool true) ∧ Below W.heap.size W w' := by
  obtain ⟨hsl, hn, _, hall⟩ := w0
  have hall : ∀ y ∈ x0, y.length = 64 := fun y hy => (hall y hy).1
  by_cases g0 : 12 < n0
  · clear hn hsl
    go_enter Try.func7, Try.ntmps7
    go_wp2_with fail
    refine (shaAwake_any _).mono ?_
    rintro e w1 ⟨rfl, b1⟩
    go_wp2
    go_ret
    exact ⟨rfl, b1⟩
  have hcl := hsl.cells
  clear hsl
  obtain rfl : n0 = x0.length := hn.symm
  clear hn
  have HC := Lib.hid hcl; clear hcl
  have HALL := Lib.hid hall; clear hall
  have hL8 : ∀ F, (Try.prog.info? 24).map (·.size) = some (cellsOf 8 F).size := fun F => by rw [cellsOf_size]; kernel_rfl
  have HL8 := Lib.hid hL8; clear hL8
  have hL64 : ∀ F, (Try.prog.info? 25).map (·.size) = some (bytesOf 64 F).size := fun F => by rw [bytesOf_size]; kernel_rfl
  have HL64 := Lib.hid hL64; clear hL64
  have hO8 : ∀ F, (cellsOf 8 F).all (·.oneCell') = true := fun F => cellsOf_one' _ _
  have HO8 := Lib.hid hO8; clear hO8
  have hO64 : ∀ F, (bytesOf 64 F).all (·.oneCell') = true := fun F => bytesOf_one _ _
  have HO64 := Lib.hid hO64; clear hO64
  go_enter Try.func7, Try.ntmps7
  go_wp2_with fail
  refine (first_any _).mono ?_
  rintro e w1 ⟨rfl, b1⟩
  have HN := Lib.hid (row_new w1 24 (cellsOf 8 (fun _ => 0)))
  have e0 : cellsOf 8 (fun i => shaFirst.getD i 0) = cellsOf 8 (blocksF H0 [] 0) := rfl
  rw [e0]
  have h88 : (cellsOf 8 (fun _ => 0)).size = (cellsOf 8 (blocksF H0 [] 0)).size := by rw [cellsOf_size, cellsOf_size]
  have H88 := Lib.hid h88; clear h88
  have HL := Lib.hid (HL8.out (blocksF H0 [] 0))
  have HO := Lib.hid (HO8.out (blocksF H0 [] 0))
  have hK : Row ((w1.alloc (.cells (cellsOf 8 (fun _ => 0)) 24)).setRow w1.heap.size (cellsOf 8 (blocksF H0 [] 0))) w1.heap.size 24 (cellsOf 8 (blocksF H0 [] 0)) := setRow_heap _ _ _ _ _ _ HN.out
  have hB : Below W.heap.size W ((w1.alloc (.cells (cellsOf 8 (fun _ => 0)) 24)).setRow w1.heap.size (cellsOf 8 (blocksF H0 [] 0))) := below_setRow (b1.alloc b1.size _) b1.size _
  obtain ⟨w2, hw2⟩ : ∃ w2, w2 = ((w1.alloc (.cells (cellsOf 8 (fun _ => 0)) 24)).setRow w1.heap.size (cellsOf 8 (blocksF H0 [] 0))) := ⟨_, rfl⟩
  rw [← hw2] at hK hB
  have HW2 := Lib.hid hw2; clear hw2
  have HK := Lib.hid hK; clear hK
  have HB := Lib.hid hB; clear hB
  clear e0
  have hhb : W.heap.size ≤ w1.heap.size := b1.size
  clear b1
  generalize hC0 : cellsOf 8 (blocksF H0 [] 0) = C0 at *
  have HC0 := Lib.hid hC0; clear hC0
  go_wp2_with (rw [zero8]; refine wpList_store_row rfl _ _ _ rfl w1.heap.size C0 rfl rfl 24 _ HN.out HL.out H88.out HO.out ?_; rw [← HW2.out])
  clear HN HL H88 HO HW2
  generalize w1.heap.size = hb at *
  go_loopw [4, 16] (fun s i wr => ∃ (k : Nat) (S : ByteArray), k ≤ x0.length ∧ i = .int .i64 k ∧ s = .string S ∧ Hid (S.data.toList = (x0.take k).flatten) ∧ Hid (Row wr hb 24 (cellsOf 8 (blocksF H0 (x0.take k).flatten k))) ∧ Hid (Below W.heap.size W wr)) (fun _ i _ => x0.length - (intOf i).toNat)
  case atStart => exact ⟨0, ⟨#[]⟩, Nat.zero_le _, rfl, rfl, rfl, by unfold Hid; rw [List.take_zero, List.flatten_nil, HC0.out]; exact HK.out, HB.out⟩
  case round =>
    clear HK HB
    obtain ⟨k, S, hk, rfl, rfl, HS, HK, HB⟩ := hrel
    by_cases hlt : k < x0.length
    · obtain ⟨b, off, rfl, hblt, hcell⟩ := HC.out (by omega)
      obtain ⟨x, hx⟩ : ∃ x, x = x0[k] := ⟨_, rfl⟩
      have hxl : x.length = 64 := by rw [hx]; exact HALL.out _ (List.getElem_mem _)
      have hfl : (x0.take k).flatten.length = 64 * k := by
        rw [flat_len _ (fun y hy => HALL.out y (List.mem_of_mem_take hy)), List.length_take]; omega
      have ht : x0.take (k + 1) = x0.take k ++ [x] := by rw [List.take_succ_eq_append_getElem hlt, hx]
      have hF : blocksF H0 (x0.take (k + 1)).flatten (k + 1) = blockF (blocksF H0 (x0.take k).flatten k) x := by
        rw [ht, List.flatten_append, show [x].flatten = x by simp, fold_step _ x k hfl hxl]
      have hSx : (S ++ (⟨x.toArray⟩ : ByteArray)).data.toList = (x0.take (k + 1)).flatten := by
        rw [ht, List.flatten_append, ← HS.out]; simp
      have hr : wr.rangeAt b (off + k * 64) (bytesOf 64 (fun i => x.getD i 0)).toList := by
        intro j v hj
        have hj64 : j < 64 := by
          have := (List.getElem?_eq_some_iff.1 hj).1
          rwa [Array.length_toList, bytesOf_size] at this
        have h2 := flat_rows x0 k HALL.out hlt j hj64
        rw [← hx] at h2
        rw [HB.out.cell (p := ⟨b, off + k * 64 + j, none⟩) hblt, Nat.add_assoc, Nat.mul_comm k 64, hcell (64 * k + j) (by omega), h2, ← hj, ← bytesOf_list x 64 hxl]
      have hBL := fun w => block_any (blocksF H0 (x0.take k).flatten k) x hxl w
      rw [← hF] at hBL
      have HBL := Lib.hid hBL; clear hBL hF
      have hSs : S.size ≤ 768 := by
        have : S.data.toList.length = S.size := by simp
        rw [← this, HS.out, hfl]; omega
      have hx6 : x.length ≤ 64 := by omega
      have hx7 : (⟨x.toArray⟩ : ByteArray).size ≤ 64 := by show x.toArray.size ≤ 64; simp; omega
      have HSX := Lib.hid hSx; clear hSx
      have HR := Lib.hid hr; clear hr hcell
      clear ht hfl hx
      have lk : (k : Int) < (x0.length : Int) := by omega
      generalize blocksF H0 (x0.take k).flatten k = F at *
      generalize hG : blocksF H0 (x0.take (k + 1)).flatten (k + 1) = G at *
      have HG := Lib.hid hG; clear hG
      generalize hX : (fun i => x.getD i 0) = xf at *
      have HX := Lib.hid hX; clear hX
      have HLx := Lib.hid (HL64.out xf)
      have HOx := Lib.hid (HO64.out xf)
      have hlR : (Try.prog.info? 25).map (·.size) = some (bytesOf 64 xf).toList.length := by rw [Array.length_toList]; exact HLx.out
      have HLR := Lib.hid hlR; clear hlR
      have H64 : Hid ((bytesOf 64 (fun _ => 0)).size = (bytesOf 64 xf).size) := by unfold Hid; rw [bytesOf_size, bytesOf_size]
      have HN := Lib.hid (row_new wr 25 (bytesOf 64 (fun _ => 0)))
      obtain ⟨wA, hwA⟩ : ∃ wA, wA = ((wr.alloc (.cells (bytesOf 64 (fun _ => 0)) 25)).setRow wr.heap.size (bytesOf 64 xf)) := ⟨_, rfl⟩
      have hXA : Row wA wr.heap.size 25 (bytesOf 64 xf) := by rw [hwA]; exact setRow_heap _ _ _ _ _ _ HN.out
      have hKA : Row wA hb 24 (cellsOf 8 F) := by
        rw [hwA]; exact (setRow_other _ _ _ _ (by have := HK.out.lt; omega)).trans (HK.out.alloc _)
      have hBA : Below W.heap.size W wA := by rw [hwA]; exact below_setRow (HB.out.alloc HB.out.size _) HB.out.size _
      have HWA := Lib.hid hwA; clear hwA
      have HXA := Lib.hid hXA; clear hXA
      have HKA := Lib.hid hKA; clear hKA
      have HBA := Lib.hid hBA; clear hBA
      have HL8F := Lib.hid (HL8.out F)
      have hhx : hb < wr.heap.size := HK.out.lt
      have hbx : W.heap.size ≤ wr.heap.size := HB.out.size
      go_wp2_with (first | (refine wpList_load_mid (op := ⟨some 19, _, _, _, _, _⟩) rfl 25 _ rfl b (off + k * 64) rfl (bytesOf 64 xf).toList _ HR.out Try.underlying25 rfl HLR.out ?_) | (rw [zero64b]; refine wpList_store_row (o := ⟨none, .store 25 (.tmp 6) (.tmp 19), _, _, _, _⟩) rfl _ _ _ rfl wr.heap.size (bytesOf 64 xf) rfl rfl 25 _ HN.out HLx.out H64.out HOx.out ?_; rw [← HWA.out]) | (refine wpList_load_row (o := ⟨some 20, _, _, _, _, _⟩) rfl _ _ rfl hb rfl 24 (cellsOf 8 F) (0, 0) _ HKA.out Try.underlying24 rfl HL8F.out ?_) | (refine wpList_load_row (o := ⟨some 21, _, _, _, _, _⟩) rfl _ _ rfl wr.heap.size rfl 25 (bytesOf 64 xf) (0, 0) _ HXA.out Try.underlying25 rfl HLx.out ?_))
      refine (HBL.out _).mono ?_
      rintro e wB ⟨rfl, bB⟩
      have hXB : Row wB wr.heap.size 25 (bytesOf 64 xf) := HXA.out.below bB HXA.out.lt
      have hKB : Row wB hb 24 (cellsOf 8 F) := HKA.out.below bB HKA.out.lt
      have hBB : Below W.heap.size W wB := HBA.out.trans (bB.mono HBA.out.size)
      clear bB
      obtain ⟨wC, hwC⟩ : ∃ wC, wC = wB.setRow hb (cellsOf 8 G) := ⟨_, rfl⟩
      have hKC : Row wC hb 24 (cellsOf 8 G) := by rw [hwC]; exact setRow_heap _ _ _ _ _ _ hKB
      have hXC : Row wC wr.heap.size 25 (bytesOf 64 xf) := by rw [hwC]; exact (setRow_other _ _ _ _ (by omega)).trans hXB
      have hBC : Below W.heap.size W wC := by rw [hwC]; exact below_setRow hBB hhb _
      have hcv : (convert 36 9 (.slice (some ⟨wr.heap.size, 0, none⟩) 64 64)).run Try.prog wC = .ok (.string ⟨x.toArray⟩) wC := by
        refine run_bytes_str _ 36 9 5 Try.underlying36 Try.underlying5 Try.underlying9 wr.heap.size 0 64 64 x (by omega) ?_
        intro i hi
        have h := hXC.cellB (j := i) (by omega)
        rw [← HX.out] at h
        rw [Nat.zero_add, h]
        simp [hi]
      have HWC := Lib.hid hwC; clear hwC
      have HXL := Lib.hid hxl; clear hxl
      have HKB := Lib.hid hKB; clear hKB
      have HKC := Lib.hid hKC; clear hKC
      have HBC := Lib.hid hBC; clear hBC
      have H8G := Lib.hid (HL8.out G)
      have HO8G := Lib.hid (HO8.out G)
      have H88 : Hid ((cellsOf 8 F).size = (cellsOf 8 G).size) := by unfold Hid; rw [cellsOf_size, cellsOf_size]
      clear hXB hXC hBB HXA HKA HBA HWA HN HR HBL HB HK HL8F HLx HLR HOx H64
      generalize wr.heap.size = xb at *
      go_wp2_with (refine wpList_store_row (o := ⟨none, .store 24 (.tmp 3) (.tmp 22), _, _, _, _⟩) rfl _ _ _ rfl hb (cellsOf 8 G) rfl rfl 24 _ HKB.out H8G.out H88.out HO8G.out ?_; rw [← HWC.out])
      go_roundw
      case rel => exact ⟨k + 1, S ++ (⟨x.toArray⟩ : ByteArray), by omega, by go_num, rfl, HSX.out, by unfold Hid; rw [HG.out]; exact HKC.out, HBC.out⟩
      case measure => simp [intOf]; omega
    · obtain rfl : k = x0.length := by omega
      have hSl : S.data.toList.length = S.size := by simp
      have hfl := flat_len x0 HALL.out
      have hS := HS.out
      rw [List.take_length] at hS HK
      have hs64 : S.size = 64 * x0.length := by rw [← hSl, hS, hfl]
      have hfs := fold_sum S.data.toList x0.length (by omega) (by omega)
      rw [← hS] at HK
      have e1 : ((S.size : Int) * 8 / 256) = ((nAt (8 * S.size) 8).toNat : Int) := by
        have h := nAt_eq (8 * S.size) 8
        rw [show (2 : Nat) ^ 8 = 256 from rfl] at h
        omega
      have e2 : ((S.size : Int) * 8 % 256) = ((nAt (8 * S.size) 0).toNat : Int) := by
        have h := nAt_eq (8 * S.size) 0
        rw [show (2 : Nat) ^ 0 = 1 from rfl] at h
        omega
      have hel := end_lit _ _ _ _ e1 e2
      have hE : (fun i => ([128] ++ List.replicate 61 0 ++ [nAt (8 * S.size) 8, nAt (8 * S.size) 0] : List UInt8).getD i 0) = (fun i => (endBlk S.data.toList.length).getD i 0) := by rw [hSl]; rfl
      rw [hE] at hel
      have hen : (endBlk S.data.toList.length).length = 64 := by simp [endBlk]
      have hBL := fun w => block_any (blocksF H0 S.data.toList x0.length) (endBlk S.data.toList.length) hen w
      have hBY := fun w => bytes_any (blockF (blocksF H0 S.data.toList x0.length) (endBlk S.data.toList.length)) w
      rw [← hfs] at hBY
      have hSM := fun w => shaSum_any S w (by omega)
      have hl8a : (Try.prog.info? 24).map (·.size) = some (cellsOf 8 (blocksF H0 S.data.toList x0.length)).toList.length := by rw [Array.length_toList]; exact HL8.out _
      have hl64a : (Try.prog.info? 25).map (·.size) = some (bytesOf 64 (fun i => (endBlk S.data.toList.length).getD i 0)).toList.length := by rw [Array.length_toList]; exact HL64.out _
      have HLZ := Lib.hid (HL64.out (fun i => (endBlk S.data.toList.length).getD i 0))
      have HOZ := Lib.hid (HO64.out (fun i => (endBlk S.data.toList.length).getD i 0))
      have H64 : Hid ((bytesOf 64 (fun _ => 0)).size = (bytesOf 64 (fun i => (endBlk S.data.toList.length).getD i 0)).size) := by unfold Hid; rw [bytesOf_size, bytesOf_size]
      generalize bytesOf 64 (fun i => (endBlk S.data.toList.length).getD i 0) = Z at *
      generalize shaSum S.data.toList = R at *
      generalize cellsOf 8 (blockF (blocksF H0 S.data.toList x0.length) (endBlk S.data.toList.length)) = C1 at *
      generalize cellsOf 8 (blocksF H0 S.data.toList x0.length) = C at *
      have HEL := Lib.hid hel; clear hel
      have HBL := Lib.hid hBL; clear hBL
      have HBY := Lib.hid hBY; clear hBY
      have HSM := Lib.hid hSM; clear hSM
      have Hl8 := Lib.hid hl8a; clear hl8a
      have Hl64 := Lib.hid hl64a; clear hl64a
      have hsb : S.size ≤ 768 := by omega
      clear hfs hE e1 e2 hen hS hs64 hSl hfl HS HC HALL HL8 HL64 HO8 HO64
      have HN := Lib.hid (row_new wr 25 (bytesOf 64 (fun _ => 0)))
      have hKZ : Row ((wr.alloc (.cells (bytesOf 64 (fun _ => 0)) 25)).setRow wr.heap.size Z) hb 24 C := (setRow_other _ _ _ _ (by have := HK.out.lt; omega)).trans (HK.out.alloc _)
      have hZZ : Row ((wr.alloc (.cells (bytesOf 64 (fun _ => 0)) 25)).setRow wr.heap.size Z) wr.heap.size 25 Z := setRow_heap _ _ _ _ _ _ HN.out
      have hBZ : Below W.heap.size W ((wr.alloc (.cells (bytesOf 64 (fun _ => 0)) 25)).setRow wr.heap.size Z) := below_setRow (HB.out.alloc HB.out.size _) HB.out.size _
      obtain ⟨wZ, hwZ⟩ : ∃ wZ, wZ = ((wr.alloc (.cells (bytesOf 64 (fun _ => 0)) 25)).setRow wr.heap.size Z) := ⟨_, rfl⟩
      rw [← hwZ] at hKZ hZZ hBZ
      have HS : Hid (PadS hb wr.heap.size wr.heap.size C Z Z wZ.drew) := ⟨hKZ.range, hZZ.range, hZZ.range, hKZ.lt, hZZ.lt, hZZ.lt⟩
      have HW : Hid (Below W.heap.size W wZ.drew) := hBZ.drew
      have HWZ := Lib.hid hwZ; clear hwZ hKZ hZZ hBZ HK HB
      go_wp2_with (rw [zero64b, HEL.out]; refine wpList_store_row (o := ⟨none, .store 25 (.tmp 8) (.tmp 36), _, _, _, _⟩) rfl _ _ _ rfl wr.heap.size Z rfl rfl 25 _ HN.out HLZ.out H64.out HOZ.out ?_; rw [← HWZ.out])
      clear HWZ HN HEL HLZ HOZ H64
      generalize wr.heap.size = zb at *
      refine wp_region_noPanic ?_
      refine wp_region_held_drew (S := PadS hb zb zb C Z Z) (by kernel_rfl) HS.out (fun hHeld => ?_)
      generalize wZ.drew = wz at *
      refine' wpAnyH_take (i := 0) (v := ?v1) rfl (by kernel_rfl) (by kernel_rfl) (by kernel_rfl) (fun _ _ _ h => h) (Or.inl ⟨by rfl, ?hy1⟩) (by assumption) ?rest1
      case hy1 => (intro w hSw; (try dsimp only at hSw); go_simp; try with_reducible rfl)
      try simp only [Act.put, List.setIfInBounds_toArray, List.set_cons_zero, List.set_cons_succ]
      refine wpAnyH_take (i := 2) (v := .agg C.toList.toArray) rfl (by kernel_rfl) (by kernel_rfl) (by kernel_rfl) (fun _ _ _ h => h) (yieldsIf_load_mid (by rfl) 24 _ rfl hb 0 rfl C.toList _ (fun w h => h.x) Try.underlying24 rfl Hl8.out) hHeld ?_
      try simp only [Act.put, List.setIfInBounds_toArray, List.set_cons_zero, List.set_cons_succ]
      refine wpAnyH_take (i := 3) (v := .agg Z.toList.toArray) rfl (by kernel_rfl) (by kernel_rfl) (by kernel_rfl) (fun _ _ _ h => h) (yieldsIf_load_mid (by rfl) 25 _ rfl zb 0 rfl Z.toList _ (fun w h => h.y) Try.underlying25 rfl Hl64.out) hHeld ?_
      try simp only [Act.put, List.setIfInBounds_toArray, List.set_cons_zero, List.set_cons_succ]
      refine wpAnyH_ready (rs := [1]) (by kernel_rfl) (by simp) ?_
      refine AllReadyH.cons rfl (fun K hK => ?_) AllReadyH.nil
      go_simp
      go_at_call 13
      refine (HSM.out _).mono ?_
      rintro er w' ⟨rfl, b'⟩
      have HW := Lib.hid (HW.out.trans (b'.mono HW.out.size))
      have HS := Lib.hid (HS.out.below b')
      clear b' hHeld
      go_wp2_with fail
      refine hK.out _ _ HS.out (fun hHeld => ?_)
      clear hK K
      try simp only [Act.put, List.setIfInBounds_toArray, List.set_cons_zero, List.set_cons_succ]
      refine wpAnyH_ready (rs := [4]) (by kernel_rfl) (by simp) ?_
      refine AllReadyH.cons rfl (fun K hK => ?_) AllReadyH.nil
      go_simp
      go_at_call 10
      refine (HBL.out _).mono ?_
      rintro er w' ⟨rfl, b'⟩
      have HW := Lib.hid (HW.out.trans (b'.mono HW.out.size))
      have HS := Lib.hid (HS.out.below b')
      clear b' hHeld
      go_wp2_with fail
      refine hK.out _ _ HS.out (fun hHeld => ?_)
      clear hK K
      try simp only [Act.put, List.setIfInBounds_toArray, List.set_cons_zero, List.set_cons_succ]
      refine wpAnyH_ready (rs := [5]) (by kernel_rfl) (by simp) ?_
      refine AllReadyH.cons rfl (fun K hK => ?_) AllReadyH.nil
      go_simp
      go_at_call 16
      refine (HBY.out _).mono ?_
      rintro er w' ⟨rfl, b'⟩
      have HW := Lib.hid (HW.out.trans (b'.mono HW.out.size))
      have HS := Lib.hid (HS.out.below b')
      clear b' hHeld
      go_wp2_with fail
      refine hK.out _ _ HS.out (fun hHeld => ?_)
      clear hK K
      try simp only [Act.put, List.setIfInBounds_toArray, List.set_cons_zero, List.set_cons_succ]
      refine' wpAnyH_take (i := 6) (v := ?v2) rfl (by kernel_rfl) (by kernel_rfl) (by kernel_rfl) (fun _ _ _ h => h) (Or.inl ⟨by rfl, ?hy2⟩) (by assumption) ?rest2
      case hy2 => (intro w hSw; (try dsimp only at hSw); go_simp; try with_reducible rfl)
      try simp only [Act.put, List.setIfInBounds_toArray, List.set_cons_zero, List.set_cons_succ]
      refine' wpAnyH_take (i := 7) (v := ?v3) rfl (by kernel_rfl) (by kernel_rfl) (by kernel_rfl) (fun _ _ _ h => h) (Or.inl ⟨by rfl, ?hy3⟩) (by assumption) ?rest3
      case hy3 => (intro w hSw; (try dsimp only at hSw); go_simp; try with_reducible rfl)
      try simp only [Act.put, List.setIfInBounds_toArray, List.set_cons_zero, List.set_cons_succ]
      refine wpAnyH_ready (rs := [8]) (by kernel_rfl) (by simp) ?_
      refine AllReadyH.cons rfl (fun K hK => ?_) AllReadyH.nil
      go_simp
      go_at_call 12
      refine (shaAwake_any _).mono ?_
      rintro er w' ⟨rfl, b'⟩
      have HW := Lib.hid (HW.out.trans (b'.mono HW.out.size))
      have HS := Lib.hid (HS.out.below b')
      clear b' hHeld
      go_wp2_with fail
      refine hK.out _ _ HS.out (fun hHeld => ?_)
      clear hK K
      try simp only [Act.put, List.setIfInBounds_toArray, List.set_cons_zero, List.set_cons_succ]
      refine wpAnyH_take (i := 9) (v := .bool true) rfl (by kernel_rfl) (by kernel_rfl) (by kernel_rfl) (fun _ _ _ h => h) (Or.inl ⟨by rfl, ?_⟩) hHeld ?_
      · intro w hSw
        go_simp
      refine wpAnyH_take (i := 10) (v := .bool true) rfl (by kernel_rfl) (by kernel_rfl) (by kernel_rfl) (fun _ _ _ h => h) (Or.inl ⟨by rfl, ?_⟩) hHeld ?_
      · intro w hSw
        go_simp
      refine wpAnyH_done (by kernel_rfl) ?_ _
      refine NoPanic.normal ?_
      go_wp2
      go_ret
      exact ⟨rfl, HW.out⟩
end Go.Proofs.Ytclmnekadlpfkaa
