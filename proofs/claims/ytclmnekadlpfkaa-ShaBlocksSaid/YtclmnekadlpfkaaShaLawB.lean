/- ShaBlocks: its walk. -/
import Derived.Test.YtclmnekadlpfkaaShaAwake
import Derived.Test.YtclmnekadlpfkaaShaRefBlock
import Derived.Test.YtclmnekadlpfkaaShaEq
import Derived.Deep.RegionHeld3
namespace Go.Proofs.Ytclmnekadlpfkaa
open Go.RowKit
set_option linter.unusedVariables false
theorem flat_u8 : ∀ l : List UInt8, List.flatMap EU8 l = l.map (fun b => Value.int .u8 b.toNat)
  | [] => rfl
  | b :: l => by rw [List.flatMap_cons, flat_u8 l]; rfl
theorem flat_u32 : ∀ l : List UInt32, List.flatMap EU32 l = l.map (fun b => Value.int .u32 b.toNat)
  | [] => rfl
  | b :: l => by rw [List.flatMap_cons, flat_u32 l]; rfl
theorem words_list (b : List UInt32) (n : Nat) (h : b.length = n) : (b.map (fun c => Value.int .u32 c.toNat)).toArray = cellsOf n (fun i => b.getD i 0) := by
  subst h
  apply Array.ext
  · simp [cellsOf]
  · intro i h1 h2
    have hi : i < b.length := by simpa using h1
    simp [cellsOf, hi]
set_option maxRecDepth 20000 in
set_option maxHeartbeats 4000000 in
theorem blocks_walk (W : World) (A X C0 C1 : Array Value) (hA : A.size = 8) (hX : X.size = 64)
    (hqF : ∀ w, (binOp .eql 24 (.agg C0) (.agg C0)).run Try.prog w = .ok (.bool true) w) (hqG : ∀ w, (binOp .eql 24 (.agg C1) (.agg C1)).run Try.prog w = .ok (.bool true) w)
    (HF1 : Hid (∀ w, Calls Try.prog 8 #[] w fun e w' => e = .returned (.agg C0) ∧ Below w.heap.size w w'))
    (HF2 : Hid (∀ w, Calls Try.prog 9 #[] w fun e w' => e = .returned (.agg C0) ∧ Below w.heap.size w w'))
    (HB : Hid (∀ w, Calls Try.prog 10 #[.agg A, .agg X] w fun e w' => e = .returned (.agg C1) ∧ Below w.heap.size w w'))
    (HR : Hid (∀ w, Calls Try.prog 11 #[.agg A, .agg X] w fun e w' => e = .returned (.agg C1) ∧ Below w.heap.size w w')) :
    Calls Try.prog 3 #[.agg A, .agg X] W fun e w' => e = .returned (.bool true) ∧ Below W.heap.size W w' := by
  have hlA : (Try.prog.info? 24).map (·.size) = some A.toList.length := by rw [Array.length_toList, hA]; kernel_rfl
  have hlX : (Try.prog.info? 25).map (·.size) = some X.toList.length := by rw [Array.length_toList, hX]; kernel_rfl
  have HlA := Lib.hid hlA; clear hlA
  have HlX := Lib.hid hlX; clear hlX
  clear hA hX
  go_enter Try.func3, Try.ntmps3
  go_wp2_with fail
  have hsA : ((W.alloc (.cells A 24)).alloc (.cells X 25)).drew.rangeAt W.heap.size 0 A.toList := by
    intro j v hj
    have h := Row.alloc (row_new W 24 A) (.cells X 25)
    have : ((W.alloc (.cells A 24)).alloc (.cells X 25)).cell? ⟨W.heap.size, 0 + j, none⟩ = some v := by
      rw [Nat.zero_add, cell_of_row _ _ j _ _ _ h]; simpa using hj
    exact this
  have hsX : ((W.alloc (.cells A 24)).alloc (.cells X 25)).drew.rangeAt (W.heap.size + 1) 0 X.toList := by
    intro j v hj
    have h := row_new (W.alloc (.cells A 24)) 25 X
    rw [show (W.alloc (.cells A 24)).heap.size = W.heap.size + 1 by simp] at h
    have : ((W.alloc (.cells A 24)).alloc (.cells X 25)).cell? ⟨W.heap.size + 1, 0 + j, none⟩ = some v := by
      rw [Nat.zero_add, cell_of_row _ _ j _ _ _ h]; simpa using hj
    exact this
  have HW : Hid (Below W.heap.size W ((W.alloc (.cells A 24)).alloc (.cells X 25)).drew) := (((Below.refl _ _).alloc (Nat.le_refl _) _).alloc (by simp) _).drew
  have hsz : W.heap.size + 2 ≤ ((W.alloc (.cells A 24)).alloc (.cells X 25)).drew.heap.size := by simp
  have HS := Lib.hid (And.intro hsA hsX)
  clear hsA hsX
  refine wp_region_noPanic ?_
  refine wp_region_held_drew (S := fun w' => w'.rangeAt W.heap.size 0 A.toList ∧ w'.rangeAt (W.heap.size + 1) 0 X.toList) (by kernel_rfl) HS.out (fun hHeld => ?_)
  generalize ((W.alloc (.cells A 24)).alloc (.cells X 25)).drew = wz at *
  refine wpAnyH_ready (rs := [0]) (by kernel_rfl) (by simp) ?_
  refine AllReadyH.cons rfl (fun K hK => ?_) AllReadyH.nil
  go_simp
  go_at_call 8
  refine (HF1.out _).mono ?_
  rintro er w' ⟨rfl, b'⟩
  have HW := Lib.hid (HW.out.trans (b'.mono HW.out.size))
  have HS := Lib.hid (And.intro (range_below HS.out.1 b' (by omega)) (range_below HS.out.2 b' (by omega)))
  have hsz := Nat.le_trans hsz b'.size
  clear b' hHeld
  go_wp2_with fail
  refine hK.out _ _ HS.out (fun hHeld => ?_)
  clear hK K
  refine wpAnyH_ready (rs := [1]) (by kernel_rfl) (by simp) ?_
  refine AllReadyH.cons rfl (fun K hK => ?_) AllReadyH.nil
  go_simp
  go_at_call 9
  refine (HF2.out _).mono ?_
  rintro er w' ⟨rfl, b'⟩
  have HW := Lib.hid (HW.out.trans (b'.mono HW.out.size))
  have HS := Lib.hid (And.intro (range_below HS.out.1 b' (by omega)) (range_below HS.out.2 b' (by omega)))
  have hsz := Nat.le_trans hsz b'.size
  clear b' hHeld
  go_wp2_with fail
  refine hK.out _ _ HS.out (fun hHeld => ?_)
  clear hK K
  refine wpAnyH_take (i := 2) (v := .bool true) rfl (by kernel_rfl) (by kernel_rfl) (by kernel_rfl) (fun _ _ _ h => h) (Or.inl ⟨by rfl, ?_⟩) hHeld ?_
  · intro w hSw
    go_simp
  refine wpAnyH_take (i := 3) (v := .bool true) rfl (by kernel_rfl) (by kernel_rfl) (by kernel_rfl) (fun _ _ _ h => h) (Or.inl ⟨by rfl, ?_⟩) hHeld ?_
  · intro w hSw
    go_simp
  refine wpAnyH_take (i := 4) (v := .agg A.toList.toArray) rfl (by kernel_rfl) (by kernel_rfl) (by kernel_rfl) (fun _ _ _ h => h) (yieldsIf_load_mid (by rfl) 24 _ rfl W.heap.size 0 rfl A.toList _ (fun w h => h.1) Try.underlying24 rfl HlA.out) hHeld ?_
  refine wpAnyH_take (i := 5) (v := .agg X.toList.toArray) rfl (by kernel_rfl) (by kernel_rfl) (by kernel_rfl) (fun _ _ _ h => h) (yieldsIf_load_mid (by rfl) 25 _ rfl (W.heap.size + 1) 0 rfl X.toList _ (fun w h => h.2) Try.underlying25 rfl HlX.out) hHeld ?_
  refine wpAnyH_take (i := 7) (v := .agg A.toList.toArray) rfl (by kernel_rfl) (by kernel_rfl) (by kernel_rfl) (fun _ _ _ h => h) (yieldsIf_load_mid (by rfl) 24 _ rfl W.heap.size 0 rfl A.toList _ (fun w h => h.1) Try.underlying24 rfl HlA.out) hHeld ?_
  refine wpAnyH_take (i := 8) (v := .agg X.toList.toArray) rfl (by kernel_rfl) (by kernel_rfl) (by kernel_rfl) (fun _ _ _ h => h) (yieldsIf_load_mid (by rfl) 25 _ rfl (W.heap.size + 1) 0 rfl X.toList _ (fun w h => h.2) Try.underlying25 rfl HlX.out) hHeld ?_
  refine wpAnyH_ready (rs := [6]) (by kernel_rfl) (by simp) ?_
  refine AllReadyH.cons rfl (fun K hK => ?_) AllReadyH.nil
  go_simp
  go_at_call 10
  refine (HB.out _).mono ?_
  rintro er w' ⟨rfl, b'⟩
  have HW := Lib.hid (HW.out.trans (b'.mono HW.out.size))
  have HS := Lib.hid (And.intro (range_below HS.out.1 b' (by omega)) (range_below HS.out.2 b' (by omega)))
  have hsz := Nat.le_trans hsz b'.size
  clear b' hHeld
  go_wp2_with fail
  refine hK.out _ _ HS.out (fun hHeld => ?_)
  clear hK K
  refine wpAnyH_ready (rs := [9]) (by kernel_rfl) (by simp) ?_
  refine AllReadyH.cons rfl (fun K hK => ?_) AllReadyH.nil
  go_simp
  go_at_call 11
  refine (HR.out _).mono ?_
  rintro er w' ⟨rfl, b'⟩
  have HW := Lib.hid (HW.out.trans (b'.mono HW.out.size))
  have HS := Lib.hid (And.intro (range_below HS.out.1 b' (by omega)) (range_below HS.out.2 b' (by omega)))
  have hsz := Nat.le_trans hsz b'.size
  clear b' hHeld
  go_wp2_with fail
  refine hK.out _ _ HS.out (fun hHeld => ?_)
  clear hK K
  refine wpAnyH_take (i := 10) (v := .bool true) rfl (by kernel_rfl) (by kernel_rfl) (by kernel_rfl) (fun _ _ _ h => h) (Or.inl ⟨by rfl, ?_⟩) hHeld ?_
  · intro w hSw
    go_simp
  refine wpAnyH_take (i := 11) (v := .bool true) rfl (by kernel_rfl) (by kernel_rfl) (by kernel_rfl) (fun _ _ _ h => h) (Or.inl ⟨by rfl, ?_⟩) hHeld ?_
  · intro w hSw
    go_simp
  refine wpAnyH_take (i := 12) (v := .bool true) rfl (by kernel_rfl) (by kernel_rfl) (by kernel_rfl) (fun _ _ _ h => h) (Or.inl ⟨by rfl, ?_⟩) hHeld ?_
  · intro w hSw
    go_simp
  refine wpAnyH_ready (rs := [13]) (by kernel_rfl) (by simp) ?_
  refine AllReadyH.cons rfl (fun K hK => ?_) AllReadyH.nil
  go_simp
  go_at_call 12
  refine (shaAwake_any _).mono ?_
  rintro er w' ⟨rfl, b'⟩
  have HW := Lib.hid (HW.out.trans (b'.mono HW.out.size))
  have HS := Lib.hid (And.intro (range_below HS.out.1 b' (by omega)) (range_below HS.out.2 b' (by omega)))
  have hsz := Nat.le_trans hsz b'.size
  clear b' hHeld
  go_wp2_with fail
  refine hK.out _ _ HS.out (fun hHeld => ?_)
  clear hK K
  refine wpAnyH_take (i := 14) (v := .bool true) rfl (by kernel_rfl) (by kernel_rfl) (by kernel_rfl) (fun _ _ _ h => h) (Or.inl ⟨by rfl, ?_⟩) hHeld ?_
  · intro w hSw
    go_simp
  refine wpAnyH_take (i := 15) (v := .bool true) rfl (by kernel_rfl) (by kernel_rfl) (by kernel_rfl) (fun _ _ _ h => h) (Or.inl ⟨by rfl, ?_⟩) hHeld ?_
  · intro w hSw
    go_simp
  refine wpAnyH_done (by kernel_rfl) ?_ _
  refine NoPanic.normal ?_
  go_wp2
  go_ret
  exact ⟨rfl, HW.out⟩
theorem shaBlocks_ok (W : World) (x0 : (List UInt32)) (w0 : x0.length = 8 ∧ ∀ y ∈ x0, True) (x1 : (List UInt8)) (w1 : x1.length = 64 ∧ ∀ y ∈ x1, True) :
    Calls Try.prog 3 #[.agg ((fun xs => List.flatMap EU32 xs) x0).toArray, .agg ((fun xs => List.flatMap EU8 xs) x1).toArray] W fun e w' => e = .returned (.bool true) ∧ Below W.heap.size W w' := by
  obtain ⟨h0, _⟩ := w0
  obtain ⟨h1, _⟩ := w1
  have e0 : (List.flatMap EU32 x0).toArray = cellsOf 8 (fun i => x0.getD i 0) := by rw [flat_u32, words_list x0 8 h0]
  have e1 : (List.flatMap EU8 x1).toArray = bytesOf 64 (fun i => x1.getD i 0) := by rw [flat_u8, bytesOf_list x1 64 h1]
  show Calls _ _ #[.agg (List.flatMap EU32 x0).toArray, .agg (List.flatMap EU8 x1).toArray] W _
  rw [e0, e1]
  exact blocks_walk W (cellsOf 8 (fun i => x0.getD i 0)) (bytesOf 64 (fun i => x1.getD i 0)) (cellsOf 8 (fun i => shaFirst.getD i 0)) (cellsOf 8 (blockF (fun i => x0.getD i 0) x1)) (cellsOf_size _ _) (bytesOf_size _ _) (hash_eq _) (hash_eq _) first_any refFirst_any (block_any _ x1 h1) (refBlock_any _ x1 h1)
end Go.Proofs.Ytclmnekadlpfkaa
