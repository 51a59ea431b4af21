/- awake; bytes: walks. -/
import Derived.Test.YtclmnekadlpfkaaShaAbc
namespace Go.Proofs.Ytclmnekadlpfkaa
open Go.RowKit
set_option linter.unusedVariables false
def abcLit : ByteArray := ⟨#[186, 120, 22, 191, 143, 1, 207, 234, 65, 65, 64, 222, 93, 174, 34, 35, 176, 3, 97, 163, 150, 23, 122, 156, 180, 16, 255, 97, 242, 0, 21, 173]⟩
theorem abc_is : shaSum [97, 98, 99] = abcLit := by
  rw [shaSum_eq]
  have h1 : padOf [97, 98, 99] = bAbc := by decide +kernel
  have h2 : nBlk ([97, 98, 99] : List UInt8).length = 1 := by decide
  rw [h1, h2]
  show (⟨(hUp (blockF H0 (bAbc.take 64)) 8).toArray⟩ : ByteArray) = abcLit
  rw [show bAbc.take 64 = bAbc by decide +kernel, show blockF H0 bAbc = blockF (fun i => shaFirst.getD i 0) bAbc from rfl, abcSum]
  rfl
set_option maxRecDepth 20000 in
theorem shaAwake_any (w : World) : Calls Try.prog 12 #[] w fun e w' => e = .returned (.bool true) ∧ Below w.heap.size w w' := by
  go_enter Try.func12, Try.ntmps12
  go_wp2_with fail
  refine (shaSum_any ⟨#[97, 98, 99]⟩ _ (by decide)).mono ?_
  rintro e w1 ⟨rfl, b1⟩
  rw [show shaSum (⟨#[97, 98, 99]⟩ : ByteArray).data.toList = abcLit from abc_is]
  unfold abcLit
  go_wp2
  go_ret
  exact ⟨rfl, b1⟩
theorem own_str (w : World) (B : Nat) (v : Value) (l : List UInt8) (h : w.ownsRow B 5 1 v l.length (Lib.byteCells l)) (h0 : l ≠ []) :
    (convert 36 9 v).run Try.prog w = .ok (.string ⟨l.toArray⟩) w := by
  have hl0 : l.length ≠ 0 := by simpa using h0
  obtain ⟨g, cap, rfl⟩ : ∃ g cap, v = .slice (some ⟨g, 0, none⟩) l.length cap := by
    rcases h.2 with ⟨_, hz⟩ | ⟨g, cap, cur, hv, r⟩
    · exact absurd hz hl0
    · exact ⟨g, cap, hv⟩
  refine run_bytes_str _ 36 9 5 Try.underlying36 Try.underlying5 Try.underlying9 g 0 l.length cap l rfl ?_
  intro i hi
  have := h.cells (g := g) rfl i (.int .u8 l[i].toNat) (by simp [Lib.byteCells, hi])
  rw [Addr.add_mid] at this
  exact this
set_option maxRecDepth 20000 in
set_option maxHeartbeats 4000000 in
theorem bytes_any (f : Nat → UInt32) (w : World) : Calls Try.prog 16 #[.agg (cellsOf 8 f)] w fun e w' => e = .returned (.string ⟨(hUp f 8).toArray⟩) ∧ Below w.heap.size w w' := by
  obtain ⟨i0, hi, hz0, hz1, hz2⟩ := info_parts bldByte
  have hlA : (Try.prog.info? 24).map (·.size) = some (cellsOf 8 f).size := by rw [cellsOf_size]; kernel_rfl
  have HlA := Lib.hid hlA; clear hlA
  have HR := Lib.hid (row_new w 24 (cellsOf 8 f))
  have HW0 := Lib.hid ((Below.refl w.heap.size w).alloc (Nat.le_refl _) (.cells (cellsOf 8 f) 24))
  have hix := fun k (hk : k < 8) W => index_hash (cellsOf 8 f) k _ hk (cellsOf_get f hk) W
  generalize cellsOf 8 f = A at *
  have HI := Lib.hid hix; clear hix
  go_enter Try.func16, Try.ntmps16
  go_wp2_with (refine wpList_load_row rfl _ _ rfl w.heap.size rfl 24 A (0, 0) _ HR.out Try.underlying24 rfl HlA.out ?_)
  go_loopw [3, 7] (fun v i wr => ∃ k : Nat, k ≤ 8 ∧ i = .int .i64 k ∧ Hid (wr.ownsRow w.heap.size 5 1 v (hUp f k).length (Lib.byteCells (hUp f k))) ∧ Hid (Below w.heap.size w wr)) (fun _ i _ => 8 - (intOf i).toNat)
  case atStart => exact ⟨0, by omega, rfl, World.ownsRow_nil _ _ _ _, HW0.out⟩
  case round =>
    obtain ⟨k, hk, rfl, HO, HW⟩ := hrel
    by_cases hlt : k < 8
    · have hix := fun W => HI.out k hlt W
      have HNX := Lib.hid (hUp_succ f k)
      have hlen := hUp_len f k
      generalize hUp f k = out at *
      generalize f k = x at *
      have y3 := by3 x
      have y2 := by2 x
      have y1 := by1 x
      have y0 := by0 x
      have HL4 : Hid (word4 x = [(x >>> 24).toUInt8, (x >>> 16).toUInt8, (x >>> 8).toUInt8, x.toUInt8]) := rfl
      generalize (x >>> 24).toUInt8 = c3 at *
      generalize (x >>> 16).toUInt8 = c2 at *
      generalize (x >>> 8).toUInt8 = c1 at *
      generalize x.toUInt8 = c0 at *
      have y3' : (c3.toNat : Int) % 256 = (c3.toNat : Int) := by have := c3.toNat_lt; omega
      have hsz : w.heap.size ≤ wr.heap.size := HW.out.size
      have lk : (k : Int) < 8 := by omega
      have hown := HO.out
      go_wp2_with (at_builtin; refine wpList_append_own _ rfl _ _ 36 rfl w.heap.size 5 i0 (.int .u8 0) 1 1 Try.underlying36 hi hz0 hz1 hz2 rfl (by decide) _ _ _ rfl (hown.alloc _) ⟨wr.heap.size, 0, none⟩ 4 4 [.int .u8 c3.toNat, .int .u8 c2.toNat, .int .u8 c1.toNat, .int .u8 c0.toNat] rfl rfl ?c1 ?c2 ?c3 ?c4 ?c5 ?_)
      case c1 =>
        intro j u hj
        match j, hj with
        | 0, hj => simp at hj; subst hj; simp [Addr.add]
        | 1, hj => simp at hj; subst hj; simp [Addr.add]
        | 2, hj => simp at hj; subst hj; simp [Addr.add]
        | 3, hj => simp at hj; subst hj; simp [Addr.add]
      case c2 => intro u hu; simp at hu; rcases hu with rfl | rfl | rfl | rfl <;> rfl
      case c3 => rw [hlen]; unfold maxLen; omega
      case c4 => rw [hlen]; omega
      case c5 => simp; omega
      intro v' w1 hown1 hgrow1 _
      have HO1 : Hid (w1.ownsRow w.heap.size 5 1 v' (out ++ word4 x).length (Lib.byteCells (out ++ word4 x))) := by
        unfold Hid; rw [HL4.out, show Lib.byteCells (out ++ [c3, c2, c1, c0]) = Lib.byteCells out ++ [.int .u8 c3.toNat, .int .u8 c2.toNat, .int .u8 c1.toNat, .int .u8 c0.toNat] by simp [Lib.byteCells]]
        rw [List.length_append, hlen]; exact hown1
      have HW2 : Hid (Below w.heap.size w w1) := (HW.out.alloc hsz _).grown hgrow1 (by simp; omega) (fun k hk => (hown.lt k hk).1)
      clear hown1 hgrow1
      go_wp2
      go_roundw
      case rel => exact ⟨k + 1, by omega, by go_num, by rw [HNX.out]; exact HO1.out, HW2⟩
      case measure => simp [intOf]; omega
    · obtain rfl : k = 8 := by omega
      have hn8 : hUp f 8 ≠ [] := by intro e; have := hUp_len f 8; rw [e] at this; cases this
      have hcv := own_str _ _ _ _ HO.out hn8
      have HW' := HW
      clear hn8
      go_wp2
      go_ret
      exact ⟨rfl, HW.out⟩
end Go.Proofs.Ytclmnekadlpfkaa
