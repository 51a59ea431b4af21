/- slices.Grow of nil, slices.Concat of two lists, parity.rows: walks. -/
import Derived.Test.YtdgnhnhmcobfkaaParRow
import Derived.Lib.AppendZeros
namespace Go.Proofs.Ytdgnhnhmcobfkaa
open Go.RowKit
set_option linter.unusedVariables false
set_option linter.unusedSimpArgs false
/-- append(nil, make([]string, n)...) -/
theorem zeros_any (w : World) (t tn ty : TypeId) (ht : Try.prog.underlying t = some (.slice 9)) (htn : Try.prog.underlying tn = some (.int .i64)) (n : Nat) (h0 : 0 < n) (hn : n ≤ 1000000000) :
    ∃ c w', (Builtin.append_ #[t, tn] ty #[.slice none 0 0, .int .i64 n]).run Try.prog w = .ok (.slice (some ⟨w.heap.size, 0, none⟩) n c) w' ∧ w'.ownsRow w.heap.size 9 1 (.slice (some ⟨w.heap.size, 0, none⟩) 0 c) 0 [] ∧ Below w.heap.size w w' ∧ c ≤ maxLen ∧ n ≤ c := by
  obtain ⟨i0, hi, hz0, hz1, hz2⟩ := info_parts strInfo
  have hr := Lib.run_append_nil_zeros (P := Try.prog) w t tn ty 9 i0 (.string ByteArray.empty) .i64 .i64 ht htn hi hz0 n h0 (by omega) (by omega) (by rw [hz2]; omega)
  have hge := grownCap_ge w n 0 9
  have hmx := grownCap_le_maxLen w n 0 9 (by unfold maxLen; omega)
  refine ⟨_, _, hr, ?_, ?_, hmx, hge⟩
  · have := World.ownsRow_made (base := w.heap.size) (e := 9) (size := 1) w.drew (Builtin.zeroCells (Value.string ByteArray.empty).cells n ++ Builtin.zeroCells (Value.string ByteArray.empty).cells (grownCap w n 0 9 - n)) (grownCap w n 0 9) (Nat.le_refl _) hmx (by
      have h1 : (Value.string ByteArray.empty).cells.size = 1 := rfl
      rw [Array.size_append, size_zeroCells, size_zeroCells, h1]; omega)
    exact this
  · exact (Below.refl _ _).drew.alloc (Nat.le_refl _) _
set_option maxRecDepth 20000 in
set_option maxHeartbeats 1000000 in
theorem grow_nil (n : Nat) (w : World) (hn : n ≤ 1000000000) :
    Calls Try.prog 72 #[.slice none 0 0, .int .i64 n] w fun e w' => ∃ v, e = .returned v ∧ w'.ownsRow w.heap.size 9 1 v 0 [] ∧ Below w.heap.size w w' := by
  by_cases h0 : 0 < n
  · have hd : decide (0 < (n : Int)) = true := by simp; omega
    have hd2 : decide ((n : Int) < 0) = false := by simp
    obtain ⟨c, w', hr, ho, hb, hc1, hc2⟩ := zeros_any w 31 3 31 Try.underlying31 Try.underlying3 n h0 hn
    have HO := Lib.hid ho
    have HB := Lib.hid hb
    clear ho hb
    have hcI : c ≤ 9223372036854775807 := by unfold maxLen at hc1; omega
    go_enter Try.func72, Try.ntmps72
    go_wp2_with (at_builtin; refine Lib.wpList_append_run _ rfl _ _ _ _ rfl _ _ rfl rfl _ _ hr ?_)
    go_wp2_with fail
    go_ret
    exact ⟨_, rfl, HO.out, HB.out⟩
  · obtain rfl : n = 0 := by omega
    go_enter Try.func72, Try.ntmps72
    go_wp2_with fail
    go_ret
    exact ⟨_, rfl, World.ownsRow_nil _ _ _ _, Below.refl _ _⟩
set_option maxRecDepth 20000 in
set_option maxHeartbeats 2000000 in
theorem concat2 (w : World) (g : Nat) (va vb : Value) (la lb : List ByteArray) (c0 : w.cell? ⟨g, 0, none⟩ = some va) (c1 : w.cell? ⟨g, 1, none⟩ = some vb) (ha : StrsN w va la) (hb : StrsN w vb lb) (h1 : la.length ≤ 1000000) (h2 : lb.length ≤ 1000000) (hg : g < w.heap.size) :
    Calls Try.prog 64 #[.slice (some ⟨g, 0, none⟩) 2 2] w fun e w' => ∃ v, e = .returned v ∧ StrsN w' v (la ++ lb) ∧ Below w.heap.size w w' := by
  have HA := Lib.hid ha
  have HB := Lib.hid hb
  have HG := Lib.hid (grow_nil (la.length + lb.length) w (by omega))
  have C0 := Lib.hid c0
  have C1 := Lib.hid c1
  obtain ⟨A, ca, rfl, _, _⟩ := ha.1.len
  obtain ⟨A2, cb, rfl, _, _⟩ := hb.1.len
  clear ha hb
  have hz1 : decide (((la.length : Int)) < 0) = false := by simp
  have hz2 : decide (((la.length : Int) + (lb.length : Int)) < 0) = false := by simp; omega
  have hsum : ((la.length + lb.length : Nat) : Int) = (la.length : Int) + (lb.length : Int) := by omega
  rw [hsum] at HG
  clear hsum
  go_enter Try.func64, Try.ntmps64
  go_wp2_with fail
  refine wp_loop_rounds 3 ?_
  rw [rounds_succ]
  go_wp2_with fail
  rw [rounds_succ]
  go_wp2_with fail
  rw [rounds_succ]
  go_wp2_with fail
  refine HG.out.mono ?_
  rintro e w1 ⟨v1, rfl, o1, b1⟩
  have HO := Lib.hid o1
  have HW := Lib.hid b1
  have d0 : w1.cell? ⟨g, 0, none⟩ = some (.slice A la.length ca) := (b1.cell (p := ⟨g, 0, none⟩) hg).trans C0.out
  have d1 : w1.cell? ⟨g, 1, none⟩ = some (.slice A2 lb.length cb) := (b1.cell (p := ⟨g, 1, none⟩) hg).trans C1.out
  have HA1 := Lib.hid (HA.out.below b1 (Nat.le_refl _))
  have hs1 := b1.size
  clear c0 c1 o1 b1 HA HG d1
  go_wp2_with fail
  refine wp_loop_rounds 3 ?_
  rw [rounds_succ]
  go_wp2_with (at_builtin; refine wpList_append_strs rfl _ _ 31 rfl Try.underlying31 w.heap.size v1 [] rfl HO.out _ la rfl HA1.out (by simp; omega) hs1 ?_)
  intro v2 w2 o2 g2
  have HO2 := Lib.hid o2
  have HW2 : Hid (Below w.heap.size w w2) := HW.out.grown g2 hs1 (fun k hk => (HO.out.lt k hk).1)
  have d1 : w2.cell? ⟨g, 1, none⟩ = some (.slice A2 lb.length cb) := (HW2.out.cell (p := ⟨g, 1, none⟩) hg).trans C1.out
  have HB2 := Lib.hid (HB.out.below HW2.out (Nat.le_refl _))
  have hs2 := HW2.out.size
  clear o2 g2 HO HW HA1 HB d0 hs1
  go_wp2_with fail
  rw [rounds_succ]
  go_wp2_with (at_builtin; refine wpList_append_strs rfl _ _ 31 rfl Try.underlying31 w.heap.size v2 la rfl HO2.out _ lb rfl HB2.out (by omega) hs2 ?_)
  intro v3 w3 o3 g3
  have HO3 : Hid (w3.ownsRow w.heap.size 9 1 v3 (la ++ lb).length ((la ++ lb).map .string)) := by unfold Hid; simpa using o3
  have HW3 : Hid (Below w.heap.size w w3) := HW2.out.grown g3 hs2 (fun k hk => (HO2.out.lt k hk).1)
  clear o3 g3 HO2 HW2 HB2 d1 hs2
  go_wp2_with fail
  rw [rounds_succ]
  go_wp2_with fail
  go_ret
  exact ⟨_, rfl, StrsN.of_owns HO3.out, HW3.out⟩
set_option maxRecDepth 20000 in
set_option maxHeartbeats 4000000 in
theorem rows_any (k p : Nat) (w : World) (hk0 : 0 < k) (hk : k ≤ 16) (hp0 : 0 < p) (hp : p ≤ 16) :
    Calls Try.prog 53 #[.int .i64 k, .int .i64 p] w fun e w' => ∃ v, e = .returned v ∧ StrsN w' v (rowsP k p) ∧ Below w.heap.size w w' := by
  have HMX := Lib.hid (fun w => matrix_ok k p w hk0 hk hp0 hp)
  have HRP : Hid ((List.range k).map (fun i => bytesF k (dI i)) ++ parM k p = rowsP k p) := rfl
  have hkI : k ≤ 9223372036854775807 := by omega
  go_enter Try.func53, Try.ntmps53
  go_wp2_with fail
  go_loopw [5, 9] (fun v q wr => ∃ i : Nat, i ≤ k ∧ q = .int .i64 i ∧ Hid (wr.ownsRow w.heap.size 9 1 v ((List.range i).map fun i => bytesF k (dI i)).length (((List.range i).map fun i => bytesF k (dI i)).map .string)) ∧ Hid (Below w.heap.size w wr)) (fun _ q _ => k - (intOf q).toNat)
  case atStart => exact ⟨0, Nat.zero_le _, rfl, World.ownsRow_nil _ _ _ _, Below.refl _ _⟩
  case round =>
    obtain ⟨i, hi, rfl, HO, HBr⟩ := hrel
    by_cases hlt : i < k
    · have hlt' : (i : Int) < (k : Int) := by omega
      go_wp2_with (at_make; refine wpList_make_bytes rfl _ _ 63 rfl Try.underlying63 k rfl rfl (by omega) ?_)
      intro w1 hF hB
      have e1 : w1.cell? ⟨wr.heap.size, i, none⟩ = some (.int .u8 0) := hF.cell i hlt
      have f1 : w1.frozen? ⟨wr.heap.size, i, none⟩ = false := hF.free i hlt
      have hF2 : FRow (w1.setCell ⟨wr.heap.size, i, none⟩ (.int .u8 1)) wr.heap.size k (updB (fun _ => 0) i 1) := hF.set i 1 hlt
      have hcs := conv_str hF2 0 k k (by omega)
      have HE : Hid (bytesF k (fun q => updB (fun _ => 0) i 1 (0 + q)) = bytesF k (dI i)) := bytesF_congr fun q hq => by
        unfold updB dI
        rw [Nat.zero_add]
        by_cases e : q = i
        · rw [if_pos e, if_pos e.symm]
        · rw [if_neg e, if_neg (fun e2 => e e2.symm)]
      rw [HE.out] at hcs
      have hb2 : Below wr.heap.size wr (w1.setCell ⟨wr.heap.size, i, none⟩ (.int .u8 1)) := hB.setCell (Nat.le_refl _) _
      have hown2 := HO.out.kept (grown_of_below hb2 none) (by
        by_cases e : u5.ownBlock = none
        · exact .inl e
        · exact .inr e)
      have hi3 : ((List.range i).map fun i => bytesF k (dI i)).length + 1 ≤ 1000000000 := by simp; omega
      have HR : Hid (((List.range i).map fun i => bytesF k (dI i)) ++ [bytesF k (dI i)] = (List.range (i + 1)).map fun i => bytesF k (dI i)) := by unfold Hid; rw [List.range_succ, List.map_append]; rfl
      have HB2 := Lib.hid hb2
      have hs1 := HBr.out.size
      have hs2 : wr.heap.size ≤ w1.heap.size := hB.size
      generalize bytesF k (dI i) = z at *
      generalize ((List.range i).map fun i => bytesF k (dI i)) = out at *
      clear hF hF2 hB HE hb2
      go_wp2_with (at_builtin; refine wpList_push_str rfl _ _ 31 rfl Try.underlying31 w.heap.size _ out rfl (hown2.alloc _) ⟨w1.heap.size, 0, none⟩ _ z rfl ?hcell hi3 (by simp; omega) ?_)
      case hcell =>
        have h := heap_alloc_new (w1.setCell ⟨wr.heap.size, i, none⟩ (.int .u8 1)) (.cells #[.string z] 9)
        rw [World.size_setCell] at h
        exact (cell_of_row _ _ 0 _ _ _ h).trans rfl
      intro v' w4 hown4 hg4
      have HO4 : Hid (w4.ownsRow w.heap.size 9 1 v' ((List.range (i + 1)).map fun i => bytesF k (dI i)).length (((List.range (i + 1)).map fun i => bytesF k (dI i)).map .string)) := by unfold Hid; rw [← HR.out]; simpa using hown4
      have HB4 : Hid (Below w.heap.size w w4) := ((HBr.out.trans (HB2.out.mono hs1)).alloc (by simp; omega) _).grown hg4 (by simp; omega) (fun k hk => (hown2.lt k hk).1)
      clear hown4 hg4 hcs e1 f1 hown2
      go_wp2_with fail
      go_roundw
      case rel => exact ⟨i + 1, by omega, by go_num, HO4, HB4⟩
      case measure => simp [intOf]; omega
    · obtain rfl : i = k := by omega
      obtain ⟨A5, c5, hv5⟩ := own_sl HO.out
      subst hv5
      have HS := Lib.hid (StrsN.of_owns HO.out)
      have hln : ((List.range i).map fun i' => bytesF i (dI i')).length ≤ 1000000 := by simp; omega
      have hlm : (parM i p).length ≤ 1000000 := by rw [parM_len]; omega
      generalize ((List.range i).map fun i' => bytesF i (dI i')) = L1 at *
      obtain ⟨L2, hL2⟩ : ∃ L2, L2 = parM i p := ⟨_, rfl⟩
      rw [← hL2] at HMX HRP hlm
      clear hL2
      go_wp2_with fail
      refine (HMX.out _).mono ?_
      rintro e w2 ⟨v2, rfl, s2, b2⟩
      obtain ⟨A6, c6, rfl, _, _⟩ := s2.1.len
      have hb3 : Below w2.heap.size w2 (w2.alloc (.cells #[.slice A5 L1.length c5, .slice A6 L2.length c6] 31)) := (Below.refl _ _).alloc (Nat.le_refl _) _
      have HC := Lib.hid (concat2 (w2.alloc (.cells #[.slice A5 L1.length c5, .slice A6 L2.length c6] 31)) w2.heap.size _ _ L1 L2 (by simp) (by simp) ((HS.out.below b2 (Nat.le_refl _)).below hb3 (Nat.le_refl _)) (s2.below hb3 (Nat.le_refl _)) hln hlm (by simp))
      have HW := Lib.hid (HBr.out.trans (b2.mono HBr.out.size))
      have hs5 := HW.out.size
      clear s2 b2 hb3 HS HO
      go_wp2_with fail
      refine HC.out.mono ?_
      rintro e w3 ⟨v3, rfl, s3, b3⟩
      have H3 := Lib.hid s3
      have HW3 : Hid (Below w.heap.size w w3) := (HW.out.alloc hs5 _).trans (b3.mono (by simp; omega))
      clear s3 b3 HC
      go_wp2_with fail
      go_ret
      exact ⟨_, rfl, by rw [← HRP.out]; exact H3.out, HW3.out⟩
end Go.Proofs.Ytdgnhnhmcobfkaa
