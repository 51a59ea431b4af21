/- Send at an end that only waits. -/
import Derived.Test.YtjgjhjecgdndjaaLoLed
namespace Go.Proofs.Ytjgjhjecgdndjaa
open Go.RowKit
set_option linter.unusedVariables false
set_option linter.unusedSimpArgs false
theorem own_emptyS (w : World) : (w.alloc (.cells #[] 9)).ownsRow w.heap.size 9 1 (.slice (some ⟨w.heap.size, 0, none⟩) 0 0) ([] : List ByteArray).length (([] : List ByteArray).map .string) := by
  refine ⟨rfl, .inr ⟨w.heap.size, 0, #[], rfl, Nat.le_refl _, World.alloc_heap_new w _, Nat.le_refl _, by unfold maxLen; omega, by simp, by simp⟩⟩
set_option maxRecDepth 20000 in
set_option maxHeartbeats 1000000 in
theorem cloneS_any (v : Value) (l : List ByteArray) (w : World) (h : StrsN w v l) (hl : l.length ≤ 1000000) : Calls Try.prog 30 #[v] w fun e w' => ∃ v', e = .returned v' ∧ w'.ownsRow w.heap.size 9 1 v' l.length (l.map .string) ∧ Below w.heap.size w w' := by
  obtain ⟨A, c, rfl, h2, h3, h4⟩ := h.1
  have H := Lib.hid h
  cases A with
  | none =>
    have hl0 : l = [] := by
      refine List.eq_nil_of_length_eq_zero ?_
      refine Decidable.byContradiction fun hh => ?_
      obtain ⟨b, off, e, _⟩ := h4 (by omega)
      cases e
    subst hl0
    obtain rfl := h.2 _ _ rfl
    refine (cloneS_nil w).mono ?_
    rintro e w' ⟨rfl, rfl⟩
    exact ⟨_, rfl, World.ownsRow_nil _ _ _ _, Below.refl _ _⟩
  | some ad =>
    have hnil : ∀ W, (binOp .eql 33 (.slice (some ad) l.length c) (.slice none 0 0)).run Try.prog W = .ok (.bool false) W := fun W => Lib.run_eql_slice_some_nil W _ _ _ Try.underlying33
    have HL := Lib.hid hl
    obtain ⟨n, hn⟩ : ∃ n, n = l.length := ⟨_, rfl⟩
    have HN := Lib.hid hn.symm
    rw [← hn] at hnil H ⊢
    clear h h2 h3 h4 hl hn
    go_enter Try.func30, Try.ntmps30
    go_wp2_with (at_builtin; refine wpList_append_sAt rfl _ _ 33 rfl Try.underlying33 w.heap.size (.slice (some ⟨w.heap.size, 0, none⟩) 0 0) [] rfl (own_emptyS w) (.slice (some ad) n c) l rfl (H.out.below ((Below.refl _ _).alloc (Nat.le_refl _) _) (Nat.le_refl _)) (by have := HL.out; simp; omega) (by simp) ?_)
    intro v' w' h1 h2 h3
    have hb : Below w.heap.size w w' := ((Below.refl _ _).alloc (Nat.le_refl _) _).grown h2 (by simp) (fun k hk => by cases hk; exact Nat.le_refl _)
    rw [HN.out] at h1
    have H1 := Lib.hid h1
    clear h2 h1 h3
    go_wp2_with fail
    go_ret
    exact ⟨_, rfl, H1.out, hb⟩
set_option maxRecDepth 20000 in
set_option maxHeartbeats 1000000 in
theorem badText_no (w : World) : Calls Try.prog 29 #[.string ⟨#[]⟩] w fun e w' => e = .returned (.bool true) ∧ w = w' := by
  go_enter Try.func29, Try.ntmps29
  go_wp2
  go_ret
  exact ⟨rfl, rfl⟩
set_option maxRecDepth 20000 in
set_option maxHeartbeats 2000000 in
theorem send_no (ses : UInt64) (Aw : Option Addr) (nw cw : Nat) (w : World) :
    Calls Try.prog 12 #[End8 ses.toNat 0 (.slice none 0 0) (.slice Aw nw cw) 0 (.slice none 0 0) 0 false, .string ⟨#[]⟩] w fun e w' => e = .returned (.tuple #[End8 ses.toNat 0 (.slice none 0 0) (.slice Aw nw cw) 0 (.slice none 0 0) 0 false, .int .i64 4]) ∧ Below w.heap.size w w' := by
  have HBT := Lib.hid badText_no
  unfold End8
  go_enter Try.func12, Try.ntmps12
  go_wp2_with fail
  refine (HBT.out _).mono ?_
  rintro e w' ⟨rfl, rfl⟩
  go_wp2_with fail
  (try simp only [Exit.inBlock, Exit.then])
  refine bodyPost_cell (V := .agg #[.int .u64 ses.toNat, .int .i64 0, .slice none 0 0, .slice Aw nw cw, .int .i64 0, .slice none 0 0, .int .i64 0, .bool false]) rfl rfl ?_ rfl ?_
  · go_simp
  · exact ⟨rfl, ((Below.refl _ _).alloc (Nat.le_refl _) _).alloc (by simp) _⟩
set_option maxRecDepth 20000 in
set_option maxHeartbeats 2000000 in
theorem send_yes (ses : UInt64) (vw : Value) (lw : List ByteArray) (s : ByteArray) (h0 : s ≠ ⟨#[]⟩) (h1 : s.size ≤ 60000) (w : World) (hw : StrsN w vw lw) (hl : lw.length ≤ 60) :
    Calls Try.prog 12 #[End8 ses.toNat 0 (.slice none 0 0) vw 0 (.slice none 0 0) 0 false, .string s] w fun e w' => ∃ v', e = .returned (.tuple #[End8 ses.toNat 0 (.slice none 0 0) v' 0 (.slice none 0 0) 0 false, .int .i64 0]) ∧ w'.ownsRow w.heap.size 9 1 v' (lw ++ [s]).length ((lw ++ [s]).map .string) ∧ Below w.heap.size w w' := by
  have HBT := Lib.hid (badText_a s h0 h1)
  obtain ⟨Aw, cw, rfl, _, _⟩ := hw.1.len
  obtain ⟨nw, hnw⟩ : ∃ x, x = lw.length := ⟨_, rfl⟩
  have HNW := Lib.hid hnw.symm
  rw [← hnw] at hw hl ⊢
  have HWT := Lib.hid hw
  clear h0 h1 hw hnw
  unfold End8
  go_enter Try.func12, Try.ntmps12
  go_wp2_with fail
  refine (HBT.out _).mono ?_
  rintro e w' ⟨rfl, rfl⟩
  have hd1 : decide ((300 : Int) ≤ (nw : Int)) = false := by simp; omega
  have hd2 : decide ((1073741824 : Int) ≤ (nw : Int)) = false := by simp; omega
  have hz1 : ¬ ((300 : Int) ≤ (nw : Int)) := by omega
  have hz2 : ¬ ((1073741824 : Int) ≤ (nw : Int)) := by omega
  have hz3 : ¬ (1073741824 ≤ nw) := by omega
  have hz4 : ¬ (300 ≤ nw) := by omega
  clear hl
  go_wp2_with fail
  have q1 := World.alloc_heap_new w (.cells #[.int .u64 ses.toNat, .int .i64 0, .slice none 0 0, .slice Aw nw cw, .int .i64 0, .slice none 0 0, .int .i64 0, .bool false] 37)
  obtain ⟨wp, hwp⟩ : ∃ wp, wp = w.alloc (.cells #[.int .u64 ses.toNat, .int .i64 0, .slice none 0 0, .slice Aw nw cw, .int .i64 0, .slice none 0 0, .int .i64 0, .bool false] 37) := ⟨_, rfl⟩
  have hsp : wp.heap.size = w.heap.size + 1 := by rw [hwp]; simp
  rw [← hwp] at q1 ⊢
  have HBp : Hid (Below w.heap.size w wp) := by unfold Hid; rw [hwp]; exact (Below.refl _ _).alloc (Nat.le_refl _) _
  have q2 := World.alloc_heap_new wp (.cells #[.int .u64 0, .int .i64 0, .slice none 0 0, .slice none 0 0, .int .i64 0, .slice none 0 0, .int .i64 0, .bool false] 37)
  obtain ⟨wo, hwo⟩ : ∃ wo, wo = wp.alloc (.cells #[.int .u64 0, .int .i64 0, .slice none 0 0, .slice none 0 0, .int .i64 0, .slice none 0 0, .int .i64 0, .bool false] 37) := ⟨_, rfl⟩
  rw [← hwo, hsp] at q2
  rw [← hwo]
  have HBo : Hid (Below wp.heap.size wp wo) := by unfold Hid; rw [hwo]; exact (Below.refl _ _).alloc (Nat.le_refl _) _
  have hso : wo.heap.size = w.heap.size + 1 + 1 := by rw [hwo]; simp [hsp]
  have HX1 := Lib.hid ((cells8 q1).below HBo.out (by omega))
  have HX2 := Lib.hid (cells8 q2)
  have HB := Lib.hid (HBp.out.trans (HBo.out.mono (by omega)))
  have HSO := Lib.hid hso
  clear q1 q2 hwp hwo hsp hso HBp HBo
  clear wp
  refine (cloneS_any _ lw wo (HWT.out.below HB.out (Nat.le_refl _)) (by have := HNW.out; omega)).mono ?_
  rintro e w1 ⟨v1, rfl, o1, b1⟩
  obtain ⟨A1, c1, rfl, _, _⟩ := (StrsN.of_owns o1).1.len
  have hs1 : w.heap.size + 2 ≤ w1.heap.size := by have := b1.size; have := HSO.out; omega
  have HY1 := Lib.hid (HX1.out.below b1 (by have := HSO.out; omega))
  have HY2 := Lib.hid (HX2.out.below b1 (by have := HSO.out; omega))
  have HB1 := Lib.hid (HB.out.trans (b1.mono HB.out.size))
  have HO1 := Lib.hid o1
  rw [HNW.out] at HO1 ⊢
  clear o1 b1 HX1 HX2 HB HBT HWT
  go_wp2_with (at_builtin; refine wpList_append_sAt rfl _ _ 33 rfl Try.underlying33 wo.heap.size (.slice A1 nw c1) lw rfl (by have h := HO1.out.alloc (.cells #[.string s] 9); rw [HNW.out]; exact h) (.slice (some ⟨w1.heap.size, 0, none⟩) 1 1) [s] rfl ⟨⟨some ⟨w1.heap.size, 0, none⟩, 1, rfl, Nat.le_refl _, by unfold maxLen; omega, fun _ => ⟨w1.heap.size, 0, rfl, by simp, fun j hj => by
      have : j = 0 := by simp at hj; omega
      subst this; simp⟩⟩, fun n c e => by cases e⟩ (by have := HNW.out; simp; omega) (by have := HO1.out; have := HSO.out; simp; omega) ?_)
  intro v' w2 h1 h2 h3
  have h1 : w2.ownsRow wo.heap.size 9 1 v' (lw ++ [s]).length ((lw ++ [s]).map .string) := by simpa using h1
  obtain ⟨A2, c2, rfl, _, _⟩ := (StrsN.of_owns h1).1.len
  have hlt := HSO.out
  have hneq : ∀ b, b < wo.heap.size → some b ≠ (Value.slice A1 nw c1).ownBlock := fun b hb e => by
    have := (HO1.out.lt b e.symm).1
    omega
  have hblk : ∀ b, b < wo.heap.size → w2.heap[b]? = w1.heap[b]? := fun b hb =>
    (h2.block b (by have := HSO.out; simp; omega) (hneq b hb)).trans (Below.heap_alloc _ _ _ (by omega))
  have HX1 := Lib.hid (box_of_block HY1.out (hblk w.heap.size (by omega)))
  have HX2 := Lib.hid (box_of_block HY2.out (hblk (w.heap.size + 1) (by omega)))
  have hsz2 : w1.heap.size ≤ w2.heap.size := by have := h2.size; rw [World.size_alloc] at this; omega
  have HB2 : Hid (Below w.heap.size w w2) := ⟨h2.os.trans HB1.out.os, h2.tape.trans HB1.out.tape, h2.output.trans HB1.out.output, Nat.le_trans HB1.out.size hsz2, fun j hj => (hblk j (by omega)).trans (HB1.out.block j hj)⟩
  have HO2 := Lib.hid h1
  obtain ⟨a0, a1, a2, a3, a4, a5, a6, a7, af, alt⟩ := HX1.out
  obtain ⟨d0, d1, d2, d3, d4, d5, d6, d7, df, dlt⟩ := HX2.out
  have af3 := af 3
  have df0 := df 0
  have df1 := df 1
  have df2 := df 2
  have df3 := df 3
  have df4 := df 4
  have df5 := df 5
  have df6 := df 6
  have df7 := df 7
  clear af df hneq hblk h1 h2 h3 HX1 HX2 HY1 HY2 HB1 HO1
  generalize hn2 : (lw ++ [s]).length = n2 at HO2 ⊢
  go_wp2_with fail
  (try simp only [Exit.inBlock, Exit.then])
  refine bodyPost_cell (V := .agg #[.int .u64 ses.toNat, .int .i64 0, .slice none 0 0, .slice A2 n2 c2, .int .i64 0, .slice none 0 0, .int .i64 0, .bool false]) rfl rfl ?_ rfl ?_
  · go_simp
  · refine ⟨_, rfl, ?_, below_set8 (HB2.out.setCell (p := ⟨w.heap.size, 3, none⟩) (Nat.le_refl _) _) (by omega) _ _ _ _ _ _ _ _⟩
    have hle : w.heap.size ≤ wo.heap.size := by omega
    rw [hn2]
    exact ownsRow_le' (owns_set8 (b := w.heap.size + 1) (ownsRow_setCell_below HO2.out (a := ⟨w.heap.size, 3, none⟩) (by dsimp only; omega) (.slice A2 n2 c2)) (by omega) _ _ _ _ _ _ _ _) hle
end Go.Proofs.Ytjgjhjecgdndjaa
