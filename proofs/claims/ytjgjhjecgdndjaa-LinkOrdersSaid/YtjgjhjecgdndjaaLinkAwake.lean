/- Chapter 23's example. -/
import Derived.Test.YtjgjhjecgdndjaaLinkTake
import Derived.Test.YtjgjhjecgdndjaaLinkLaw
import Derived.Deep.RegionHeld3
import Derived.Deep.DeepCutAuto
namespace Go.Proofs.Ytjgjhjecgdndjaa
open Go.RowKit
set_option linter.unusedVariables false
set_option linter.unusedSimpArgs false
def sA : ByteArray := ⟨#[97]⟩
def rawA : ByteArray := ⟨(lWrite 1 0 0 [97]).toArray⟩
theorem one_u : (((1 : UInt64).toNat : Nat) : Int) = 1 := rfl
theorem rawA_read : lRead rawA.data.toList = ((1, 0, 0, [97]), 0) := by
  have := lRead_write 1 0 0 [97] (by decide) (by decide)
  simpa [rawA] using this
theorem rawA_size : rawA.size ≤ 1000000 := lWrite_size 1 0 0 sA (by decide)
theorem sA_ne : sA ≠ ⟨#[]⟩ := by
  intro e
  have : sA.size = 0 := by rw [e]; rfl
  revert this; decide
theorem str1_n {w : World} {v : Value} {s : ByteArray} (h : Str1 w v s) : StrsN w v [s] := by
  obtain ⟨g, c, rfl, h1, h2, h3, h4⟩ := h
  refine ⟨⟨_, _, rfl, h1, h2, fun _ => ⟨g, 0, rfl, h3, fun j hj => ?_⟩⟩, fun n c e => by cases e⟩
  obtain rfl : j = 0 := by simpa using hj
  simpa using h4
theorem open_1 (w : World) : Calls Try.prog 11 #[.int .u64 1] w fun e w' => e = .returned (End8 1 0 (.slice none 0 0) (.slice none 0 0) 0 (.slice none 0 0) 0 false) ∧ Below w.heap.size w w' := lopen_any 1 w
theorem send_1 (w : World) : Calls Try.prog 12 #[End8 1 0 (.slice none 0 0) (.slice none 0 0) 0 (.slice none 0 0) 0 false, .string sA] w fun e w' => ∃ v', e = .returned (.tuple #[End8 1 0 (.slice none 0 0) v' 0 (.slice none 0 0) 0 false, .int .i64 0]) ∧ Str1 w' v' sA ∧ Below w.heap.size w w' := send_first 1 sA sA_ne (by decide) w
def TickA (w : World) (e : Ending) (w' : World) : Prop := ∃ A1 n1 c1 A2 n2 c2 gb go c, e = .returned (.tuple #[End8 1 0 (.slice A1 n1 c1) (.slice A2 n2 c2) 0 (.slice none 0 0) 1 false, .slice (some ⟨gb, go, none⟩) 1 c]) ∧ gb < w'.heap.size ∧ w'.cell? ⟨gb, go, none⟩ = some (.string rawA) ∧ Below w.heap.size w w'
theorem tick_a (v : Value) (w : World) (hv : Str1 w v sA) : Calls Try.prog 13 #[End8 1 0 (.slice none 0 0) v 0 (.slice none 0 0) 0 false] w (TickA w) := by
  refine (tick_live 1 0 0 0 (.slice none 0 0) v none 0 0 [] [sA] [sA] 1 w ⟨⟨none, 0, rfl, by decide, by decide, fun h => absurd h (by decide)⟩, fun n c e => by cases e; rfl⟩ (str1_n hv) (by decide) (by decide) (by decide) (by simp) (by decide) (by decide) (by decide) (by decide) (fun s hs => by simp at hs; subst hs; decide)).mono ?_
  rintro e w' ⟨vo', vw', u, rfl, h1, ⟨h2, _⟩, h3, h4⟩
  obtain ⟨A1, c1, rfl, _, _⟩ := h1.1.len
  obtain ⟨A2, c2, rfl, _, _⟩ := h2.1.len
  obtain ⟨A3, c3, rfl, _, _⟩ := h3.1.len
  have hl : (lTick (1 : UInt64).toNat 0 0 [sA]) = [rawA] := by
    unfold lTick
    rw [if_neg (by simp)]
    rfl
  rw [hl] at h3 ⊢
  obtain ⟨gb, go, rfl, k1, k2⟩ := h3.1.cells (by decide)
  exact ⟨_, _, _, _, _, _, gb, go, _, rfl, k1, by simpa using k2 0 (by decide), h4⟩
theorem take_1 (Aw : Option Addr) (nw cw : Nat) (w : World) : Calls Try.prog 14 #[End8 1 0 (.slice none 0 0) (.slice Aw nw cw) 0 (.slice none 0 0) 0 false, .string rawA] w fun e w' => ∃ v, e = .returned (.tuple #[End8 1 0 (.slice none 0 0) (.slice Aw nw cw) 1 (.slice none 0 0) 0 false, v]) ∧ w'.ownsRow w.heap.size 9 1 v 1 [.string sA] ∧ Below w.heap.size w w' :=
  take_first 1 rawA sA Aw nw cw w rawA_size rawA_read sA_ne
theorem take_2 (Aw : Option Addr) (nw cw : Nat) (w : World) : Calls Try.prog 14 #[End8 1 0 (.slice none 0 0) (.slice Aw nw cw) 1 (.slice none 0 0) 0 false, .string rawA] w fun e w' => e = .returned (.tuple #[End8 1 0 (.slice none 0 0) (.slice Aw nw cw) 1 (.slice none 0 0) 0 false, .slice none 0 0]) ∧ Below w.heap.size w w' :=
  take_again 1 rawA sA Aw nw cw w rawA_size rawA_read sA_ne
theorem bcell {W w1 : World} (hb : Below W.heap.size W w1) : (∀ b o, b < W.heap.size → w1.cell? ⟨b, o, none⟩ = W.cell? ⟨b, o, none⟩) ∧ (∀ b o, b < W.heap.size → w1.frozen? ⟨b, o, none⟩ = W.frozen? ⟨b, o, none⟩) :=
  ⟨fun b o h => hb.cell (p := ⟨b, o, none⟩) h, fun b o h => hb.frozen (p := ⟨b, o, none⟩) h⟩
structure AwMid (w : World) (gb go : Nat) (A1 : Option Addr) (n1 c1 B5 g7 cap7 : Nat) (wx : World) : Prop where
  box : Box8 B5 (.int .u64 1) (.int .i64 0) (.slice none 0 0) (.slice A1 n1 c1) (.int .i64 1) (.slice none 0 0) (.int .i64 0) (.bool false) wx
  a : wx.cell? ⟨g7, 0, none⟩ = some (.string sA)
  ga : g7 < wx.heap.size
  raw : wx.cell? ⟨gb, go, none⟩ = some (.string rawA)
  gr : gb < wx.heap.size
  b : Below w.heap.size w wx
theorem AwMid.below {w : World} {gb go : Nat} {A1 : Option Addr} {n1 c1 B5 g7 cap7 : Nat} {wx wy : World} (h : AwMid w gb go A1 n1 c1 B5 g7 cap7 wx) {B : Nat} (hb : Below B wx wy) (h1 : wx.heap.size ≤ B) : AwMid w gb go A1 n1 c1 B5 g7 cap7 wy :=
  ⟨h.box.below hb (Nat.lt_of_lt_of_le h.box.lt h1), (hb.cell (p := ⟨g7, 0, none⟩) (Nat.lt_of_lt_of_le h.ga h1)).trans h.a, Nat.lt_of_lt_of_le h.ga hb.size, (hb.cell (p := ⟨gb, go, none⟩) (Nat.lt_of_lt_of_le h.gr h1)).trans h.raw, Nat.lt_of_lt_of_le h.gr hb.size, h.b.trans (hb.mono (Nat.le_trans h.b.size h1))⟩
theorem AwMid.cells {w : World} {gb go : Nat} {A1 : Option Addr} {n1 c1 B5 g7 cap7 : Nat} {wx : World} (h : AwMid w gb go A1 n1 c1 B5 g7 cap7 wx) :
    wx.cell? ⟨B5, 0, none⟩ = some (.int .u64 1) ∧ wx.cell? ⟨B5, 1, none⟩ = some (.int .i64 0) ∧ wx.cell? ⟨B5, 2, none⟩ = some (.slice none 0 0) ∧ wx.cell? ⟨B5, 3, none⟩ = some (.slice A1 n1 c1) ∧ wx.cell? ⟨B5, 4, none⟩ = some (.int .i64 1) ∧ wx.cell? ⟨B5, 5, none⟩ = some (.slice none 0 0) ∧ wx.cell? ⟨B5, 6, none⟩ = some (.int .i64 0) ∧ wx.cell? ⟨B5, 7, none⟩ = some (.bool false) :=
  ⟨h.box.c0, h.box.c1, h.box.c2, h.box.c3, h.box.c4, h.box.c5, h.box.c6, h.box.c7⟩
theorem own_cell1 {wx : World} {B g cap : Nat} {s : ByteArray} (h : wx.ownsRow B 9 1 (.slice (some ⟨g, 0, none⟩) 1 cap) 1 [.string s]) : wx.cell? ⟨g, 0, none⟩ = some (.string s) ∧ g < wx.heap.size := by
  obtain ⟨A, c, e, h1, h2, h3⟩ := (StrsN.of_owns (l := [s]) h).1
  cases e
  obtain ⟨b, off, e1, e2, e3⟩ := h3 (by simp)
  cases e1
  exact ⟨by simpa using e3 0 (by simp), e2⟩
set_option maxRecDepth 20000 in
set_option maxHeartbeats 4000000 in
theorem awake_any (w : World) : Calls Try.prog 6 #[] w fun e w' => e = .returned (.bool true) ∧ Below w.heap.size w w' := by
  have HO := Lib.hid open_1
  have HS := Lib.hid send_1
  have HT := Lib.hid tick_a
  have H1 := Lib.hid take_1
  have H2 := Lib.hid take_2
  unfold End8 sA at HS
  unfold End8 at HO HT H1 H2
  go_enter Try.func6, Try.ntmps6
  go_wp2_with fail
  refine (HO.out _).mono ?_
  rintro e w1 ⟨rfl, b1⟩
  have HB1 := Lib.hid b1
  clear b1
  go_wp2_with fail
  refine (HS.out _).mono ?_
  rintro e w2 ⟨v', rfl, hv, b2⟩
  have HV := Lib.hid hv
  obtain ⟨gv, cv, hve, _, _, _, _⟩ := hv
  subst hve
  have HB2 := Lib.hid (HB1.out.trans (b2.mono HB1.out.size))
  clear b2 HB1
  go_wp2_with fail
  have hb3 : Below w2.heap.size w2 (w2.alloc (.cells #[.int .u64 1, .int .i64 0, .slice none 0 0, .slice (some ⟨gv, 0, none⟩) 1 cv, .int .i64 0, .slice none 0 0, .int .i64 0, .bool false] 37)) := (Below.refl _ _).alloc (Nat.le_refl _) _
  refine (HT.out _ _ (HV.out.below hb3 (Nat.le_refl _))).mono ?_
  rintro e w3 ⟨A1, n1, c1, A2, n2, c2, gb, go, c, rfl, k1, k2, b3⟩
  have HB3 := Lib.hid ((HB2.out.trans (hb3.mono HB2.out.size)).trans (b3.mono (by have := HB2.out.size; have := hb3.size; omega)))
  clear hb3 b3 HB2 HV
  unfold End8
  go_wp2_with fail
  obtain ⟨w4, hw4⟩ : ∃ w4, w4 = w3.alloc (.cells #[.int .u64 1, .int .i64 0, .slice A1 n1 c1, .slice A2 n2 c2, .int .i64 0, .slice none 0 0, .int .i64 1, .bool false] 37) := ⟨_, rfl⟩
  have hb4 : Below w3.heap.size w3 w4 := by rw [hw4]; exact (Below.refl _ _).alloc (Nat.le_refl _) _
  have k4 := (hb4.cell (p := ⟨gb, go, none⟩) k1).trans k2
  have l4 : gb < w4.heap.size := Nat.lt_of_lt_of_le k1 hb4.size
  have HB4 := Lib.hid (HB3.out.trans (hb4.mono HB3.out.size))
  rw [← hw4]
  clear k1 k2 hb4 hw4 HB3
  have k4d : w4.drew.cell? ⟨gb, go, none⟩ = some (.string rawA) := k4
  have l4d : gb < w4.drew.heap.size := l4
  go_upto_region 5 with fail
  go_cut [5, 6] (fun s5 s6 wx => ∃ B5 g7 cap7 : Nat, s5 = .pointer (some ⟨B5, 0, none⟩) ∧ s6 = .slice (some ⟨g7, 0, none⟩) 1 cap7 ∧ AwMid w gb go none 0 0 B5 g7 cap7 wx)
  case first =>
    go_region_held3 (fun w' => w'.cell? ⟨gb, go, none⟩ = some (.string rawA) ∧ gb < w'.heap.size) (first | with_reducible exact ⟨k4d, l4d⟩ | (with_reducible refine ⟨((((Below.refl w4.heap.size w4).alloc (Nat.le_refl _) _).drew).cell (p := ⟨gb, go, none⟩) l4).trans k4, ?_⟩; simp only [World.size_drew, World.size_alloc]; omega) | (have hh : (World.cell? _ ⟨gb, go, none⟩ = some (.string rawA)) ∧ gb < _ := (by with_reducible assumption); first | with_reducible exact ⟨(hc6 _ _ hh.2).trans hh.1, Nat.lt_of_lt_of_le hh.2 hz6⟩ | with_reducible exact ⟨(hc5 _ _ hh.2).trans hh.1, Nat.lt_of_lt_of_le hh.2 hz5⟩ | (with_reducible refine ⟨(World.cell?_alloc_past _ _ _ hh.2).trans hh.1, ?_⟩; rw [World.size_alloc]; omega) | (with_reducible refine ⟨(World.cell?_alloc_past _ _ _ ?_).trans ((World.cell?_alloc_past _ _ _ ?_).symm.trans hh.1), ?_⟩; all_goals (have l4' : gb < w4.heap.size := l4; (try simp only [World.size_alloc, World.size_drew] at hz6); (try simp only [World.size_alloc, World.size_drew] at hz5); (try simp only [World.size_alloc, World.size_drew]); omega)) | (with_reducible refine ⟨((below_set8 (Below.refl (gb + 1) _) ?_ _ _ _ _ _ _ _ _).cell (p := ⟨gb, go, none⟩) (Nat.lt_succ_self _)).trans hh.1, ?_⟩; (have l4' : gb < w4.heap.size := l4; (try simp only [World.size_alloc, World.size_drew] at hz6); (try simp only [World.size_alloc, World.size_drew] at hz5); (try simp only [World.size_alloc, World.size_drew]); omega); (simp only [World.size_setCell]; exact hh.2)))) (first | (go_at_call 11; refine (HO.out _).mono ?_; rintro e w5 ⟨rfl, b5⟩; obtain ⟨hc5, hf5⟩ := bcell b5; have hz5 := b5.size; have HB5 := Lib.hid b5; (try (have hy5 : w4.heap.size < w5.heap.size := (by have := b5.size; simp only [World.size_drew, World.size_alloc] at this; omega))); clear b5) | (go_at_call 14; refine (H1.out _ _ _ _).mono ?_; rintro e w6 ⟨v6, rfl, o6, b6⟩; obtain ⟨g6, cap6, rfl⟩ := ownsRow_succ o6; have HO6 := Lib.hid o6; obtain ⟨hc6, hf6⟩ := bcell b6; have hz6 := b6.size; have HB6 := Lib.hid b6; (try (have hy6 : w4.heap.size < w6.heap.size := (by have := b6.size; (try simp only [World.size_drew, World.size_alloc] at this); omega))); (try (have hx6 : w5.heap.size < w6.heap.size := (by have := b6.size; (try simp only [World.size_drew, World.size_alloc] at this); omega))); clear o6 b6))
    · obtain ⟨r1, r2⟩ : (World.cell? _ ⟨gb, go, none⟩ = some (.string rawA)) ∧ gb < _ := by with_reducible assumption
      go_wp2_with fail
      go_meet
      refine ⟨_, _, _, rfl, rfl, ⟨cells8 (heap_alloc_new _ _), ?_, ?_, r1, r2, ?_⟩⟩
      · exact (((Below.refl w6.heap.size w6).alloc (Nat.le_refl _) _).cell (p := ⟨g6, 0, none⟩) (own_cell1 HO6.out).2).trans (own_cell1 HO6.out).1
      · rw [World.size_alloc]; exact Nat.lt_succ_of_lt (own_cell1 HO6.out).2
      · have h5 := HB4.out.drew.trans (HB5.out.mono HB4.out.size)
        have h6 := h5.trans (HB6.out.mono h5.size)
        exact h6.alloc h6.size _
    · obtain ⟨r1, r2⟩ : (World.cell? _ ⟨gb, go, none⟩ = some (.string rawA)) ∧ gb < _ := by with_reducible assumption
      go_wp2_with fail
      go_meet
      have hz := (cells8 (heap_alloc_new w5 (.cells #[.int .u64 0, .int .i64 0, .slice none 0 0, .slice none 0 0, .int .i64 0, .slice none 0 0, .int .i64 0, .bool false] 37))).below HB6.out (by simp)
      refine ⟨_, _, _, rfl, rfl, ⟨((((((((hz.set0 _).set1 _).set2 _).set3 _).set4 _).set5 _).set6 _).set7 _), ?_, ?_, r1, r2, ?_⟩⟩
      · exact (own_cell1 (owns_set8 HO6.out (by simp) _ _ _ _ _ _ _ _)).1
      · exact (own_cell1 (owns_set8 HO6.out (by simp) _ _ _ _ _ _ _ _)).2
      · have h5 := HB4.out.drew.trans (HB5.out.mono HB4.out.size)
        have h5a := h5.alloc h5.size (.cells #[.int .u64 0, .int .i64 0, .slice none 0 0, .slice none 0 0, .int .i64 0, .slice none 0 0, .int .i64 0, .bool false] 37)
        have h6 := h5a.trans (HB6.out.mono h5a.size)
        exact below_set8 h6 h5.size _ _ _ _ _ _ _ _
    · obtain ⟨r1, r2⟩ : (World.cell? _ ⟨gb, go, none⟩ = some (.string rawA)) ∧ gb < _ := by with_reducible assumption
      go_wp2_with fail
      go_meet
      have h4a : Below w.heap.size w (w4.alloc (.cells #[.int .u64 0, .int .i64 0, .slice none 0 0, .slice none 0 0, .int .i64 0, .slice none 0 0, .int .i64 0, .bool false] 37)).drew := (HB4.out.alloc HB4.out.size _).drew
      have h5 := h4a.trans (HB5.out.mono h4a.size)
      have h6 := h5.trans (HB6.out.mono h5.size)
      have hz := ((cells8 (heap_alloc_new w4 (.cells #[.int .u64 0, .int .i64 0, .slice none 0 0, .slice none 0 0, .int .i64 0, .slice none 0 0, .int .i64 0, .bool false] 37))).below (Below.drew (Below.refl _ _)) (Nat.lt_succ_self _)).below (HB5.out.trans (HB6.out.mono HB5.out.size)) (by simp)
      refine ⟨_, _, _, rfl, rfl, ⟨((((((((hz.set0 _).set1 _).set2 _).set3 _).set4 _).set5 _).set6 _).set7 _), ?_, ?_, r1, r2, ?_⟩⟩
      · exact (own_cell1 (owns_set8 HO6.out hy5 _ _ _ _ _ _ _ _)).1
      · exact (own_cell1 (owns_set8 HO6.out hy5 _ _ _ _ _ _ _ _)).2
      · exact below_set8 h6 HB4.out.size _ _ _ _ _ _ _ _
  case rest =>
    obtain ⟨B5, g7, cap7, rfl, rfl, hM⟩ := hcut
    have HM := Lib.hid hM
    clear hM
    go_upto_region 6 with fail
    go_cut [8] (fun s8 wx => s8 = .slice none 0 0 ∧ AwMid w gb go none 0 0 B5 g7 cap7 wx)
    case first =>
      refine wp_region_noPanic ?_
      refine wp_region_held_drew (S := fun w' => AwMid w gb go none 0 0 B5 g7 cap7 w') (by kernel_rfl) (HM.out.below (Below.drew (Below.refl _ _)) (Nat.le_refl _)) (fun hHeld => ?_)
      generalize World.drew _ = wX at hHeld ⊢
      refine wpAnyH_take (i := 0) (v := (.agg #[.int .u64 1, .int .i64 0, .slice none 0 0, .slice none 0 0, .int .i64 1, .slice none 0 0, .int .i64 0, .bool false])) rfl (by kernel_rfl) (by kernel_rfl) (by kernel_rfl) (fun _ _ _ h => h) (Or.inl ⟨by kernel_rfl, ?_⟩) hHeld ?_
      · intro w hSw
        have hh := AwMid.cells hSw
        go_simp
      try simp only [Act.put, List.setIfInBounds_toArray, List.set_cons_zero, List.set_cons_succ]
      refine' wpAnyH_take (i := 1) (v := ?v1) rfl (by kernel_rfl) (by kernel_rfl) (by kernel_rfl) (fun _ _ _ h => h) (Or.inl ⟨by kernel_rfl, ?hy1⟩) (by assumption) ?rest1
      case hy1 => (intro w hSw; (try dsimp only at hSw); go_simp; try with_reducible rfl)
      try simp only [Act.put, List.setIfInBounds_toArray, List.set_cons_zero, List.set_cons_succ]
      refine' wpAnyH_take (i := 2) (v := ?v2) rfl (by kernel_rfl) (by kernel_rfl) (by kernel_rfl) (fun _ _ _ h => h) (Or.inl ⟨by kernel_rfl, ?hy2⟩) (by assumption) ?rest2
      case hy2 => (intro w hSw; (try dsimp only at hSw); go_simp; try with_reducible rfl)
      try simp only [Act.put, List.setIfInBounds_toArray, List.set_cons_zero, List.set_cons_succ]
      refine wpAnyH_take (i := 3) (v := .string rawA) rfl (by kernel_rfl) (by kernel_rfl) (by kernel_rfl) (fun _ _ _ h => h) (Or.inl ⟨by kernel_rfl, ?_⟩) hHeld ?_
      · intro w hSw
        have hh := hSw.raw
        go_simp
      try simp only [Act.put, List.setIfInBounds_toArray, List.set_cons_zero, List.set_cons_succ]
      refine wpAnyH_ready (rs := [4, 8]) (by kernel_rfl) (by simp) ?_
      refine AllReadyH.cons rfl (fun K hK => ?_) (AllReadyH.cons rfl (fun K hK => ?_) AllReadyH.nil)
      · go_simp
        go_at_call 14
        refine (H2.out _ _ _ wX).mono ?_
        rintro er w7 ⟨rfl, b7⟩
        have hM7 := hHeld.below b7 (Nat.le_refl _)
        clear b7 hHeld
        go_wp2_with fail
        refine hK.out _ _ hM7 (fun hHeld => ?_)
        clear hK K hHeld
        try simp only [Act.put, List.setIfInBounds_toArray, List.set_cons_zero, List.set_cons_succ]
        have hHeld := hM7
        refine' wpAnyH_take (i := 5) (v := ?v3) rfl (by kernel_rfl) (by kernel_rfl) (by kernel_rfl) (fun _ _ _ h => h) (Or.inl ⟨by kernel_rfl, ?hy3⟩) (by assumption) ?rest3
        case hy3 => (intro w hSw; (try dsimp only at hSw); go_simp; try with_reducible rfl)
        try simp only [Act.put, List.setIfInBounds_toArray, List.set_cons_zero, List.set_cons_succ]
        refine' wpAnyH_take (i := 6) (v := ?v4) rfl (by kernel_rfl) (by kernel_rfl) (by kernel_rfl) (fun _ _ _ h => h) (Or.inl ⟨by kernel_rfl, ?hy4⟩) (by assumption) ?rest4
        case hy4 => (intro w hSw; (try dsimp only at hSw); go_simp; try with_reducible rfl)
        try simp only [Act.put, List.setIfInBounds_toArray, List.set_cons_zero, List.set_cons_succ]
        refine' wpAnyH_take (i := 7) (v := ?v5) rfl (by kernel_rfl) (by kernel_rfl) (by kernel_rfl) (fun _ _ _ h => h) (Or.inl ⟨by kernel_rfl, ?hy5⟩) (by assumption) ?rest5
        case hy5 => (intro w hSw; (try dsimp only at hSw); go_simp; try with_reducible rfl)
        try simp only [Act.put, List.setIfInBounds_toArray, List.set_cons_zero, List.set_cons_succ]
        refine wpAnyH_ready (rs := [8]) (by kernel_rfl) (by simp) ?_
        refine AllReadyH.cons rfl (fun K hK => ?_) AllReadyH.nil
        go_simp
        refine hK.out _ _ (hM7.below ((Below.refl _ _).alloc (Nat.le_refl _) _) (Nat.le_refl _)) (fun hHeld => ?_)
        clear hK K hHeld
        try simp only [Act.put, List.setIfInBounds_toArray, List.set_cons_zero, List.set_cons_succ]
        refine wpAnyH_ready (rs := [9]) (by kernel_rfl) (by simp) ?_
        refine AllReadyH.cons rfl (fun K hK => ?_) AllReadyH.nil
        go_simp
        have hM8 := hM7.below ((Below.refl w7.heap.size w7).alloc (Nat.le_refl _) (.cells #[.int .u64 1, .int .i64 0, .slice none 0 0, .slice none 0 0, .int .i64 1, .slice none 0 0, .int .i64 0, .bool false] 37)) (Nat.le_refl _)
        refine hK.out _ _ hM8 (fun hHeld => ?_)
        clear hK K
        refine wpAnyH_take (i := 10) (v := (.slice none 0 0)) rfl (by kernel_rfl) (by kernel_rfl) (by kernel_rfl) (fun _ _ _ h => h) (Or.inl ⟨by kernel_rfl, ?_⟩) hHeld ?_
        · intro w hSw
          go_simp
        refine wpAnyH_done (by kernel_rfl) ?_ _
        refine NoPanic.normal ?_
        go_wp2_with fail
        go_meet
        exact ⟨rfl, hM8⟩
      · go_simp
        have ha := (Below.refl wX.heap.size wX).alloc (Nat.le_refl _) (.cells #[.int .u64 0, .int .i64 0, .slice none 0 0, .slice none 0 0, .int .i64 0, .slice none 0 0, .int .i64 0, .bool false] 37)
        have hMa := hHeld.below ha (Nat.le_refl _)
        have hcz := cells8 (heap_alloc_new wX (.cells #[.int .u64 0, .int .i64 0, .slice none 0 0, .slice none 0 0, .int .i64 0, .slice none 0 0, .int .i64 0, .bool false] 37))
        refine hK.out _ _ hMa (fun hHeldx => ?_)
        clear hK K hHeldx
        try simp only [Act.put, List.setIfInBounds_toArray, List.set_cons_zero, List.set_cons_succ]
        refine wpAnyH_ready (rs := [4]) (by kernel_rfl) (by simp) ?_
        refine AllReadyH.cons rfl (fun K hK => ?_) AllReadyH.nil
        go_simp
        go_at_call 14
        refine (H2.out _ _ _ _).mono ?_
        rintro er w7 ⟨rfl, b7⟩
        have hM7 := hMa.below b7 (Nat.le_refl _)
        have hz7 := hcz.below b7 (by simp)
        have h7 := ha.trans (b7.mono (by simp))
        clear b7 hMa hcz ha
        go_wp2_with fail
        refine hK.out _ _ hM7 (fun hHeldx => ?_)
        clear hK K hHeldx
        try simp only [Act.put, List.setIfInBounds_toArray, List.set_cons_zero, List.set_cons_succ]
        have hM0 := hHeld
        have hHeld := hM7
        refine' wpAnyH_take (i := 5) (v := ?v6) rfl (by kernel_rfl) (by kernel_rfl) (by kernel_rfl) (fun _ _ _ h => h) (Or.inl ⟨by kernel_rfl, ?hy6⟩) (by assumption) ?rest6
        case hy6 => (intro w hSw; (try dsimp only at hSw); go_simp; try with_reducible rfl)
        try simp only [Act.put, List.setIfInBounds_toArray, List.set_cons_zero, List.set_cons_succ]
        refine' wpAnyH_take (i := 6) (v := ?v7) rfl (by kernel_rfl) (by kernel_rfl) (by kernel_rfl) (fun _ _ _ h => h) (Or.inl ⟨by kernel_rfl, ?hy7⟩) (by assumption) ?rest7
        case hy7 => (intro w hSw; (try dsimp only at hSw); go_simp; try with_reducible rfl)
        try simp only [Act.put, List.setIfInBounds_toArray, List.set_cons_zero, List.set_cons_succ]
        refine' wpAnyH_take (i := 7) (v := ?v8) rfl (by kernel_rfl) (by kernel_rfl) (by kernel_rfl) (fun _ _ _ h => h) (Or.inl ⟨by kernel_rfl, ?hy8⟩) (by assumption) ?rest8
        case hy8 => (intro w hSw; (try dsimp only at hSw); go_simp; try with_reducible rfl)
        try simp only [Act.put, List.setIfInBounds_toArray, List.set_cons_zero, List.set_cons_succ]
        obtain ⟨d0, d1, d2, d3, d4, d5, d6, d7, df, dlt⟩ := hz7
        have df0 := df 0
        have df1 := df 1
        have df2 := df 2
        have df3 := df 3
        have df4 := df 4
        have df5 := df 5
        have df6 := df 6
        have df7 := df 7
        clear df
        refine wpAnyH_ready (rs := [9]) (by kernel_rfl) (by simp) ?_
        refine AllReadyH.cons rfl (fun K hK => ?_) AllReadyH.nil
        go_simp
        have hM8 := fun x0 x1 x2 x3 x4 x5 x6 x7 => hM0.below (below_set8 h7 (Nat.le_refl _) x0 x1 x2 x3 x4 x5 x6 x7) (Nat.le_refl _)
        refine hK.out _ _ (hM8 _ _ _ _ _ _ _ _) (fun hHeldx => ?_)
        clear hK K hHeldx d0 d1 d2 d3 d4 d5 d6 d7 dlt df0 df1 df2 df3 df4 df5 df6 df7
        have hHeld := (hM8 (.int .u64 1) (.int .i64 0) (.slice none 0 0) (.slice none 0 0) (.int .i64 1) (.slice none 0 0) (.int .i64 0) (.bool false))
        refine wpAnyH_take (i := 10) (v := (.slice none 0 0)) rfl (by kernel_rfl) (by kernel_rfl) (by kernel_rfl) (fun _ _ _ h => h) (Or.inl ⟨by kernel_rfl, ?_⟩) hHeld ?_
        · intro w hSw
          go_simp
        refine wpAnyH_done (by kernel_rfl) ?_ _
        refine NoPanic.normal ?_
        go_wp2_with fail
        go_meet
        exact ⟨rfl, hHeld⟩
    case rest =>
      obtain ⟨rfl, hM8⟩ := hcut
      have c8 := hM8.a
      have HB8 := Lib.hid hM8.b
      unfold sA at c8
      clear hM8
      go_wp2_with fail
      go_ret
      exact ⟨rfl, HB8.out⟩
end Go.Proofs.Ytjgjhjecgdndjaa
