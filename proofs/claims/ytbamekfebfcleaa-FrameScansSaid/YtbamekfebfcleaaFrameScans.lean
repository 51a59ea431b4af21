/- The statements of chapter 3 (frame): FrameScans. -/
import Derived.Test.YtbamekfebfcleaaFrameBack
import Derived.Test.YtbamekfebfcleaaStrsApp
namespace Go.Proofs.Ytbamekfebfcleaa
open Go.RowKit
set_option linter.unusedVariables false
theorem fPairs_flat2 (l : List ByteArray) (h : ∀ t ∈ l, t.size ≤ 1000) (s : List UInt8) : fTexts (fPairs (fFlat l ++ s)) = l ++ fTexts (fPairs s) ∧ fEnd (fPairs (fFlat l ++ s)) = (fFlat l).length + fEnd (fPairs s) := by
  rw [fPairs_texts, fPairs_end, fPairs_texts, fPairs_end, fFlat, fAll_wraps _ _ (by intro t ht; simp at ht; obtain ⟨a, ha, rfl⟩ := ht; have := h a ha; simp; omega), fSum_append, fSum_wraps]
  refine ⟨?_, rfl⟩
  rw [List.map_append, List.map_map, List.map_map]
  congr 1
  conv => rhs; rw [← List.map_id l]
  apply List.map_congr_left
  intro a _
  exact mk_data a
theorem fTexts_len (l : List (ByteArray × Nat)) : (fTexts l).length = l.length := by simp [fTexts]
/-- Scan's contract, at what it tells -/
theorem scan_at (s : ByteArray) (hs : s.size ≤ 1000000000) (l : List ByteArray) (n : Nat) (h1 : fTexts (fPairs s.data.toList) = l) (h2 : fEnd (fPairs s.data.toList) = n) (w : World) :
    Calls Try.prog 41 #[.string s] w fun e W' => ∃ v, e = .returned (.tuple #[v, .int .i64 (n : Nat)]) ∧ W'.ownsRow w.heap.size 9 1 v l.length (l.map .string) ∧ Below w.heap.size w W' := by
  subst h1; subst h2
  rw [fTexts_len]
  exact scan_any s hs w
theorem fTexts_few (s : List UInt8) : (fTexts (fPairs s)).length ≤ s.length := by
  rw [fPairs_texts, List.length_map]
  have h : ∀ (n : Nat) (s : List UInt8), (fGo n s).length ≤ s.length := by
    intro n
    induction n with
    | zero => intro s; simp [fGo]
    | succ n ih =>
      intro s
      rw [fGo]
      split
      · simp
      · split
        · simp
        · rename_i h1 h2
          have h0 : (fOpen s).2.2 = 0 := by omega
          have h3 := (fOpen_le s).1 h0
          have h4 := ih (s.drop (fOpen s).2.1)
          rw [List.length_drop] at h4
          rw [List.length_cons]
          omega
  exact h _ _
set_option maxRecDepth 20000 in
set_option maxHeartbeats 4000000 in
theorem frameScans_ok (W : World) (A0 : Option Addr) (n0 c0 : Nat) (x0 : List ByteArray) (w0 : Sl W A0 n0 c0 1 (x0.flatMap EStr) ∧ x0.length = n0 ∧ (A0 = none → c0 = 0) ∧ ∀ y ∈ x0, y.size ≤ maxLen) (x1 : ByteArray) (w1 : x1.size ≤ 140737488351232) :
    Calls Try.prog 17 #[.slice A0 n0 c0, .string x1] W fun e w' => e = .returned (.bool true) ∧ Below W.heap.size W w' := by
  obtain ⟨hsl, hn, _, _⟩ := w0
  have HS0 := Lib.hid (StrsB.of_sl hsl hn)
  clear hsl
  by_cases g0 : 20 < n0
  · clear hn
    go_enter Try.func17, Try.ntmps17
    go_wp2_with fail
    refine (frameAwake_any _).mono ?_
    rintro e w1 ⟨rfl, b1⟩
    go_wp2
    go_ret
    exact ⟨rfl, b1⟩
  by_cases g1 : 1000 < x1.size
  · clear hn
    go_enter Try.func17, Try.ntmps17
    go_wp2_with fail
    refine (frameAwake_any _).mono ?_
    rintro e w1 ⟨rfl, b1⟩
    go_wp2
    go_ret
    exact ⟨rfl, b1⟩
  obtain rfl : n0 = x0.length := hn.symm
  clear hn
  go_enter Try.func17, Try.ntmps17
  go_wp2_with fail
  go_loopw [5, 25] (fun a i wr => ∃ (k : Nat) (S : ByteArray), k ≤ x0.length ∧ i = .int .i64 k ∧ a = .string S ∧ Hid (S.data.toList = fFlat (x0.take k)) ∧ S.size ≤ k * 1014 ∧ Hid (∀ t ∈ x0.take k, t.size ≤ 1000) ∧ Hid (Below W.heap.size W wr)) (fun _ i _ => x0.length - (intOf i).toNat)
  case atStart => exact ⟨0, ⟨#[]⟩, Nat.zero_le _, rfl, rfl, rfl, by decide, by intro t ht; simp at ht, Below.refl _ _⟩
  case round =>
    obtain ⟨k, S, hk, rfl, rfl, HS, hSz, HL, HW⟩ := hrel
    by_cases hlt : k < x0.length
    · obtain ⟨b, off, c, hA, hc1, hc2, hblt, hcell⟩ := HS0.out.at (by omega)
      cases hA
      have e1 : wr.cell? ⟨b, off + k, none⟩ = some (.string x0[k]) := (HW.out.cell (p := ⟨b, off + k, none⟩) hblt).trans (hcell k hlt)
      have HT := Lib.hid (take_succ_list x0 k hlt)
      clear hcell hc1 hc2
      generalize x0[k] = t at *
      by_cases ht : 300 < t.size
      · go_wp2_with fail
        refine (frameAwake_any _).mono ?_
        rintro e w1 ⟨rfl, b1⟩
        go_wp2
        go_ret
        exact ⟨rfl, below_then HW.out b1⟩
      · have a1 := fun w => wrap_any t (by omega) w
        have hz := fWrap_size t (by omega)
        have HN : Hid ((S ++ ⟨(fWrap t.data.toList).toArray⟩ : ByteArray).data.toList = fFlat (x0.take (k + 1))) := by
          unfold Hid; rw [HT.out, fFlat_snoc, ← HS.out]; simp
        have HL2 : Hid (∀ u ∈ x0.take (k + 1), u.size ≤ 1000) := by
          unfold Hid; rw [HT.out]; intro u hu; simp at hu; rcases hu with hu | rfl
          · exact HL.out u hu
          · omega
        generalize (⟨(fWrap t.data.toList).toArray⟩ : ByteArray) = F at *
        have A1 := Lib.hid a1; clear a1
        obtain ⟨hz1, hz2⟩ := hz
        go_wp2_with fail
        refine (A1.out _).mono ?_
        rintro e w1 ⟨rfl, b1⟩
        have HW2 := Lib.hid (below_then HW.out b1)
        clear b1
        go_wp2
        go_roundw
        case rel => exact ⟨k + 1, _, by omega, by go_num, rfl, HN, by rw [ByteArray.size_append]; omega, HL2, HW2⟩
        case measure => simp [intOf]; omega
    · obtain rfl : k = x0.length := by omega
      have hfl := HL.out
      rw [List.take_length] at hfl
      have hSd := HS.out
      rw [List.take_length] at hSd
      obtain ⟨p1, p2⟩ := fPairs_flat x0 hfl [] fAll_nil
      obtain ⟨q1, q2⟩ := fPairs_flat2 x0 hfl x1.data.toList
      rw [List.append_nil] at p1 p2
      rw [← hSd] at p1 p2 q1 q2
      rw [show S.data.toList ++ x1.data.toList = (S ++ x1).data.toList by simp] at q1 q2
      have hSl : S.data.toList.length = S.size := by simp
      rw [hSl] at p2 q2
      have hle := fEnd_le x1.data.toList
      have hxl : x1.data.toList.length = x1.size := by simp
      rw [hxl] at hle
      have hfew := fTexts_few x1.data.toList
      rw [hxl] at hfew
      have a1 := fun w => scan_at S (by omega) x0 S.size p1 p2 w
      have a2 := fun w => scan_at x1 (by omega) _ _ rfl rfl w
      have a3 := fun w => scan_at (S ++ x1) (by rw [ByteArray.size_append]; omega) _ _ q1 q2 w
      generalize fTexts (fPairs x1.data.toList) = m at *
      generalize fEnd (fPairs x1.data.toList) = z at *
      clear p1 p2 q1 q2 hfl hSd hSl hxl
      have A1 := Lib.hid a1; clear a1
      have A2 := Lib.hid a2; clear a2
      have A3 := Lib.hid a3; clear a3
      go_wp2_with fail
      refine (A1.out _).mono ?_
      rintro e w1 ⟨v1, rfl, hown1, b1⟩
      have hs1 := Src.of_owns hown1
      have ht1 := StrsB.of_owns hown1
      clear hown1
      have HW1 := Lib.hid (below_then HW.out b1); clear b1
      go_wp2_with fail
      refine (A2.out _).mono ?_
      rintro e w2 ⟨v2, rfl, hown2, b2⟩
      have hs2 := Src.of_owns hown2
      clear hown2
      have hs1 := hs1.below b2 (Nat.le_refl _)
      have ht1 := ht1.below b2 (Nat.le_refl _)
      have HW2 := Lib.hid (below_then HW1.out b2); clear b2
      go_wp2_with fail
      refine (A3.out _).mono ?_
      rintro e w3 ⟨v3, rfl, hown3, b3⟩
      have HT3 := Lib.hid (StrsB.of_owns hown3); clear hown3
      have HS2 := Lib.hid (hs2.below b3 (Nat.le_refl _))
      have HS1 := Lib.hid (hs1.below b3 (Nat.le_refl _))
      have HT1 := Lib.hid (ht1.below b3 (Nat.le_refl _))
      have HW3 := Lib.hid (below_then HW2.out b3); clear b3 hs1 hs2 ht1
      go_wp2_with fail
      refine (same_any _ _ _ x0 x0 HT1.out (HS0.out.below HW3.out (Nat.le_refl _))).mono ?_
      rintro e w7 ⟨rfl, nq, rfl⟩
      rw [sameB_self]
      have hown0 := owns_empty (w := w3.drewN nq) (Nat.le_refl _)
      have HSa : Hid (Src ((w3.drewN nq).alloc (.cells #[] 9)) v1 x0) := (HS1.out.drewN nq).below ((Below.refl _ _).alloc (Nat.le_refl _) _) (Nat.le_refl _)
      go_wp2_with (at_builtin; refine wpList_append_src rfl _ _ 57 rfl Try.underlying57 w3.heap.size _ [] rfl hown0 _ x0 rfl HSa.out (by simp; omega) (by simp) ?_)
      intro v4 w4 hown4 hgrow4
      have hB4 : Below w3.heap.size w3 w4 := (((Below.drewN (Below.refl _ _) nq).alloc (Nat.le_refl _) _).grown hgrow4 (by simp) (fun k hk => by simp [Value.ownBlock] at hk; rw [← hk]; exact Nat.le_refl _))
      have HSb := Lib.hid (HS2.out.below hB4 (Nat.le_refl _))
      have hsz4 := hB4.size
      clear hgrow4 hown0
      go_wp2_with (at_builtin; refine wpList_append_src rfl _ _ 57 rfl Try.underlying57 w3.heap.size _ x0 rfl hown4 _ m rfl HSb.out (by omega) hsz4 ?_)
      intro v5 w5 hown5 hgrow5
      have hB5 : Below w3.heap.size w3 w5 := hB4.grown hgrow5 hsz4 (fun k hk => (hown4.lt k hk).1)
      have HT5 := Lib.hid (StrsB.of_owns (l := x0 ++ m) (by simpa using hown5))
      have HT6 := Lib.hid (HT3.out.below hB5 (Nat.le_refl _))
      have HW5 := Lib.hid (below_then HW3.out hB5)
      clear hgrow5 hown5 hown4 hB4 hB5
      go_wp2_with fail
      refine (same_any _ _ _ (x0 ++ m) (x0 ++ m) HT6.out HT5.out).mono ?_
      rintro e w6 ⟨rfl, nq2, rfl⟩
      rw [sameB_self]
      go_wp2_with fail
      refine (frameAwake_any _).mono ?_
      rintro e w8 ⟨rfl, b8⟩
      go_wp2
      go_ret
      exact ⟨rfl, below_then (Below.drewN HW5.out _) b8⟩
end Go.Proofs.Ytbamekfebfcleaa
