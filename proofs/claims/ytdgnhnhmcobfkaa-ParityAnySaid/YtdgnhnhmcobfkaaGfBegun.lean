/- gf.begun: walk. -/
import Derived.Test.YtdgnhnhmcobfkaaGfSol
namespace Go.Proofs.Ytdgnhnhmcobfkaa
open Go.RowKit
set_option linter.unusedVariables false
theorem below_grown {W a b : World} (h : Below W.heap.size W a) {g : Nat} (k : a.grownBy b (some g)) (hg : W.heap.size ≤ g) : Below W.heap.size W b :=
  h.grown k h.size (fun q e => by injection e with e; omega)
theorem mk_nil (w : World) (B W : Nat) (G C : Nat → Nat) (R : Rw) : Mk w B 0 W (.slice none 0 0) G C R :=
  ⟨World.ownsRow_nil _ _ _ _, fun _ => rfl, fun i h => absurd h (by omega), fun i h => absurd h (by omega), fun i h => absurd h (by omega), fun i j h => absurd h (by omega)⟩
theorem Mk.congr {w : World} {B n W : Nat} {v : Value} {G C : Nat → Nat} {R R' : Rw} (h : Mk w B n W v G C R) (e : ∀ i, i < n → ∀ k, k < W → R i k = R' i k) : Mk w B n W v G C R' :=
  ⟨h.own, h.nil, fun i hi => (h.row i hi).congr (e i hi), h.base, h.cap, h.inj⟩
set_option maxRecDepth 20000 in
set_option maxHeartbeats 4000000 in
theorem begun_any (w : World) (va : Value) (m : List ByteArray) (ha : StrsB w va m) (h0 : 0 < m.length) (h16 : m.length ≤ 16) (hsq : ∀ i (h : i < m.length), m[i].size = m.length) :
    Calls Try.prog 45 #[va] w fun e w' => ∃ o cap G C, e = .returned (.slice (some ⟨o, 0, none⟩) m.length cap) ∧ m.length ≤ cap ∧ cap ≤ maxLen ∧ Sol w' w.heap.size o m.length (2 * m.length) G C (beg m.length (mt m)) ∧ Below w.heap.size w w' := by
  have HSQ := Lib.hid hsq; clear hsq
  have HMT : Hid (∀ i (h : i < m.length) k, mt m i k = rw' m[i] k) := fun i h k => mt_get h k
  obtain ⟨Am, cm, rfl, h1, h2⟩ := ha.len
  obtain ⟨bm, om, rfl, hbm, hcm⟩ := ha.cells h0
  have HCM := Lib.hid hcm; clear hcm ha h1 h2
  obtain ⟨n, hn⟩ : ∃ n, m.length = n := ⟨_, rfl⟩
  have HN := Lib.hid hn
  rw [hn] at h0 h16 ⊢
  have hnI : n ≤ 9223372036854775807 := by omega
  clear hn
  obtain ⟨i0, hi0, hz0, hz1, hz2⟩ := info_parts byteInfo
  go_enter Try.func45, Try.ntmps45
  go_wp2_with fail
  go_loopw [3, 9] (fun v i wr => ∃ (j : Nat) (G C : Nat → Nat), j ≤ n ∧ i = .int .i64 j ∧ Hid (Mk wr w.heap.size j (2 * n) v G C (beg n (mt m))) ∧ Hid (Below w.heap.size w wr)) (fun _ i _ => n - (intOf i).toNat)
  case atStart => exact ⟨0, fun _ => 0, fun _ => 0, Nat.zero_le _, rfl, mk_nil _ _ _ _ _ _, Below.refl _ _⟩
  case round =>
    obtain ⟨j, G, C, hj, rfl, HK, HB⟩ := hrel
    by_cases hlt : j < n
    · have hjm : j < m.length := by rw [HN.out]; exact hlt
      have hlt' : (j : Int) < (n : Int) := by omega
      have e1 : wr.cell? ⟨bm, om + j, none⟩ = some (.string m[j]) := (HB.out.cell (p := ⟨bm, om + j, none⟩) hbm).trans (HCM.out j hjm)
      have zx : m[j].size = n := (HSQ.out j hjm).trans HN.out
      have HX : Hid (∀ k, mt m j k = rw' m[j] k) := fun k => HMT.out j hjm k
      generalize m[j] = x at *
      clear hjm
      go_wp2_with (at_make; refine wpList_make_bytes rfl _ _ 63 rfl Try.underlying63 n rfl rfl (by omega) ?_)
      intro w1 hF hB1
      have e2 : w1.cell? ⟨wr.heap.size, j, none⟩ = some (.int .u8 0) := hF.cell j hlt
      have f2 : w1.frozen? ⟨wr.heap.size, j, none⟩ = false := hF.free j hlt
      have hF2 := hF.set j 1 hlt
      have hlt1 := hF.lt
      have HB2 : Hid (Below wr.heap.size wr (w1.setCell ⟨wr.heap.size, j, none⟩ (.int .u8 1))) := hB1.setCell (Nat.le_refl _) _
      obtain ⟨W2, cap, hcv, hr2, hB3⟩ := RowB.made (w1.setCell ⟨wr.heap.size, j, none⟩ (.int .u8 1)) x (by omega)
      have HF3 : Hid (FRow W2 wr.heap.size n (updB (fun _ => 0) j 1)) := FRow.below hF2 hB3
      rw [World.size_setCell, zx] at hcv
      rw [World.size_setCell] at hr2 hB3
      have HR2 := Lib.hid hr2; clear hr2
      have hBW2 := HB2.out.trans (hB3.mono (by have := hB1.size; omega))
      have HBW2 := Lib.hid hBW2; clear hBW2
      have hsW := hB1.size
      obtain ⟨L, hL⟩ : ∃ L, L = x.data.toList := ⟨_, rfl⟩
      rw [← hL] at HR2
      have HLn : Hid (L.length = n) := by unfold Hid; rw [hL, ← zx]; simp
      have HLx : Hid (∀ k, L[k]?.getD 0 = rw' x k) := fun k => by rw [hL, ← List.getD_eq_getElem?_getD]; rfl
      clear hF hB1 hF2 hB3 e1 hL
      go_wp2_with (at_builtin; refine wpList_frow_append rfl _ _ 63 rfl w1.heap.size w1.heap.size cap L 5 i0 Try.underlying63 hi0 hz0 hz1 hz2 (by rw [HLn.out]; rfl) HR2.out wr.heap.size n n _ rfl HF3.out (by rw [HLn.out]; omega) ?_)
      intro g' cap' w3 hF4 hg4 hor hc1 hc2
      rw [HLn.out, show n + n = 2 * n by omega] at hF4 hc1 ⊢
      have HF4 : Hid (FRow w3 g' (2 * n) (beg n (mt m) j)) := hF4.congr fun k hk => by
        unfold beg
        by_cases e : k < n
        · rw [if_pos e, if_pos e, HLx.out, ← HX.out]
        · rw [if_neg e, if_neg e]
          unfold updB dI
          by_cases e2 : k - n = j
          · rw [if_pos e2, if_pos e2.symm]
          · rw [if_neg e2, if_neg (fun e3 => e2 e3.symm)]
      have HB4 : Hid (Below wr.heap.size wr w3) := below_grown HBW2.out hg4 hsW
      have hgB : wr.heap.size ≤ g' := by
        have := HBW2.out.size
        rcases hor with e | e <;> omega
      have hs0 := HB.out.size
      have hs3 := HB4.out.size
      have HK4 : Hid (Mk w3 w.heap.size j (2 * n) u3 G C (beg n (mt m))) := HK.out.below HB4.out
      have hsl : (slL G C (2 * n) j).length + 1 ≤ 1000000000 := by rw [slL_len]; omega
      have hown : w3.ownsRow w.heap.size 63 1 u3 (slL G C (2 * n) j).length (slL G C (2 * n) j) := by rw [slL_len]; exact HK4.out.own
      have hgne : Hid (∀ i, i < j → G i ≠ g') := fun i hi e => by
        have := (HK.out.row i hi).lt
        omega
      clear hF4 hg4 hor hcv e2 f2 HF3 HR2 HB2
      go_wp2_with (at_builtin; refine wpList_push_sl rfl _ _ 66 rfl Try.underlying66 w.heap.size u3 (slL G C (2 * n) j) rfl (hown.alloc _) ⟨w3.heap.size, 0, none⟩ _ (slV g' (2 * n) cap') rfl rfl (by simp [slV]) hsl (by simp; omega) ?_)
      intro v' w5 hown5 hg5
      have HK5 : Hid (Mk w5 w.heap.size (j + 1) (2 * n) v' (fun i => if i = j then g' else G i) (fun i => if i = j then cap' else C i) (beg n (mt m))) :=
        ((HK4.out.below ((Below.refl _ _).alloc (Nat.le_refl _) _)).push (by omega) g' cap' (beg n (mt m) j) (HF4.out.below ((Below.refl _ _).alloc (Nat.le_refl _) _)) (by omega) ⟨hc1, hc2⟩ hgne.out (by simpa using hown5) hg5).congr fun i hi k hk => by
          by_cases e : i = j
          · rw [if_pos e, e]
          · rw [if_neg e]
      have HB5 : Hid (Below w.heap.size w w5) := ((HB.out.trans (HB4.out.mono hs0)).alloc (by omega) _).grown hg5 (by simp; omega) (fun k hk => (HK.out.own.lt k hk).1)
      clear hown5 hg5 hown
      go_wp2_with fail
      go_roundw
      case rel => exact ⟨j + 1, _, _, by omega, by go_num, HK5, HB5⟩
      case measure => simp [intOf]; omega
    · obtain rfl : j = n := by omega
      obtain ⟨o, cap, hv, hc1, hc2, hS⟩ := HK.out.sol h0 (by omega)
      subst hv
      go_wp2_with fail
      go_ret
      exact ⟨o, cap, G, C, rfl, hc1, hc2, hS, HB.out⟩
end Go.Proofs.Ytdgnhnhmcobfkaa
