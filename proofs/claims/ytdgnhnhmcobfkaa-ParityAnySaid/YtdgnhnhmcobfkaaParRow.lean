/- siloref36.row: walk. -/
import Derived.Test.YtdgnhnhmcobfkaaParKer
namespace Go.Proofs.Ytdgnhnhmcobfkaa
open Go.RowKit
set_option linter.unusedVariables false
set_option linter.unusedSimpArgs false
theorem parM_get (k p i : Nat) (h : i < p) : (parM k p).getD i .empty = bytesF k (cau k i) := mapF_get p k (cau k) i h
theorem parM_len (k p : Nat) : (parM k p).length = p := by simp [parM]
set_option maxRecDepth 20000 in
set_option maxHeartbeats 2000000 in
theorem row_any (k p i : Nat) (w : World) (hk0 : 0 < k) (hk : k ≤ 16) (hp0 : 0 < p) (hp : p ≤ 16) (hi : i < k + p) :
    Calls Try.prog 55 #[.int .i64 k, .int .i64 p, .int .i64 i] w fun e w' => e = .returned (.string ((rowsP k p).getD i .empty)) ∧ Below w.heap.size w w' := by
  obtain ⟨z, hz⟩ : ∃ z, z = (rowsP k p).getD i .empty := ⟨_, rfl⟩
  rw [← hz]
  by_cases h : i < k
  · have HR : Hid (z = bytesF k (dI i)) := by rw [hz]; exact rowsP_low k p i h
    have hd : decide ((k : Int) ≤ (i : Int)) = false := by simp; omega
    have hlt : (i : Int) < (k : Int) := by omega
    have hik : i < k := h
    clear h hz
    go_enter Try.func55, Try.ntmps55
    go_wp2_with (at_make; refine wpList_make_bytes rfl _ _ 63 rfl Try.underlying63 k rfl rfl (by omega) ?_)
    intro w1 hF hB
    have e1 : w1.cell? ⟨w.heap.size, i, none⟩ = some (.int .u8 0) := hF.cell i hik
    have f1 : w1.frozen? ⟨w.heap.size, i, none⟩ = false := hF.free i hik
    have hF2 : FRow (w1.setCell ⟨w.heap.size, i, none⟩ (.int .u8 1)) w.heap.size k (updB (fun _ => 0) i 1) := hF.set i 1 hik
    have hcs := conv_str hF2 0 k k (by omega)
    have HE : Hid (bytesF k (fun q => updB (fun _ => 0) i 1 (0 + q)) = bytesF k (dI i)) := bytesF_congr fun q hq => by
      unfold updB dI
      rw [Nat.zero_add]
      by_cases e : q = i
      · rw [if_pos e, if_pos e.symm]
      · rw [if_neg e, if_neg (fun e2 => e e2.symm)]
    rw [HE.out, ← HR.out] at hcs
    have HB2 : Hid (Below w.heap.size w (w1.setCell ⟨w.heap.size, i, none⟩ (.int .u8 1))) := hB.setCell (Nat.le_refl _) _
    clear hF hF2 hB HR HE
    go_wp2_with fail
    go_ret
    exact ⟨rfl, HB2.out⟩
  · have HR : Hid (z = bytesF k (cau k (i - k))) := by rw [hz]; exact rowsP_high k p i (by omega) hi
    have hd : decide ((k : Int) ≤ (i : Int)) = true := by simp; omega
    have HM := Lib.hid (rmatrix_ok k p w hk0 hk hp0 hp)
    have hip : i - k < p := by omega
    have hsub : (i : Int) - (k : Int) = ((i - k : Nat) : Int) := by omega
    have HG := Lib.hid (parM_get k p (i - k) hip)
    obtain ⟨q, hq⟩ : ∃ q, i - k = q := ⟨_, rfl⟩
    rw [hq] at hip hsub HG HR
    clear hq hz
    go_enter Try.func55, Try.ntmps55
    go_wp2_with fail
    refine HM.out.mono ?_
    rintro e w1 ⟨v1, rfl, s1, b1⟩
    obtain ⟨b, off, c, hv, h1, h2, h3, h4⟩ := s1.1.at (by rw [parM_len]; omega)
    subst hv
    have hql : q < (parM k p).length := by rw [parM_len]; exact hip
    have e1 : w1.cell? ⟨b, off + q, none⟩ = some (.string z) := by
      rw [HR.out, ← HG.out, h4 q hql, List.getD_eq_getElem?_getD, List.getElem?_eq_getElem hql]; rfl
    rw [parM_len] at h1 ⊢
    have hqi : (q : Int) < (p : Int) := by omega
    have HB := Lib.hid b1
    clear h4 h1 h2 h3 HR HG s1 b1 hql HM
    go_wp2_with fail
    go_ret
    exact ⟨rfl, HB.out⟩
end Go.Proofs.Ytdgnhnhmcobfkaa
