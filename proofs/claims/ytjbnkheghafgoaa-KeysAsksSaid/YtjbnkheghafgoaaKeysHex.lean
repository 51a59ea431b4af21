/- Keys as texts: walks. -/
import Derived.Test.YtjbnkheghafgoaaBuilder
import Derived.Test.YtjbnkheghafgoaaWords
import Derived.BigQuiet
import Derived.Deep.QuietTactic
namespace Go.Proofs.Ytjbnkheghafgoaa
open Go.RowKit
set_option linter.unusedVariables false
/-- a half of a byte as a digit -/
def hDig (n : Nat) : UInt8 := if n < 10 then UInt8.ofNat (48 + n) else UInt8.ofNat (87 + n)
def hHex : List UInt8 → List UInt8
  | [] => []
  | c :: s => hDig (c.toNat / 16) :: hDig (c.toNat % 16) :: hHex s
theorem hHex_snoc (c : UInt8) : ∀ s, hHex (s ++ [c]) = hHex s ++ [hDig (c.toNat / 16)] ++ [hDig (c.toNat % 16)]
  | [] => rfl
  | d :: s => by simp only [List.cons_append, hHex]; rw [hHex_snoc c s]
theorem hHex_len : ∀ s, (hHex s).length = 2 * s.length
  | [] => rfl
  | d :: s => by simp only [hHex, List.length_cons]; rw [hHex_len s]; omega
theorem hexAt : ∀ n, n < 16 → ∀ h, ((⟨#[48, 49, 50, 51, 52, 53, 54, 55, 56, 57, 97, 98, 99, 100, 101, 102]⟩ : ByteArray)[n]'h) = hDig n
  | 0, _, _ => rfl
  | 1, _, _ => rfl
  | 2, _, _ => rfl
  | 3, _, _ => rfl
  | 4, _, _ => rfl
  | 5, _, _ => rfl
  | 6, _, _ => rfl
  | 7, _, _ => rfl
  | 8, _, _ => rfl
  | 9, _, _ => rfl
  | 10, _, _ => rfl
  | 11, _, _ => rfl
  | 12, _, _ => rfl
  | 13, _, _ => rfl
  | 14, _, _ => rfl
  | 15, _, _ => rfl
  | n + 16, h, _ => absurd h (by omega)
theorem and15 (a : Nat) (ha : a < 256) : bits .and .u8 (a : Int) (15 : Int) = ((a % 16 : Nat) : Int) := by
  rw [u8_and _ _ (by omega) (by omega) (by omega) (by omega)]
  show ((a &&& 15 : Nat) : Int) = _
  rw [Nat.and_two_pow_sub_one_eq_mod a 4]
def HAt (s : ByteArray) (k : Nat) (l : List UInt8) : Prop := hHex (s.data.toList.take k) = l
set_option maxRecDepth 20000 in
set_option maxHeartbeats 1000000 in
/-- String, of a builder that was just laid -/
theorem bldString_fresh (w : World) : Calls Try.prog 28 #[.pointer (some ⟨w.heap.size, 0, none⟩)] (w.alloc (.cells #[.pointer none, .slice none 0 0] 44)) fun e w' => e = .returned (.string ⟨#[]⟩) ∧ Below w.heap.size w w' := by
  have HB := Lib.hid ((Below.refl w.heap.size w).alloc (Nat.le_refl _) (.cells #[.pointer none, .slice none 0 0] 44))
  obtain ⟨W, hW⟩ : ∃ W, W = w.alloc (.cells #[.pointer none, .slice none 0 0] 44) := ⟨_, rfl⟩
  have c1 : W.drew.cell? ⟨w.heap.size, 1, none⟩ = some (.slice none 0 0) := by subst hW; simp
  have hSD : (Builtin.unsafeSliceData_ #[23] 62 #[.slice none 0 0]).run Try.prog W.drew = .ok (.pointer none) W.drew := Lib.run_unsafeSliceData_nil ..
  have hUS : (Builtin.unsafeString_ #[62, 3] 9 #[.pointer none, .int .i64 0]).run Try.prog W.drew = .ok (.string .empty) W.drew := Lib.run_unsafeString_none ..
  rw [← hW] at HB ⊢
  clear hW
  go_enter Try.func28, Try.ntmps28
  go_wp2
  go_region
  all_goals (go_wp2; go_ret; exact ⟨rfl, HB.out.drew⟩)
set_option maxRecDepth 20000 in
set_option maxHeartbeats 1000000 in
theorem hex_any (s : ByteArray) (hs : s.size ≤ 1000000000) (w : World) :
    Calls Try.prog 8 #[.string s] w fun e w' => e = .returned (.string ⟨(hHex s.data.toList).toArray⟩) ∧ Below w.heap.size w w' := by
  by_cases hs0 : s.size = 0
  · have hz : hHex s.data.toList = [] := by
      have : s.data.toList.length = 0 := by simpa using hs0
      rw [List.length_eq_zero_iff.1 this]; rfl
    rw [hz]
    have hl : (s.size : Int) = 0 := by omega
    clear hz hs
    go_enter Try.func8, Try.ntmps8
    go_wp2
    refine wp_loop_rounds 1 ?_
    rw [rounds_succ]
    go_wp2_with fail
    refine (bldString_fresh _).mono ?_
    rintro e w1 ⟨rfl, b1⟩
    go_wp2
    go_ret
    exact ⟨rfl, b1⟩
  have H0 := Lib.hid (isBld_fresh w)
  have HB := Lib.hid ((Below.refl w.heap.size w).alloc (Nat.le_refl _) (.cells #[.pointer none, .slice none 0 0] 44))
  go_enter Try.func8, Try.ntmps8
  go_wp2
  go_loopw [7] (fun i wr => ∃ (k : Nat) (l : List UInt8), i = .int .i64 (k : Int) ∧ k ≤ s.size ∧ l.length = 2 * k ∧ HAt s k l ∧ Hid (isBld wr w.heap.size l) ∧ Hid (Below w.heap.size w wr) ∧ w.heap.size ≤ wr.heap.size) (fun i _ => s.size - (intOf i).toNat)
  case atStart => exact ⟨0, [], rfl, Nat.zero_le _, rfl, rfl, H0.out, HB.out, by simp⟩
  case round =>
    obtain ⟨k, l, rfl, hk, hl, HK, HI, HW, hsz⟩ := hrel
    by_cases hlt : k < s.size
    · have hc := s[k].toNat_lt
      have hn1 : s[k].toNat / 16 < 16 := by omega
      have hn2 : s[k].toNat % 16 < 16 := by omega
      have g1 : ∀ (h : s[k].toNat / 16 < 16), ((⟨#[48, 49, 50, 51, 52, 53, 54, 55, 56, 57, 97, 98, 99, 100, 101, 102]⟩ : ByteArray)[s[k].toNat / 16]'h) = hDig (s[k].toNat / 16) := fun h => hexAt (s[k].toNat / 16) hn1 h
      have g2 : ∀ (h : s[k].toNat % 16 < 16), ((⟨#[48, 49, 50, 51, 52, 53, 54, 55, 56, 57, 97, 98, 99, 100, 101, 102]⟩ : ByteArray)[s[k].toNat % 16]'h) = hDig (s[k].toNat % 16) := fun h => hexAt (s[k].toNat % 16) hn2 h
      have g3 := and15 s[k].toNat hc
      have HN : HAt s (k + 1) (l ++ [hDig (s[k].toNat / 16)] ++ [hDig (s[k].toNat % 16)]) := by
        unfold HAt at *
        rw [take_snoc s k hlt, hHex_snoc, HK]
      generalize hDig (s[k].toNat / 16) = d1 at *
      generalize hDig (s[k].toNat % 16) = d2 at *
      clear HK
      go_wp2_with fail
      refine (bldByte_ok _ _ _ _ HI.out (by omega) hsz).mono ?_
      rintro e w1 ⟨rfl, h1, b1⟩
      have H1 := Lib.hid h1; clear h1
      have HW1 := Lib.hid (HW.out.trans b1)
      have hs1 := Nat.le_trans hsz b1.size
      go_wp2_with fail
      refine (bldByte_ok _ _ _ _ H1.out (by simp; omega) hs1).mono ?_
      rintro e w2 ⟨rfl, h2, b2⟩
      have H2 := Lib.hid h2; clear h2
      have HW2 := Lib.hid (HW1.out.trans b2)
      have hs2 := Nat.le_trans hs1 b2.size
      go_wp2
      go_roundw
      case rel => exact ⟨k + 1, _, by go_num, by omega, by simp; omega, HN, H2, HW2, hs2⟩
      case measure => simp [intOf]; omega
    · obtain rfl : k = s.size := by omega
      have hv : hHex s.data.toList = l := by unfold HAt at HK; rw [take_all s _ (Nat.le_refl _)] at HK; exact HK
      have HM := Lib.hid hv; clear hv HK
      go_wp2_with fail
      refine (bldString_ok _ _ _ HI.out (by intro h0; rw [h0] at hl; simp at hl; omega)).mono ?_
      rintro e w2 ⟨rfl, b2⟩
      go_wp2
      go_ret
      exact ⟨by rw [HM.out]; rfl, HW.out.trans b2⟩
end Go.Proofs.Ytjbnkheghafgoaa
