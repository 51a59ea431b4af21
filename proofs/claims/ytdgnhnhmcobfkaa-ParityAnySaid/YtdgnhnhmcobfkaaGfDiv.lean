/- The document's quotients and powers, sums of products, the chapter's example: walks. -/
import Derived.Test.YtdgnhnhmcobfkaaGfRef
namespace Go.Proofs.Ytdgnhnhmcobfkaa
open Go.RowKit
set_option linter.unusedVariables false
theorem gDiv_back {a b : Nat} (ha : a < 256) (hb : b < 256) (h : b ≠ 0) : gMul (gDiv a b) b = a := by
  unfold gDiv; rw [if_neg h]; exact gDiv_mul ha hb h
set_option maxRecDepth 20000 in
set_option maxHeartbeats 1000000 in
theorem refDiv_any (a b : Nat) (ha : a < 256) (hb : b < 256) (w : World) : Calls Try.prog 14 #[.int .u8 (a : Int), .int .u8 (b : Int)] w fun e w' => e = .returned (.tuple #[.int .u8 (gDiv a b : Nat), .bool (decide (b ≠ 0))]) ∧ w = w' := by
  by_cases h : b = 0
  · subst h
    go_enter Try.func14, Try.ntmps14
    go_wp2
    go_ret2
    exact ⟨rfl, rfl⟩
  · have hbb : decide (b ≠ 0) = true := by simp [h]
    rw [hbb]
    clear hbb
    have hq := gDiv_lt b ha
    have hbk := Lib.hid (gDiv_back ha hb h)
    generalize gDiv a b = q at *
    have hb0 : ((b : Int) == 0) = false := by simp; omega
    go_enter Try.func14, Try.ntmps14
    go_wp2
    go_loop [6] (fun x => ∃ x' : Nat, x = .int .i64 (x' : Int) ∧ x' ≤ q) (fun x => 256 - (intOf x).toNat)
    case atStart => exact ⟨0, rfl, Nat.zero_le _⟩
    case round =>
      obtain ⟨x, rfl, hx⟩ := hrel
      have hx256 : x < 256 := by omega
      have HM := fun w => refMul_any x b hx256 hb w
      by_cases hxq : x = q
      · subst hxq
        rw [hbk.out] at HM
        have HM := Lib.hid HM
        go_wp2_with fail
        refine (HM.out _).mono ?_
        rintro e w' ⟨rfl, rfl⟩
        go_wp2
        go_ret2
        exact ⟨rfl, rfl⟩
      · have hne : gMul x b ≠ a := fun e => hxq (gMul_cancel hx256 hq hb h (by rw [e, hbk.out]))
        generalize gMul x b = v at *
        have HM := Lib.hid HM
        have hv : ((v : Int) == (a : Int)) = false := by rw [beq_eq_false_iff_ne]; omega
        go_wp2_with fail
        refine (HM.out _).mono ?_
        rintro e w' ⟨rfl, rfl⟩
        go_wp2
        go_round
        case rel => exact ⟨x + 1, by go_num, by omega⟩
        case measure => simp [intOf]; omega
set_option maxRecDepth 20000 in
set_option maxHeartbeats 1000000 in
theorem refPow_main (a k : Nat) (n : Int) (ha : a < 256) (ha0 : a ≠ 0) (hn : n ≠ 0) (hn2 : -9223372036854775808 ≤ n ∧ n ≤ 9223372036854775807) (hk : k < 255) (ht : (0 ≤ n ∧ n.tmod 255 = (k : Int)) ∨ (n < 0 ∧ k = 0 ∧ n.tmod 255 = 0) ∨ (n < 0 ∧ 0 < k ∧ n.tmod 255 = (k : Int) - 255)) (w : World) :
    Calls Try.prog 16 #[.int .u8 (a : Int), .int .i64 n] w fun e w' => e = .returned (.int .u8 (gPow a k : Nat)) ∧ w = w' := by
  have ha1 : ((a : Int) == 0) = false := by simp; omega
  have hn1 : (n == 0) = false := by simp; omega
  rcases ht with ⟨_, ht⟩ | ⟨_, rfl, ht⟩ | ⟨_, hk0, ht⟩
  · go_enter Try.func16, Try.ntmps16
    go_wp2
    go_loop [6, 7] (fun p i => ∃ (p' i' : Nat), p = .int .u8 (p' : Int) ∧ i = .int .i64 (i' : Int) ∧ i' ≤ k ∧ p' < 256 ∧ Hid (gPow a i' = p')) (fun _ i => k - (intOf i).toNat)
    case atStart => exact ⟨1, 0, rfl, rfl, Nat.zero_le _, by decide, rfl⟩
    case round =>
      obtain ⟨p, i, rfl, rfl, hi, hp, HV⟩ := hrel
      by_cases hik : i < k
      · have HM := fun w => refMul_any p a hp ha w
        have hm := gMul_lt a hp
        have hv : Hid (gPow a (i + 1) = gMul p a) := by unfold Hid; rw [gPow, HV.out]
        generalize gMul p a = q at *
        have HM := Lib.hid HM
        clear HV
        go_wp2_with fail
        refine (HM.out _).mono ?_
        rintro e w' ⟨rfl, rfl⟩
        go_wp2
        go_round
        case rel => exact ⟨q, i + 1, rfl, by go_num, by omega, hm, hv⟩
        case measure => simp [intOf]; omega
      · obtain rfl : i = k := by omega
        have hv := HV.out
        clear HV
        go_wp2
        go_ret
        exact ⟨by first | rfl | rw [hv], rfl⟩
  · go_enter Try.func16, Try.ntmps16
    go_wp2
    go_loop [6, 7] (fun p i => ∃ (p' i' : Nat), p = .int .u8 (p' : Int) ∧ i = .int .i64 (i' : Int) ∧ i' ≤ 0 ∧ p' < 256 ∧ Hid (gPow a i' = p')) (fun _ i => 0 - (intOf i).toNat)
    case atStart => exact ⟨1, 0, rfl, rfl, Nat.zero_le _, by decide, rfl⟩
    case round =>
      obtain ⟨p, i, rfl, rfl, hi, hp, HV⟩ := hrel
      by_cases hik : i < 0
      · exact absurd hik (Nat.not_lt_zero _)
      · have hi0 : i = 0 := by omega
        subst hi0
        have hv := HV.out
        clear HV
        go_wp2
        go_ret
        exact ⟨by first | rfl | rw [hv], rfl⟩
  · obtain ⟨z, hz⟩ : ∃ z, z = (k : Int) - 255 := ⟨_, rfl⟩
    have hz2 : decide (z < 0) = true := by rw [decide_eq_true_iff]; omega
    have hz3 : z + 255 = (k : Int) := by omega
    rw [← hz] at ht
    clear hz
    go_enter Try.func16, Try.ntmps16
    go_wp2
    go_loop [6, 7] (fun p i => ∃ (p' i' : Nat), p = .int .u8 (p' : Int) ∧ i = .int .i64 (i' : Int) ∧ i' ≤ k ∧ p' < 256 ∧ Hid (gPow a i' = p')) (fun _ i => k - (intOf i).toNat)
    case atStart => exact ⟨1, 0, rfl, rfl, Nat.zero_le _, by decide, rfl⟩
    case round =>
      obtain ⟨p, i, rfl, rfl, hi, hp, HV⟩ := hrel
      by_cases hik : i < k
      · have HM := fun w => refMul_any p a hp ha w
        have hm := gMul_lt a hp
        have hv : Hid (gPow a (i + 1) = gMul p a) := by unfold Hid; rw [gPow, HV.out]
        generalize gMul p a = q at *
        have HM := Lib.hid HM
        clear HV
        go_wp2_with fail
        refine (HM.out _).mono ?_
        rintro e w' ⟨rfl, rfl⟩
        go_wp2
        go_round
        case rel => exact ⟨q, i + 1, rfl, by go_num, by omega, hm, hv⟩
        case measure => simp [intOf]; omega
      · obtain rfl : i = k := by omega
        have hv := HV.out
        clear HV
        go_wp2
        go_ret
        exact ⟨by first | rfl | rw [hv], rfl⟩
theorem refPow_any (a : Nat) (n : Int) (ha : a < 256) (hn : -9223372036854775808 ≤ n ∧ n ≤ 9223372036854775807) (w : World) : Calls Try.prog 16 #[.int .u8 (a : Int), .int .i64 n] w fun e w' => e = .returned (.int .u8 (gPowZ a n : Nat)) ∧ w = w' := by
  by_cases h : n = 0
  · subst h
    go_enter Try.func16, Try.ntmps16
    go_wp2
    go_ret
    exact ⟨rfl, rfl⟩
  by_cases h2 : a = 0
  · subst h2
    have hv : gPowZ 0 n = 0 := by unfold gPowZ; rw [if_neg h, if_pos rfl]
    rw [hv]
    clear hv
    go_enter Try.func16, Try.ntmps16
    go_wp2
    go_ret
    exact ⟨rfl, rfl⟩
  have hv : gPowZ a n = gPow a (n % 255).toNat := by unfold gPowZ; rw [if_neg h, if_neg h2]
  rw [hv]
  refine refPow_main a (n % 255).toNat n ha h2 h hn (by omega) ?_ w
  by_cases h3 : 0 ≤ n
  · exact .inl ⟨h3, by rw [Int.tmod_eq_emod_of_nonneg h3]; omega⟩
  · have ht : n.tmod 255 = -((-n) % 255) := by
      obtain ⟨m, rfl⟩ : ∃ m, n = -m := ⟨-n, by omega⟩
      rw [Int.neg_tmod, Int.tmod_eq_emod_of_nonneg (by omega), Int.neg_neg]
    rw [ht]
    by_cases h7 : n % 255 = 0
    · exact .inr (.inl ⟨by omega, by omega, by omega⟩)
    · exact .inr (.inr ⟨by omega, by omega, by omega⟩)
/-- the sum of the products of two rows' numbers -/
def gDot : List UInt8 → List UInt8 → Nat
  | x :: xs, y :: ys => gMul x.toNat y.toNat ^^^ gDot xs ys
  | _, _ => 0
theorem gDot_lt : ∀ l m, gDot l m < 256
  | x :: xs, y :: ys => xlt (gMul_lt _ x.toNat_lt) (gDot_lt xs ys)
  | [], _ => by simp [gDot]
  | _ :: _, [] => by simp [gDot]
theorem gDot_snoc (x y : UInt8) : ∀ l m : List UInt8, l.length = m.length → gDot (l ++ [x]) (m ++ [y]) = gDot l m ^^^ gMul x.toNat y.toNat
  | [], [], _ => by simp [gDot]
  | a :: l, b :: m, h => by
    simp only [List.cons_append, gDot]
    rw [gDot_snoc x y l m (by simpa using h), Nat.xor_assoc]
  | [], _ :: _, h => by simp at h
  | _ :: _, [], h => by simp at h
theorem gDot_take : ∀ (n : Nat) (l m : List UInt8), l.length ≤ n ∨ m.length ≤ n → gDot (l.take n) (m.take n) = gDot l m
  | _, [], m, _ => by simp [gDot]
  | _, a :: l, [], _ => by simp [gDot]
  | 0, a :: l, b :: m, h => by simp at h
  | n + 1, a :: l, b :: m, h => by
    simp only [List.take_succ_cons, gDot]
    rw [gDot_take n l m (by simpa using h)]
def GDotAt (a b : ByteArray) (k s : Nat) : Prop := gDot (a.data.toList.take k) (b.data.toList.take k) = s
theorem GDotAt.step {a b : ByteArray} {k s : Nat} (h : GDotAt a b k s) (ha : k < a.size) (hb : k < b.size) : GDotAt a b (k + 1) (s ^^^ gMul a[k].toNat b[k].toNat) := by
  unfold GDotAt at *
  rw [take_snoc a k ha, take_snoc b k hb, gDot_snoc _ _ _ _ (by simp; omega), h]
theorem GDotAt.done {a b : ByteArray} {k s : Nat} (h : GDotAt a b k s) (hk : a.size ≤ k ∨ b.size ≤ k) : gDot a.data.toList b.data.toList = s := by
  unfold GDotAt at h
  rw [← gDot_take k _ _ (by simpa using hk), h]
end Go.Proofs.Ytdgnhnhmcobfkaa
