/- varint.Put and the reference's: their walks. -/
import Derived.Test.YtjgjhjecgdndjaaWords
import Derived.Test.YtjgjhjecgdndjaaBuilder
import Derived.Test.YtjgjhjecgdndjaaVarintSpec
import Derived.WalkKit
import Derived.WalkSpells
import Derived.WalkLawsBesides
import Derived.Lib.Hide
import Derived.Maps.AppendAt
namespace Go.Proofs.Ytjgjhjecgdndjaa
open Go.RowKit
set_option linter.unusedVariables false
/-- a number as bytes -/
def vPutF : Nat → Nat → List UInt8
  | 0, n => [UInt8.ofNat n]
  | f + 1, n => if n < 128 then [UInt8.ofNat n] else UInt8.ofNat (n % 128 + 128) :: vPutF f (n / 128)
def vPut (n : Nat) : List UInt8 := vPutF n n
theorem vPutF_irrel : ∀ (f g n : Nat), n ≤ f → n ≤ g → vPutF f n = vPutF g n
  | 0, 0, n, _, _ => rfl
  | 0, g + 1, n, h, _ => by obtain rfl : n = 0 := by omega
                            simp [vPutF]
  | f + 1, 0, n, _, h => by obtain rfl : n = 0 := by omega
                            simp [vPutF]
  | f + 1, g + 1, n, h1, h2 => by
    simp only [vPutF]
    split
    · rfl
    · rw [vPutF_irrel f g (n / 128) (by omega) (by omega)]
theorem vPut_small (n : Nat) (h : n < 128) : vPut n = [UInt8.ofNat n] := by
  unfold vPut
  cases n with
  | zero => rfl
  | succ n => simp [vPutF, h]
theorem vPut_step (n : Nat) (h : 128 ≤ n) : vPut n = UInt8.ofNat (n % 128 + 128) :: vPut (n / 128) := by
  unfold vPut
  cases n with
  | zero => omega
  | succ n =>
    rw [vPutF, if_neg (by omega), vPutF_irrel n ((n + 1) / 128) _ (by omega) (Nat.le_refl _)]
theorem vPut_len (k : Nat) : ∀ n, n < 128 ^ (k + 1) → (vPut n).length ≤ k + 1 := by
  induction k with
  | zero => intro n h; rw [vPut_small n (by simpa using h)]; simp
  | succ k ih =>
    intro n h
    by_cases h1 : n < 128
    · rw [vPut_small n h1]; simp
    · rw [vPut_step n (by omega)]
      have := ih (n / 128) (by rw [Nat.div_lt_iff_lt_mul (by decide)]; rwa [Nat.pow_succ] at h)
      simp; omega
theorem vPut_len10 (n : Nat) (h : n < 18446744073709551616) : (vPut n).length ≤ 10 := vPut_len 9 n (Nat.lt_of_lt_of_le h (by decide))
theorem vPut_pos (n : Nat) : 1 ≤ (vPut n).length := by
  by_cases h : n < 128
  · rw [vPut_small n h]; simp
  · rw [vPut_step n (by omega)]; simp
theorem or128 (m : Nat) : bits .or .u8 ((m : Int) % 256) (128 : Int) = ((UInt8.ofNat (m % 128 + 128)).toNat : Int) := by
  rw [u8_or _ _ (by omega) (by omega) (by decide) (by decide)]
  have e1 : ((m : Int) % 256).toNat = m % 256 := by omega
  rw [e1]
  have e2 : (m % 256) ||| (128 : Int).toNat = m % 128 + 128 := by
    have : (128 : Int).toNat = 128 := rfl
    rw [this]
    rcases Nat.lt_or_ge (m % 256) 128 with h | h
    · rw [Nat.or_comm, nat_join 7 _ _ (by decide) (by simpa using h)]; omega
    · have : m % 256 = 128 + m % 128 := by omega
      rw [this, ← nat_join 7 128 (m % 128) (by decide) (Nat.mod_lt _ (by decide)), Nat.or_assoc, Nat.or_comm (m % 128), ← Nat.or_assoc, Nat.or_self, nat_join 7 128 (m % 128) (by decide) (Nat.mod_lt _ (by decide))]
      omega
  rw [e2]
  simp
  omega
set_option maxHeartbeats 400000 in
theorem put_any (n : Nat) (hn : n < 18446744073709551616) (w : World) :
    Calls Try.prog 26 #[.int .u64 (n : Int)] w fun e w' => e = .returned (.string ⟨(vPut n).toArray⟩) ∧ Below w.heap.size w w' := by
  have H0 := Lib.hid (isBld_fresh w)
  have h10 := Lib.hid (vPut_len10 n hn)
  have HB := Lib.hid ((Below.refl w.heap.size w).alloc (Nat.le_refl _) (.cells #[.pointer none, .slice none 0 0] 86))
  go_enter Try.func26, Try.ntmps26
  go_wp2
  go_loopw [0] (fun x wr => ∃ (m : Nat) (l : List UInt8), x = .int .u64 (m : Int) ∧ m < 18446744073709551616 ∧ Hid (vPut n = l ++ vPut m) ∧ Hid (isBld wr w.heap.size l) ∧ Hid (Below w.heap.size w wr) ∧ w.heap.size ≤ wr.heap.size) (fun x _ => (intOf x).toNat)
  case atStart => exact ⟨n, [], rfl, hn, rfl, H0.out, HB.out, by simp⟩
  case round =>
    obtain ⟨m, l, rfl, hm, HV, HI, HW, hsz⟩ := hrel
    have hll := congrArg List.length HV.out
    rw [List.length_append] at hll
    have hl10 : l.length ≤ 10 := by have := h10.out; omega
    clear hll
    by_cases h : 128 ≤ m
    · have e1 := or128 m
      generalize hq : UInt8.ofNat (m % 128 + 128) = q at *
      have HQ := Lib.hid hq; clear hq
      go_wp2_with fail
      refine (bldByte_ok _ _ _ _ HI.out (by omega) hsz).mono ?_
      rintro e w1 ⟨rfl, h1, b1⟩
      have H1 := Lib.hid h1; clear h1
      have HW1 := Lib.hid (HW.out.trans b1)
      have hs1 := Nat.le_trans hsz b1.size
      go_wp2
      go_roundw
      case rel => exact ⟨m / 128, l ++ [q], rfl, by omega, by unfold Hid; rw [HV.out, vPut_step m h, HQ.out]; simp, H1, HW1, hs1⟩
      case measure => simp [intOf]; omega
    · have hml : (vPut n) = l ++ [UInt8.ofNat m] := by rw [HV.out, vPut_small m (by omega)]
      have e1 : ((m : Int)) = ((UInt8.ofNat m).toNat : Int) := by simp; omega
      have hmm : m = (UInt8.ofNat m).toNat := by simp; omega
      generalize UInt8.ofNat m = q at *
      subst hmm
      have HM := Lib.hid hml; clear hml
      clear e1
      have hq := q.toNat_lt
      go_wp2_with fail
      refine (bldByte_ok _ _ _ _ HI.out (by omega) hsz).mono ?_
      rintro e w1 ⟨rfl, h1, b1⟩
      have H1 := Lib.hid h1; clear h1
      go_wp2_with fail
      refine (bldString_ok _ _ _ H1.out (by simp)).mono ?_
      rintro e w2 ⟨rfl, b2⟩
      go_wp2
      go_ret
      exact ⟨by rw [HM.out]; rfl, (HW.out.trans b1).trans b2⟩
theorem add_eq0 {b off : Nat} (i : Nat) : (⟨b, off, none⟩ : Addr).add i = ⟨b, off + i, none⟩ := by
  unfold Addr.add; split
  · rename_i h; subst h; rfl
  · rfl
theorem run_own_str {P : Program} (w : World) (src dst e : TypeId) (hs : P.underlying src = some (.slice e)) (he : P.underlying e = some (.int .u8)) (hd : P.underlying dst = some .string)
    {B e' n cap g : Nat} {l : List UInt8} (h : w.ownsRow B e' 1 (.slice (some ⟨g, 0, none⟩) n cap) n (Lib.byteCells l)) :
    (convert src dst (.slice (some ⟨g, 0, none⟩) n cap)).run P w = .ok (.string ⟨l.toArray⟩) w := by
  have hl : l.length = n := by have := h.1; simpa [Lib.byteCells] using this
  refine run_bytes_str w src dst e hs he hd g 0 n cap l hl ?_
  intro i hi2
  have := h.cells (g := g) rfl i (.int .u8 l[i].toNat) (by simp only [Lib.byteCells, List.getElem?_map, List.getElem?_eq_getElem hi2, Option.map_some])
  rw [add_eq0] at this
  exact this
set_option maxRecDepth 100000 in
set_option maxHeartbeats 1000000 in
theorem refPut_any (n : Nat) (hn : n < 18446744073709551616) (w : World) :
    Calls Try.prog 28 #[.int .u64 (n : Int)] w fun e w' => e = .returned (.string ⟨(vPut n).toArray⟩) ∧ Below w.heap.size w w' := by
  obtain ⟨i0, hi, hz0, hz1, hz2⟩ := info_parts bldByte
  have h10 := Lib.hid (vPut_len10 n hn)
  go_enter Try.func28, Try.ntmps28
  go_wp2
  go_loopw [0, 3] (fun x v wr => ∃ (m : Nat) (l : List UInt8), x = .int .u64 (m : Int) ∧ m < 18446744073709551616 ∧ Hid (vPut n = l ++ vPut m) ∧ wr.ownsRow w.heap.size 5 1 v l.length (Lib.byteCells l) ∧ Hid (Below w.heap.size w wr) ∧ w.heap.size ≤ wr.heap.size) (fun x _ _ => (intOf x).toNat)
  case atStart => exact ⟨n, [], rfl, hn, rfl, World.ownsRow_nil _ _ _ _, Below.refl _ _, Nat.le_refl _⟩
  case round =>
    obtain ⟨m, l, rfl, hm, HV, hown, HW, hsz⟩ := hrel
    have hll := congrArg List.length HV.out
    rw [List.length_append] at hll
    have hl10 : l.length ≤ 10 := by have := h10.out; omega
    clear hll
    by_cases h : 128 ≤ m
    · have e1 : ((m : Int) % 128 + 128) = ((UInt8.ofNat (m % 128 + 128)).toNat : Int) := by simp; omega
      generalize hq : UInt8.ofNat (m % 128 + 128) = q at *
      have HQ := Lib.hid hq; clear hq
      go_wp2_with (at_builtin; refine wpList_append_own _ rfl _ _ 84 rfl w.heap.size 5 i0 (.int .u8 0) 1 1 Try.underlying84 hi hz0 hz1 hz2 rfl (by decide) _ _ _ rfl (hown.alloc _) ⟨wr.heap.size, 0, none⟩ 1 1 [.int .u8 q.toNat] rfl rfl ?c1 ?c2 ?c3 ?c4 ?c5 ?_)
      case c1 =>
        intro j u hj
        match j, hj with
        | 0, hj => simp at hj; subst hj; simp [Addr.add]
      case c2 => intro u hu; simp at hu; subst hu; rfl
      case c3 => unfold maxLen; omega
      case c4 => omega
      case c5 => simp; omega
      intro v' w1 hown1 hgrow1 _
      have HN := Lib.hid hown1; clear hown1
      have hz1' : w.heap.size ≤ w1.heap.size := by have := hgrow1.size; simp at this; omega
      have HW1 : Hid (Below w.heap.size w w1) := (HW.out.alloc hsz _).grown hgrow1 (by simp; omega) (fun k hk => (hown.lt k hk).1)
      have HG := Lib.hid hgrow1; clear hgrow1
      go_wp2
      go_roundw
      case rel => exact ⟨m / 128, l ++ [q], rfl, by omega, by unfold Hid; rw [HV.out, vPut_step m h, HQ.out]; simp, by simpa [Lib.byteCells] using HN.out, HW1, hz1'⟩
      case measure => simp [intOf]; omega
    · have hml : (vPut n) = l ++ [UInt8.ofNat m] := by rw [HV.out, vPut_small m (by omega)]
      have hmm : m = (UInt8.ofNat m).toNat := by simp; omega
      generalize UInt8.ofNat m = q at *
      subst hmm
      have HM := Lib.hid hml; clear hml
      have hq := q.toNat_lt
      go_wp2_with (at_builtin; refine wpList_append_own _ rfl _ _ 84 rfl w.heap.size 5 i0 (.int .u8 0) 1 1 Try.underlying84 hi hz0 hz1 hz2 rfl (by decide) _ _ _ rfl (hown.alloc _) ⟨wr.heap.size, 0, none⟩ 1 1 [.int .u8 q.toNat] rfl rfl ?c1 ?c2 ?c3 ?c4 ?c5 ?_)
      case c1 =>
        intro j u hj
        match j, hj with
        | 0, hj => simp at hj; subst hj; simp [Addr.add]
      case c2 => intro u hu; simp at hu; subst hu; rfl
      case c3 => unfold maxLen; omega
      case c4 => omega
      case c5 => simp; omega
      intro v' w1 hown1 hgrow1 _
      obtain ⟨g, cap, rfl⟩ : ∃ g cap, v' = .slice (some ⟨g, 0, none⟩) (l.length + 1) cap := by
        rcases hown1.2 with ⟨_, h0⟩ | ⟨g, cap, cur, hv, _⟩
        · omega
        · exact ⟨g, cap, hv⟩
      have hconv := run_own_str w1 84 9 5 Try.underlying84 Try.underlying5 Try.underlying9 (l := l ++ [q]) (by simpa [Lib.byteCells] using hown1)
      have HW1 : Hid (Below w.heap.size w w1) := (HW.out.alloc hsz _).grown hgrow1 (by simp; omega) (fun k hk => (hown.lt k hk).1)
      have HG := Lib.hid hgrow1; clear hgrow1
      have HO := Lib.hid hown1; clear hown1
      go_wp2
      go_ret
      exact ⟨by rw [HM.out]; rfl, HW1.out⟩
end Go.Proofs.Ytjgjhjecgdndjaa
