/- Texts as keys: the document's: walks. -/
import Derived.Test.YtjbnkheghafgoaaKeysUnhex
import Derived.Deep.AppendLies
import Derived.Deep.RegionLaw
namespace Go.Proofs.Ytjbnkheghafgoaa
open Go.RowKit
set_option linter.unusedVariables false
theorem run_own_str (w : World) (src dst e : TypeId) (hs : Try.prog.underlying src = some (.slice e)) (he : Try.prog.underlying e = some (.int .u8)) (hd : Try.prog.underlying dst = some .string) {B : Nat} {v : Value} {l : List UInt8} (h : w.ownsRow B e 1 v l.length (Lib.byteCells l)) :
    (convert src dst v).run Try.prog w = .ok (.string ⟨l.toArray⟩) w := by
  rcases h.2 with ⟨hv, h0⟩ | ⟨g, cap, cur, hv, hb, hg, hn, hm, hc, ht⟩
  · have : l = [] := List.length_eq_zero_iff.1 h0
    subst hv; subst this
    have := run_convert_bytes_nil (P := Try.prog) w src e hs he 0 0 dst hd
    exact this
  · subst hv
    refine run_bytes_str w src dst e hs he hd g 0 _ cap l rfl ?_
    intro i hi
    have := h.cells (g := g) rfl i (.int .u8 l[i].toNat) (by simp [Lib.byteCells, hi])
    rw [show (⟨g, 0, none⟩ : Addr).add i = ⟨g, 0 + i, none⟩ by unfold Addr.add; split <;> simp_all] at this
    exact this
set_option maxRecDepth 100000 in
set_option maxHeartbeats 2000000 in
theorem refUnhex_any (s : ByteArray) (hs : s.size ≤ 1000000000) (w : World) :
    Calls Try.prog 11 #[.string s] w fun e w' => e = .returned (.tuple #[.string ⟨(unhex s.data.toList).1.toArray⟩, .int .i64 ((unhex s.data.toList).2 : Nat)]) ∧ Below w.heap.size w w' := by
  have hl : s.data.toList.length = s.size := by simp
  obtain ⟨i0, hi, hz0, hz1, hz2⟩ := info_parts bldByte
  by_cases h64 : s.size = 64
  · have hv : unhex s.data.toList = match hUn s.data.toList with
      | some l => (l, 0)
      | none => ([], 2) := if_neg (by omega)
    have HV := Lib.hid hv; clear hv
    have hz : ((s.size : Int) != 64) = false := by rw [h64]; rfl
    have hs64 : s.size ≤ 64 := by omega
    have HL0 := Lib.hid hl; clear hl
    go_enter Try.func11, Try.ntmps11
    go_wp2
    go_loopw [4, 5] (fun v i wr => ∃ (k : Nat) (l : List UInt8), i = .int .i64 (2 * (k : Int)) ∧ k ≤ 32 ∧ l.length = k ∧ Hid (hUn s.data.toList = (hUn (s.data.toList.drop (2 * k))).map (l ++ ·)) ∧ wr.ownsRow w.heap.size 5 1 v l.length (Lib.byteCells l) ∧ Hid (Below w.heap.size w wr) ∧ w.heap.size ≤ wr.heap.size) (fun _ i _ => s.size - (intOf i).toNat)
    case atStart => exact ⟨0, [], rfl, by omega, rfl, by unfold Hid; rw [show 2 * 0 = 0 from rfl, List.drop_zero]; generalize hUn s.data.toList = q; cases q <;> simp, World.ownsRow_nil _ _ _ _, Below.refl _ _, Nat.le_refl _⟩
    case round =>
      obtain ⟨k, l, rfl, hk, hll, HU, hown, HW, hsz⟩ := hrel
      by_cases hlt : k < 32
      · have hk1 : 2 * k < s.size := by omega
        have hk2 : 2 * k + 1 < s.size := by omega
        obtain ⟨a, ga⟩ : ∃ a, ∀ h, s[2 * k]'h = a := ⟨s[2 * k], fun _ => rfl⟩
        obtain ⟨b, gb⟩ : ∃ b, ∀ h, s[2 * k + 1]'h = b := ⟨s[2 * k + 1], fun _ => rfl⟩
        have hd : s.data.toList.drop (2 * k) = a :: b :: s.data.toList.drop (2 * (k + 1)) := by
          rw [← ga hk1, ← gb hk2, List.drop_eq_getElem_cons (by rw [HL0.out]; omega), List.drop_eq_getElem_cons (by rw [HL0.out]; omega)]
          rfl
        have c1 : (2 * (k : Int)).toNat = 2 * k := by omega
        have c2 : (2 * (k : Int) + 1).toNat = 2 * k + 1 := by omega
        have HD := Lib.hid hd; clear hd
        cases ha : hVal a with
        | none =>
          have e1 : hInt a = -1 := by unfold hInt; rw [ha]
          have HV2 : Hid (unhex s.data.toList = ([], 2)) := by
            unfold Hid; rw [HV.out, HU.out, HD.out, hUn, ha]; rfl
          clear ha
          go_wp2_with fail
          refine (digit_any _ _).mono ?_
          rintro e w' ⟨rfl, rfl⟩
          go_wp2_with fail
          refine (digit_any _ _).mono ?_
          rintro e w' ⟨rfl, rfl⟩
          go_wp2
          go_ret2
          exact ⟨by rw [HV2.out]; rfl, HW.out⟩
        | some x =>
          have e1 : hInt a = (x : Int) := by unfold hInt; rw [ha]
          have hx := hVal_lt ha
          cases hb : hVal b with
          | none =>
            have e2 : hInt b = -1 := by unfold hInt; rw [hb]
            have HV2 : Hid (unhex s.data.toList = ([], 2)) := by
              unfold Hid; rw [HV.out, HU.out, HD.out, hUn, ha, hb]; rfl
            clear ha hb
            go_wp2_with fail
            refine (digit_any _ _).mono ?_
            rintro e w' ⟨rfl, rfl⟩
            go_wp2_with fail
            refine (digit_any _ _).mono ?_
            rintro e w' ⟨rfl, rfl⟩
            go_wp2
            go_ret2
            exact ⟨by rw [HV2.out]; rfl, HW.out⟩
          | some y =>
            have e2 : hInt b = (y : Int) := by unfold hInt; rw [hb]
            have hy := hVal_lt hb
            have HU2 : Hid (hUn s.data.toList = (hUn (s.data.toList.drop (2 * (k + 1)))).map ((l ++ [UInt8.ofNat (16 * x + y)]) ++ ·)) := by
              unfold Hid
              rw [HU.out, HD.out, hUn, ha, hb]
              dsimp only
              generalize hUn (s.data.toList.drop (2 * (k + 1))) = q
              cases q <;> simp
            have hzz : 16 * (x : Int) + (y : Int) = ((UInt8.ofNat (16 * x + y)).toNat : Int) := by simp; omega
            generalize UInt8.ofNat (16 * x + y) = z at *
            have hz8 := z.toNat_lt
            clear ha hb
            go_wp2_with fail
            refine (digit_any _ _).mono ?_
            rintro e w' ⟨rfl, rfl⟩
            go_wp2_with fail
            refine (digit_any _ _).mono ?_
            rintro e w' ⟨rfl, rfl⟩
            go_wp2_with (at_builtin; refine wpList_append_own _ rfl _ _ 23 rfl w.heap.size 5 i0 (.int .u8 0) 1 1 Try.underlying23 hi hz0 hz1 hz2 rfl (by decide) _ _ _ rfl (hown.alloc _) ⟨wr.heap.size, 0, none⟩ 1 1 [.int .u8 z.toNat] rfl rfl ?c1 ?c2 ?c3 ?c4 ?c5 ?_)
            case c1 =>
              intro j u hj
              match j, hj with
              | 0, hj => simp at hj; subst hj; simp [Addr.add]
            case c2 => intro u hu; simp at hu; subst hu; rfl
            case c3 => unfold maxLen; omega
            case c4 => omega
            case c5 => simp; omega
            intro v' w1 hown1 hgrow1 _
            have HN := Lib.hid hown1; clear hown1
            have hz1' : w.heap.size ≤ w1.heap.size := by have := hgrow1.size; simp at this; omega
            have HW1 : Hid (Below w.heap.size w w1) := (HW.out.alloc hsz _).grown hgrow1 (by simp; omega) (fun k hk => (hown.lt k hk).1)
            have HG := Lib.hid hgrow1; clear hgrow1
            go_wp2
            go_roundw
            case rel => exact ⟨k + 1, l ++ [z], by go_num, by omega, by simp; omega, HU2, by have h := HN.out; rw [← hll] at h; simpa [Lib.byteCells] using h, HW1, hz1'⟩
            case measure => simp [intOf]; omega
      · obtain rfl : k = 32 := by omega
        have HV2 : Hid (unhex s.data.toList = (l, 0)) := by
          unfold Hid; rw [HV.out, HU.out, List.drop_of_length_le (by rw [HL0.out]; omega)]; simp [hUn]
        have hconv := run_own_str wr 23 9 5 Try.underlying23 Try.underlying5 Try.underlying9 hown
        go_wp2
        go_ret2
        exact ⟨by rw [HV2.out]; rfl, HW.out⟩
  · have hv : unhex s.data.toList = ([], 2) := by unfold unhex; rw [if_pos (by omega)]
    rw [hv]
    have hz : ((s.size : Int) != 64) = true := by rw [bne_iff_ne]; omega
    clear hv hl h64
    go_enter Try.func11, Try.ntmps11
    go_wp2
    go_ret2
    exact ⟨rfl, Below.refl _ _⟩
set_option maxRecDepth 100000 in
set_option maxHeartbeats 4000000 in
theorem refHex_any (s : ByteArray) (hs : s.size ≤ 1000000000) (w : World) :
    Calls Try.prog 12 #[.string s] w fun e w' => e = .returned (.string ⟨(hHex s.data.toList).toArray⟩) ∧ Below w.heap.size w w' := by
  obtain ⟨i0, hi, hz0, hz1, hz2⟩ := info_parts bldByte
  go_enter Try.func12, Try.ntmps12
  go_wp2
  go_loopw [4, 5] (fun v i wr => ∃ (k : Nat) (l : List UInt8), i = .int .i64 (k : Int) ∧ k ≤ s.size ∧ l.length ≤ 2 * k ∧ HAt s k l ∧ wr.ownsRow w.heap.size 5 1 v l.length (Lib.byteCells l) ∧ Hid (Below w.heap.size w wr) ∧ w.heap.size ≤ wr.heap.size) (fun _ i _ => s.size - (intOf i).toNat)
  case atStart => exact ⟨0, [], rfl, Nat.zero_le _, by simp, rfl, World.ownsRow_nil _ _ _ _, Below.refl _ _, Nat.le_refl _⟩
  case round =>
    obtain ⟨k, l, rfl, hk, hl, HK, hown, HW, hsz⟩ := hrel
    by_cases hlt : k < s.size
    · obtain ⟨c, gc⟩ : ∃ c, ∀ h, s[k]'h = c := ⟨s[k], fun _ => rfl⟩
      have hc := c.toNat_lt
      have g1 : ∀ (h : c.toNat / 16 < 16), ((⟨#[48, 49, 50, 51, 52, 53, 54, 55, 56, 57, 97, 98, 99, 100, 101, 102]⟩ : ByteArray)[c.toNat / 16]'h) = hDig (c.toNat / 16) := fun h => hexAt (c.toNat / 16) (by omega) h
      have g2 : ∀ (h : c.toNat % 16 < 16), ((⟨#[48, 49, 50, 51, 52, 53, 54, 55, 56, 57, 97, 98, 99, 100, 101, 102]⟩ : ByteArray)[c.toNat % 16]'h) = hDig (c.toNat % 16) := fun h => hexAt (c.toNat % 16) (by omega) h
      have HN : HAt s (k + 1) (l ++ [hDig (c.toNat / 16), hDig (c.toNat % 16)]) := by
        unfold HAt at *
        rw [take_snoc s k hlt, hHex_snoc, HK, gc hlt]; simp
      have n1 : c.toNat / 16 < 16 := by omega
      have n2 : c.toNat % 16 < 16 := by omega
      have m1 : (c.toNat : Int) / 16 < 16 := by omega
      have m2 : (c.toNat : Int) % 16 < 16 := by omega
      have m3 : (0 : Int) ≤ (c.toNat : Int) / 16 := by omega
      have m4 : (0 : Int) ≤ (c.toNat : Int) % 16 := by omega
      generalize hDig (c.toNat / 16) = d1 at *
      generalize hDig (c.toNat % 16) = d2 at *
      have q1 : IntKind.u8.wrap ((c.toNat : Int) / 16) = (c.toNat : Int) / 16 := by rw [IntKind.wrap_u8]; omega
      have q2 : IntKind.u8.wrap ((c.toNat : Int) % 16) = (c.toNat : Int) % 16 := by rw [IntKind.wrap_u8]; omega
      have q3 : ((c.toNat : Int) / 16).toNat = c.toNat / 16 := by omega
      have q4 : ((c.toNat : Int) % 16).toNat = c.toNat % 16 := by omega
      have q5 : (c.toNat : Int).tmod 16 = (c.toNat : Int) % 16 := Int.tmod_eq_emod_of_nonneg (by omega)
      have k0 : (0 : Int) ≤ (k : Int) := by omega
      have k1 : (k : Int) < (s.size : Int) := by omega
      go_wp2_with fail
      go_region_law ((refine step_append_lies _ rfl (.tmp 12) (.tmp 25) 23 rfl w.heap.size 5 i0 (.int .u8 0) 1 1 Try.underlying23 hi hz0 hz1 hz2 rfl (by decide) _ _ _ rfl (by first | exact (hown.alloc _).drew | exact hown.drew.alloc _) ⟨wr.heap.size, 0, none⟩ 2 2 [.int .u8 d1.toNat, .int .u8 d2.toNat] rfl rfl (by intro j u hj; match j, hj with | 0, hj => simp at hj; subst hj; simp [Addr.add] | 1, hj => simp at hj; subst hj; simp [Addr.add]) (by intro u hu; simp at hu; rcases hu with rfl | rfl <;> rfl) (by decide) (by unfold maxLen; omega) (by omega) (by simp; omega) _ rfl ?_; intro g cap w1 hown1 hgrow1 hat1 hlt1))
      all_goals
        have HW1 : Hid (Below w.heap.size w w1) := by
          first
            | exact (HW.out.alloc hsz _).drew.grown hgrow1 (by simp; omega) (fun k hk => (hown.lt k hk).1)
            | exact (HW.out.drew.alloc hsz _).grown hgrow1 (by simp; omega) (fun k hk => (hown.lt k hk).1)
        have HO := Lib.hid hown1
        have hsz1 := HW1.out.size
        clear hown1 hgrow1 hat1 g1 g2 hown
        go_wp2
        go_roundw
        case rel => exact ⟨k + 1, l ++ [d1, d2], by go_num, by omega, by simp; omega, HN, by simpa [Lib.byteCells] using HO.out, HW1, hsz1⟩
        case measure => simp [intOf]; omega
    · obtain rfl : k = s.size := by omega
      have hv : hHex s.data.toList = l := by unfold HAt at HK; rw [take_all s _ (Nat.le_refl _)] at HK; exact HK
      have HM := Lib.hid hv; clear hv HK
      have hconv := run_own_str wr 23 9 5 Try.underlying23 Try.underlying5 Try.underlying9 hown
      go_wp2
      go_ret
      exact ⟨by rw [HM.out]; rfl, HW.out⟩
end Go.Proofs.Ytjbnkheghafgoaa
