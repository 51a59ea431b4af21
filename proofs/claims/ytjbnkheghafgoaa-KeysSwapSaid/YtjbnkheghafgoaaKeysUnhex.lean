/- Texts as keys: what they are; walks. -/
import Derived.Test.YtjbnkheghafgoaaKeysHex
import Derived.Test.YtjbnkheghafgoaaArgs
import Derived.Test.YtjbnkheghafgoaaShelfIx
import Derived.Deep.RegionLaw
import Derived.StillTailTactics
namespace Go.Proofs.Ytjbnkheghafgoaa
open Go.RowKit
set_option linter.unusedVariables false
/-- what a digit is worth -/
def hVal (c : UInt8) : Option Nat := if 48 ≤ c.toNat ∧ c.toNat ≤ 57 then some (c.toNat - 48) else if 97 ≤ c.toNat ∧ c.toNat ≤ 102 then some (c.toNat - 87) else none
def hInt (c : UInt8) : Int := match hVal c with
  | some n => n
  | none => -1
def hUn : List UInt8 → Option (List UInt8)
  | [] => some []
  | [_] => none
  | a :: b :: s => match hVal a, hVal b with
    | some x, some y => (hUn s).map (UInt8.ofNat (16 * x + y) :: ·)
    | _, _ => none
def unhex (s : List UInt8) : List UInt8 × Nat :=
  if s.length ≠ 64 then ([], 2) else match hUn s with
    | some l => (l, 0)
    | none => ([], 2)
theorem hVal_lt {c : UInt8} {n : Nat} (h : hVal c = some n) : n < 16 := by
  unfold hVal at h
  split at h
  · injection h; omega
  · split at h
    · injection h; omega
    · exact absurd h (by simp)
theorem hVal_dig : ∀ n < 16, hVal (hDig n) = some n := by decide +kernel
theorem hDig_val : ∀ c < 256, ∀ n < 16, hVal (UInt8.ofNat c) = some n → hDig n = UInt8.ofNat c := by decide +kernel
theorem dig_of_val {c : UInt8} {n : Nat} (h : hVal c = some n) : hDig n = c := by
  have hc := c.toNat_lt
  have := hDig_val c.toNat (by omega) n (hVal_lt h) (by simpa using h)
  simpa using this
theorem hUn_hex : ∀ k, hUn (hHex k) = some k
  | [] => rfl
  | c :: k => by
    have hc := c.toNat_lt
    rw [hHex, hUn, hVal_dig _ (by omega), hVal_dig _ (by omega), hUn_hex k]
    have e : 16 * (c.toNat / 16) + c.toNat % 16 = c.toNat := Nat.div_add_mod _ _
    simp [e]
theorem hex_hUn : ∀ (s l : List UInt8), hUn s = some l → hHex l = s
  | [], l, h => by rw [hUn] at h; injection h with h; subst h; rfl
  | [_], l, h => by rw [hUn] at h; exact absurd h (by simp)
  | a :: b :: s, l, h => by
    rw [hUn] at h
    cases ha : hVal a with
    | none => rw [ha] at h; exact absurd h (by simp)
    | some x =>
      cases hb : hVal b with
      | none => rw [ha, hb] at h; exact absurd h (by simp)
      | some y =>
        rw [ha, hb] at h
        dsimp only at h
        cases hs : hUn s with
        | none => rw [hs] at h; exact absurd h (by simp)
        | some m =>
          rw [hs] at h
          simp only [Option.map_some, Option.some.injEq] at h
          subst h
          have hx := hVal_lt ha
          have hy := hVal_lt hb
          have e : (UInt8.ofNat (16 * x + y)).toNat = 16 * x + y := by simp; omega
          have e1 : (16 * x + y) / 16 = x := by omega
          have e2 : (16 * x + y) % 16 = y := by omega
          rw [hHex, e, e1, e2, hex_hUn s m hs, dig_of_val ha, dig_of_val hb]
theorem hUn_len (s l : List UInt8) (h : hUn s = some l) : s.length = 2 * l.length := by rw [← hex_hUn s l h, hHex_len]
theorem ix_digits : ∀ c < 256, Lib.indexByte [48, 49, 50, 51, 52, 53, 54, 55, 56, 57, 97, 98, 99, 100, 101, 102] (UInt8.ofNat c) = hInt (UInt8.ofNat c) := by decide +kernel
theorem ix_any (c : UInt8) (w : World) : Calls Try.prog 29 #[.string ⟨#[48, 49, 50, 51, 52, 53, 54, 55, 56, 57, 97, 98, 99, 100, 101, 102]⟩, .int .u8 c.toNat] w fun e w' => e = .returned (.int .i64 (hInt c)) ∧ w = w' := by
  have hc := c.toNat_lt
  have e : hInt c = Lib.indexByte (ByteArray.mk #[48, 49, 50, 51, 52, 53, 54, 55, 56, 57, 97, 98, 99, 100, 101, 102]).data.toList ((c.toNat : Int).toNat).toUInt8 := by
    have := ix_digits c.toNat (by omega)
    simp only [UInt8.ofNat_toNat] at this
    rw [← this]
    simp
  rw [e]
  exact (Try.strings_IndexByte _ _ _).mono fun _ _ ⟨a, b⟩ => ⟨a, b.symm⟩
theorem digit_any (c : UInt8) (w : World) : Calls Try.prog 30 #[.int .u8 c.toNat] w fun e w' => e = .returned (.int .i64 (hInt c)) ∧ w = w' := by
  have hc := c.toNat_lt
  have hv : hInt c = if 48 ≤ c.toNat ∧ c.toNat ≤ 57 then ((c.toNat : Int) - 48) else if 97 ≤ c.toNat ∧ c.toNat ≤ 102 then ((c.toNat : Int) - 87) else -1 := by
    unfold hInt hVal
    split <;> rename_i h
    · split at h
      · rename_i h1; rw [if_pos h1]; injection h; omega
      · rename_i h1; rw [if_neg h1]
        split at h
        · rename_i h2; rw [if_pos h2]; injection h; omega
        · exact absurd h (by simp)
    · split at h
      · exact absurd h (by simp)
      · rename_i h1; rw [if_neg h1]
        split at h
        · exact absurd h (by simp)
        · rename_i h2; rw [if_neg h2]
  rw [hv]
  clear hv
  generalize c.toNat = n at *
  by_cases h1 : 48 ≤ n
  · by_cases h2 : n ≤ 57
    · rw [if_pos ⟨h1, h2⟩]
      go_enter Try.func30, Try.ntmps30
      go_wp2
      go_ret
      exact ⟨rfl, rfl⟩
    · rw [if_neg (by omega)]
      by_cases h3 : 97 ≤ n
      · by_cases h4 : n ≤ 102
        · rw [if_pos ⟨h3, h4⟩]
          go_enter Try.func30, Try.ntmps30
          go_wp2
          go_ret
          exact ⟨ret_int (by omega), rfl⟩
        · rw [if_neg (by omega)]
          go_enter Try.func30, Try.ntmps30
          go_wp2
          go_ret
          exact ⟨rfl, rfl⟩
      · rw [if_neg (by omega)]
        go_enter Try.func30, Try.ntmps30
        go_wp2
        go_ret
        exact ⟨rfl, rfl⟩
  · rw [if_neg (by omega), if_neg (by omega)]
    go_enter Try.func30, Try.ntmps30
    go_wp2
    go_ret
    exact ⟨rfl, rfl⟩

theorem extract2 (t : ByteArray) : (t.extract 2 t.size).data.toList = t.data.toList.drop 2 := by
  rw [Lib.extract_data, List.take_of_length_le (by simp)]
theorem or4 (x y : Nat) (hx : x < 16) (hy : y < 16) : bits .or .i64 ((x : Int) * 16) (y : Int) = ((16 * x + y : Nat) : Int) := by
  have : ∀ x : Nat, x < 16 → ∀ y : Nat, y < 16 → bits .or .i64 ((x : Int) * 16) (y : Int) = ((16 * x + y : Nat) : Int) := by decide +kernel
  exact this x hx y hy
set_option maxRecDepth 20000 in
set_option maxHeartbeats 2000000 in
theorem unhex_any (s : ByteArray) (hs : s.size ≤ 1000000000) (w : World) :
    Calls Try.prog 10 #[.string s] w fun e w' => e = .returned (.tuple #[.string ⟨(unhex s.data.toList).1.toArray⟩, .int .i64 ((unhex s.data.toList).2 : Nat)]) ∧ Below w.heap.size w w' := by
  have hl : s.data.toList.length = s.size := by simp
  by_cases h64 : s.size = 64
  · have hv : unhex s.data.toList = match hUn s.data.toList with
      | some l => (l, 0)
      | none => ([], 2) := by unfold unhex; rw [if_neg (by omega)]
    have HV := Lib.hid hv; clear hv
    have hz : ((s.size : Int) != 64) = false := by rw [h64]; rfl
    have H0 := Lib.hid (isBld_fresh w)
    have HB := Lib.hid ((Below.refl w.heap.size w).alloc (Nat.le_refl _) (.cells #[.pointer none, .slice none 0 0] 44))
    have hs64 : s.size ≤ 64 := by omega
    have H64 := Lib.hid h64; clear h64 hl
    go_enter Try.func10, Try.ntmps10
    go_wp2
    go_loopw [0] (fun v wr => ∃ (t : ByteArray) (l : List UInt8), v = .string t ∧ Hid (hUn s.data.toList = (hUn t.data.toList).map (l ++ ·)) ∧ Hid (t.size + 2 * l.length = 64) ∧ Hid (isBld wr w.heap.size l) ∧ Hid (Below w.heap.size w wr) ∧ w.heap.size ≤ wr.heap.size) (fun v _ => match v with | .string t => t.size | _ => 0)
    case atStart => exact ⟨s, [], rfl, by unfold Hid; cases hUn s.data.toList <;> simp, by unfold Hid; have := H64.out; simpa using this, H0.out, HB.out, by simp⟩
    case round =>
      obtain ⟨t, l, rfl, HU, HL, HI, HW, hsz⟩ := hrel
      have htl : t.data.toList.length = t.size := by simp
      by_cases ht : t.size = 0
      · have he : t.data.toList = [] := List.length_eq_zero_iff.1 (by omega)
        have ht' : t = ⟨#[]⟩ := by apply ByteArray.ext; apply Array.toList_inj.1; exact he
        have HV2 : Hid (unhex s.data.toList = (l, 0)) := by
          unfold Hid; rw [HV.out, HU.out, he]; simp [hUn]
        have hl0 : l ≠ [] := by intro e; have := HL.out; rw [e, ht] at this; simp at this
        subst ht'
        clear he htl ht
        go_wp2_with fail
        refine (bldString_ok _ _ _ HI.out hl0).mono ?_
        rintro e w2 ⟨rfl, b2⟩
        go_wp2
        go_ret2
        exact ⟨by rw [HV2.out]; rfl, HW.out.trans b2⟩
      · obtain ⟨a, b, r, hr⟩ : ∃ a b r, t.data.toList = a :: b :: r := by
          have h2 := HL.out
          match hq : t.data.toList, htl with
          | [], h => simp at h; omega
          | [a], h => simp at h; omega
          | a :: b :: r, _ => exact ⟨a, b, r, rfl⟩
        have hne : t.toList.isEmpty = false := by rw [ByteArray.toList_eq, hr]; rfl
        have hge : 2 ≤ t.size := by rw [← htl, hr]; simp
        have hle : t.size ≤ 64 := by have := HL.out; omega
        have g0 : ∀ h, t[0]'h = a := by
          intro h
          show t.data[0]'_ = a
          have : t.data.toList[0]'(by rw [hr]; simp) = a := by simp [hr]
          simpa using this
        have g1 : ∀ h, t[1]'h = b := by
          intro h
          show t.data[1]'_ = b
          have : t.data.toList[1]'(by rw [hr]; simp) = b := by simp [hr]
          simpa using this
        have HR := Lib.hid hr; clear hr ht htl
        cases ha : hVal a with
        | none =>
          have e1 : hInt a = -1 := by unfold hInt; rw [ha]
          have HV2 : Hid (unhex s.data.toList = ([], 2)) := by
            unfold Hid; rw [HV.out, HU.out, HR.out, hUn, ha]; rfl
          clear ha
          go_wp2_with fail
          go_quiet ((go_at_call 29; exact quiet_same (ix_any _ _)))
          go_wp2
          go_ret2
          exact ⟨by rw [HV2.out]; rfl, Below.drewN HW.out _⟩
        | some x =>
          have e1 : hInt a = (x : Int) := by unfold hInt; rw [ha]
          have hx := hVal_lt ha
          cases hb : hVal b with
          | none =>
            have e2 : hInt b = -1 := by unfold hInt; rw [hb]
            have HV2 : Hid (unhex s.data.toList = ([], 2)) := by
              unfold Hid; rw [HV.out, HU.out, HR.out, hUn, ha, hb]; rfl
            clear ha hb
            go_wp2_with fail
            go_quiet ((go_at_call 29; exact quiet_same (ix_any _ _)))
            go_wp2
            go_ret2
            exact ⟨by rw [HV2.out]; rfl, Below.drewN HW.out _⟩
          | some y =>
            have e2 : hInt b = (y : Int) := by unfold hInt; rw [hb]
            have hy := hVal_lt hb
            have HU2 : Hid (hUn s.data.toList = (hUn (t.extract 2 t.size).data.toList).map ((l ++ [UInt8.ofNat (16 * x + y)]) ++ ·)) := by
              unfold Hid
              rw [HU.out, extract2, HR.out, show (a :: b :: r).drop 2 = r from rfl, hUn, ha, hb]
              dsimp only
              generalize hUn r = q
              cases q <;> simp
            have hl32 : l.length ≤ 32 := by have := HL.out; omega
            have hor := or4 x y hx hy
            have hz16 : 16 * x + y < 256 := by omega
            have HZ : Hid (16 * (x : Int) + (y : Int) = ((UInt8.ofNat (16 * x + y)).toNat : Int)) := by unfold Hid; simp; omega
            have HL2 : Hid ((t.extract 2 t.size).size + 2 * (l ++ [UInt8.ofNat (16 * x + y)]).length = 64) := by
              unfold Hid; have := HL.out; simp; omega
            generalize UInt8.ofNat (16 * x + y) = z at *
            clear ha hb
            go_wp2_with fail
            go_quiet ((go_at_call 29; exact quiet_same (ix_any _ _)))
            go_wp2_with fail
            rw [HZ.out]
            have HI1 : isBld (wr.drewN nq) w.heap.size l := HI.out
            refine (bldByte_ok _ _ _ _ HI1 (by omega) hsz).mono ?_
            rintro e w1 ⟨rfl, h1, b1⟩
            have H1 := Lib.hid h1; clear h1
            have HW1 := Lib.hid ((Below.drewN HW.out nq).trans b1)
            have hs1 := HW1.out.size
            clear b1 HI1
            go_wp2
            go_roundw
            case rel => exact ⟨_, _, rfl, HU2, HL2, H1, HW1, hs1⟩
            case measure => simp; omega
  · have hv : unhex s.data.toList = ([], 2) := by unfold unhex; rw [if_pos (by omega)]
    rw [hv]
    have hz : ((s.size : Int) != 64) = true := by rw [bne_iff_ne]; omega
    clear hv hl h64
    go_enter Try.func10, Try.ntmps10
    go_wp2
    go_ret2
    exact ⟨rfl, Below.refl _ _⟩
end Go.Proofs.Ytjbnkheghafgoaa
