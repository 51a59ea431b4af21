/- two, moment, Text, awake: walks (written by gen-ret-text.py). -/
import Derived.Test.YtlikmdmdmljiaaaDoorRetDays
import Derived.Test.YtlikmdmdmljiaaaDoorShelfTxt
import Derived.Lib.SmallJoins
import Derived.Lib.ItoaLen
namespace Go.Proofs.YtlikmdmdmljiaaaDoor
open Go.RowKit
set_option linter.unusedVariables false
set_option linter.unusedSimpArgs false
def Tab (w : World) : Prop := Lib.TabIs Tryd.prog w "internal/strconv.uint64pow10" .u64 Lib.pow10Tab
theorem Tab.below {w w' : World} {B : Nat} (h : Tab w) (hb : Below B w w') (hB : w.heap.size ≤ B) : Tab w' := Joins.tab_stays (g := 0) (by kernel_rfl) h hb hB
theorem Tab.drew {w : World} (h : Tab w) : Tab w.drew := h
def twoL (n : Int) : List UInt8 := if (Lib.itoa n).length < 2 then 48 :: Lib.itoa n else Lib.itoa n
def twoB (n : Int) : ByteArray := ⟨(twoL n).toArray⟩
theorem below_grow (w : World) (k : Nat) (os : Array Obj) : Below w.heap.size w (Sort.grow (w.drewN k) os) :=
  ⟨rfl, rfl, rfl, by show w.heap.size ≤ (w.heap ++ os).size; rw [Array.size_append]; omega, fun j hj => by
    show (w.heap ++ os)[j]? = w.heap[j]?
    rw [Array.getElem?_append_left hj]⟩
theorem twoB_size (n : Int) (h0 : 0 ≤ n) (h1 : n ≤ 1000000) : (twoB n).size ≤ 22 := by
  have := Lib.itoa_length_le n (by omega) (by omega)
  show (twoL n).toArray.size ≤ 22
  unfold twoL; split <;> simp <;> omega
set_option maxRecDepth 20000 in
set_option maxHeartbeats 1000000 in
theorem two_any (n : Int) (w : World) (h0 : 0 ≤ n) (h1 : n ≤ 1000000) (ht : Tab w) : Calls Tryd.prog 30 #[.int .i64 n] w fun e w' => e = .returned (.string (twoB n)) ∧ Below w.heap.size w w' := by
  have hl := Lib.itoa_length_le n (by omega) (by omega)
  have HC := Lib.hid (Tryd.strconv_Itoa n (by omega) (by omega) w ht)
  have hb : twoB n = if (Lib.itoa n).length < 2 then ⟨(48 :: Lib.itoa n).toArray⟩ else ⟨(Lib.itoa n).toArray⟩ := by unfold twoB twoL; split <;> rfl
  have HB := Lib.hid hb; clear hb
  clear ht
  generalize Lib.itoa n = l at *
  by_cases h2 : l.length < 2
  · rw [if_pos h2] at HB
    have d : decide ((l.length : Int) < 2) = true := by simp; omega
    go_enter Tryd.func30, Tryd.ntmps30
    go_wp2_with fail
    refine HC.out.mono ?_
    rintro e w1 ⟨rfl, k, os, rfl⟩
    have HW := Lib.hid (below_grow w k os)
    generalize Sort.grow (w.drewN k) os = w1 at *
    go_wp2
    go_ret
    exact ⟨by rw [HB.out]; simp [ByteArray.append_eq]; rfl, HW.out⟩
  · rw [if_neg h2] at HB
    have d : decide ((l.length : Int) < 2) = false := by simp; omega
    go_enter Tryd.func30, Tryd.ntmps30
    go_wp2_with fail
    refine HC.out.mono ?_
    rintro e w1 ⟨rfl, k, os, rfl⟩
    have HW := Lib.hid (below_grow w k os)
    generalize Sort.grow (w.drewN k) os = w1 at *
    go_wp2
    go_ret
    exact ⟨by rw [HB.out]; rfl, HW.out⟩
def sizeOfStr : Value → Nat
  | .string b => b.size
  | _ => 0
/-- digits, at least so many -/
def padD (n : Nat) : Nat → List UInt8
  | 0 => if n = 0 then [] else Lib.decDigits n
  | 1 => Lib.decDigits n
  | _ => twoL n
theorem itoa_nat (n : Nat) : Lib.itoa (n : Int) = Lib.decDigits n := by unfold Lib.itoa; rw [if_neg (by omega)]; simp
theorem decD_small (n : Nat) (h : n < 10) : Lib.decDigits n = [UInt8.ofNat (48 + n)] := by rw [Lib.decDigits, dif_pos h]
theorem decD_big (n : Nat) (h : ¬ n < 10) : Lib.decDigits n = Lib.decDigits (n / 10) ++ [UInt8.ofNat (48 + n % 10)] := by rw [Lib.decDigits, dif_neg h]
theorem decD_ne (n : Nat) : 1 ≤ (Lib.decDigits n).length := by
  by_cases h : n < 10
  · rw [decD_small n h]; simp
  · rw [decD_big n h]; simp
theorem padD_step (n k : Nat) (h : 0 < n ∨ 0 < k) (hk : k ≤ 2) : padD n k = padD (n / 10) (k - 1) ++ [UInt8.ofNat (48 + n % 10)] := by
  match k, hk with
  | 0, _ =>
    unfold padD
    rw [if_neg (by omega)]
    by_cases hn : n < 10
    · rw [if_pos (by omega), decD_small n hn, Nat.mod_eq_of_lt hn]; rfl
    · rw [if_neg (by omega), decD_big n hn]; rfl
  | 1, _ =>
    show Lib.decDigits n = padD (n / 10) 0 ++ _
    unfold padD
    by_cases hn : n < 10
    · rw [if_pos (by omega), decD_small n hn, Nat.mod_eq_of_lt hn]; rfl
    · rw [if_neg (by omega), decD_big n hn]; rfl
  | 2, _ =>
    show twoL n = padD (n / 10) 1 ++ _
    unfold padD twoL
    rw [itoa_nat]
    by_cases hn : n < 10
    · rw [decD_small n hn, Nat.div_eq_of_lt hn, decD_small 0 (by omega), Nat.mod_eq_of_lt hn]; rfl
    · have := decD_ne (n / 10)
      rw [decD_big n hn, if_neg (by simp; omega)]; rfl
theorem padD_end : padD 0 0 = [] := rfl
set_option maxRecDepth 20000 in
set_option maxHeartbeats 1000000 in
theorem rTwo_any (N : Int) (w : World) (h0 : 0 ≤ N) (h1 : N ≤ 1000000) : Calls Tryd.prog 32 #[.int .i64 N] w fun e w' => e = .returned (.string (twoB N)) ∧ Below w.heap.size w w' := by
  obtain ⟨n0, rfl⟩ := Int.eq_ofNat_of_zero_le h0
  go_enter Tryd.func32, Tryd.ntmps32
  go_wp2_with fail
  go_loopw [0, 3] (fun n s wr => ∃ (k : Nat) (l : List UInt8), k ≤ 1000000 ∧ n = .int .i64 k ∧ s = .string ⟨l.toArray⟩ ∧ l.length ≤ 1000000 - k + 2 ∧ Hid (twoL n0 = padD k (2 - l.length) ++ l) ∧ Hid (Below w.heap.size w wr)) (fun n s _ => (intOf n).toNat + (2 - sizeOfStr s))
  case atStart => exact ⟨n0, [], by omega, rfl, rfl, by simp, by unfold Hid; simp [padD], Below.refl _ _⟩
  case round =>
    obtain ⟨k, l, hk, rfl, rfl, hl, HP, HW⟩ := hrel
    have hsz : w.heap.size ≤ wr.heap.size := HW.out.size
    by_cases hc : 0 < k ∨ l.length < 2
    · have hst := padD_step k (2 - l.length) (by omega) (by omega)
      have HN : Hid (twoL n0 = padD (k / 10) (2 - (UInt8.ofNat (48 + k % 10) :: l).length) ++ (UInt8.ofNat (48 + k % 10) :: l)) := by
        unfold Hid; rw [HP.out, hst, List.length_cons, show 2 - (l.length + 1) = 2 - l.length - 1 by omega, List.append_assoc]; rfl
      clear hst
      have hu : (48 + (k : Int) % 10) = ((UInt8.ofNat (48 + k % 10)).toNat : Int) := by rw [UInt8.toNat_ofNat', Nat.mod_eq_of_lt (by omega)]; omega
      generalize UInt8.ofNat (48 + k % 10) = u at *
      have hcv : (convert 79 9 (.slice (some ⟨wr.heap.size, 0, none⟩) 1 1)).run Tryd.prog (wr.alloc (.cells #[.int .u8 (48 + (k : Int) % 10)] 5)) = .ok (.string ⟨#[u]⟩) (wr.alloc (.cells #[.int .u8 (48 + (k : Int) % 10)] 5)) :=
        run_bytes_str _ 79 9 5 Tryd.underlying79 Tryd.underlying5 Tryd.underlying9 wr.heap.size 0 1 1 [u] rfl (fun i hi => by
          have : i = 0 := by simpa using hi
          subst this
          rw [hu]; simp)
      have HU := Lib.hid hu; clear hu
      have HW1 := Lib.hid (HW.out.alloc hsz (.cells #[.int .u8 (48 + (k : Int) % 10)] 5))
      by_cases hk0 : 0 < k
      · have hd : decide ((0 : Int) < (k : Int)) = true := by simp; omega
        have hd' : decide (0 < k) = true := by simp; omega
        clear hc
        go_wp2
        go_roundw
        case rel => exact ⟨k / 10, u :: l, by omega, by go_num, by simp [ByteArray.append_eq]; rfl, by simp; omega, HN.out, HW1.out⟩
        case measure =>
          have hs : (ByteArray.mk l.toArray).size = l.length := by show l.toArray.size = _; simp
          have hu1 : (ByteArray.mk #[u]).size = 1 := rfl
          simp [intOf, sizeOfStr, hs, hu1]; (try omega)
      · have hd : decide ((0 : Int) < (k : Int)) = false := by simp; omega
        have hd' : decide (0 < k) = false := by simp; omega
        have hl2 : l.length < 2 := by omega
        have hk1 : k ≤ 0 := by omega
        have hd2' : decide (l.length < 2) = true := by simp; omega
        have hd2 : decide ((l.length : Int) < 2) = true := by simp; omega
        clear hc hk0
        go_wp2
        go_roundw
        case rel => exact ⟨k / 10, u :: l, by omega, by go_num, by simp [ByteArray.append_eq]; rfl, by simp; omega, HN.out, HW1.out⟩
        case measure =>
          have hs : (ByteArray.mk l.toArray).size = l.length := by show l.toArray.size = _; simp
          have hu1 : (ByteArray.mk #[u]).size = 1 := rfl
          simp [intOf, sizeOfStr, hs, hu1]; (try omega)
    · have hk0 : k = 0 := by omega
      have hd : decide ((0 : Int) < (k : Int)) = false := by simp; omega
      have hd' : decide (0 < k) = false := by simp; omega
      have hd2' : decide (l.length < 2) = false := by simp; omega
      have hd2 : decide ((l.length : Int) < 2) = false := by simp; omega
      have HE : Hid (twoB n0 = ⟨l.toArray⟩) := by
        unfold Hid twoB
        rw [HP.out, hk0, show 2 - l.length = 0 by omega, padD_end, List.nil_append]
      clear hc hk0
      go_wp2
      go_ret
      exact ⟨by rw [HE.out]; rfl, HW.out⟩
end Go.Proofs.YtlikmdmdmljiaaaDoor
