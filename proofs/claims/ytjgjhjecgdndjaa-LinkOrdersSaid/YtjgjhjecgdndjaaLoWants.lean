/- wants, of any end and any frame: what follows from a yes. -/
import Derived.Test.YtjgjhjecgdndjaaLinkTick
namespace Go.Proofs.Ytjgjhjecgdndjaa
open Go.RowKit
set_option linter.unusedVariables false
set_option linter.unusedSimpArgs false
set_option maxRecDepth 20000 in
set_option maxHeartbeats 4000000 in
theorem wants_any (bk : Nat) (ses s2 : UInt64) (base next idle q a : Int) (dead : Bool) (A3 A5 Ao : Option Addr) (n3 c3 n5 c5 no co : Nat) (d : ByteArray) (w : World) (hx : Box8 bk (.int .u64 ses.toNat) (.int .i64 base) (.slice Ao no co) (.slice A3 n3 c3) (.int .i64 next) (.slice A5 n5 c5) (.int .i64 idle) (.bool dead) w)
    (hb : 0 ≤ base ∧ base ≤ 2000000000) (hn : 0 ≤ next ∧ next ≤ 2000000000) (hq : 0 ≤ q ∧ q ≤ 2000000000) (ha : 0 ≤ a ∧ a ≤ 2000000000) (hno : no ≤ 1000000) :
    Calls Try.prog 32 #[.pointer (some ⟨bk, 0, none⟩), .agg #[.int .u64 s2.toNat, .int .i64 q, .int .i64 a, .string d]] w fun e w' => ∃ r : Bool, e = .returned (.bool r) ∧ (r = true → ses = s2 ∧ base ≤ a ∧ a - base ≤ no) ∧ Below w.heap.size w w' := by
  have HX := Lib.hid hx
  have q1 := heap_alloc_new w (.cells #[.int .u64 s2.toNat, .int .i64 q, .int .i64 a, .string d] 24)
  have hb1 : Below w.heap.size w (w.alloc (.cells #[.int .u64 s2.toNat, .int .i64 q, .int .i64 a, .string d] 24)) := (Below.refl _ _).alloc (Nat.le_refl _) _
  obtain ⟨wp, hwp⟩ : ∃ wp, wp = w.alloc (.cells #[.int .u64 s2.toNat, .int .i64 q, .int .i64 a, .string d] 24) := ⟨_, rfl⟩
  have HWP : Hid (w.alloc (.cells #[.int .u64 s2.toNat, .int .i64 q, .int .i64 a, .string d] 24) = wp) := hwp.symm
  rw [← hwp] at q1 hb1
  have HB1 := Lib.hid hb1
  obtain ⟨c0, c1, c2, c3, _⟩ := cells4 q1
  obtain ⟨x0, x1, x2, x3, x4, _, _, x7, _, _⟩ := hx.below hb1 hx.lt
  clear hwp q1 hb1 hx
  cases dead with
  | true =>
    go_enter Try.func32, Try.ntmps32
    go_wp2_with fail
    rw [HWP.out]
    go_quiet (fail)
    go_wp2_with fail
    go_ret
    (first | exact ⟨false, rfl, fun h => (by cases h), Below.drewN HB1.out _⟩ | exact .inl ⟨rfl, fun h => (by cases h), Below.drewN HB1.out _⟩ | exact ⟨rfl, fun h => (by cases h), Below.drewN HB1.out _⟩ | exact ⟨rfl, Below.drewN HB1.out _⟩)
  | false =>
    by_cases hs : ses = s2
    · subst hs
      by_cases hba : a < base
      · have d1 : decide (a < base) = true := decide_eq_true hba
        go_enter Try.func32, Try.ntmps32
        go_wp2_with fail
        rw [HWP.out]
        go_quiet (fail)
        go_wp2_with fail
        go_ret
        (first | exact ⟨false, rfl, fun h => (by cases h), Below.drewN HB1.out _⟩ | exact .inl ⟨rfl, fun h => (by cases h), Below.drewN HB1.out _⟩ | exact ⟨rfl, fun h => (by cases h), Below.drewN HB1.out _⟩ | exact ⟨rfl, Below.drewN HB1.out _⟩)
      · have d1 : decide (a < base) = false := decide_eq_false hba
        by_cases hno' : a - base > (no : Int)
        · have d2 : decide (a - base > (no : Int)) = true := decide_eq_true hno'
          go_enter Try.func32, Try.ntmps32
          go_wp2_with fail
          rw [HWP.out]
          go_quiet (fail)
          go_wp2_with fail
          go_ret
          (first | exact ⟨false, rfl, fun h => (by cases h), Below.drewN HB1.out _⟩ | exact .inl ⟨rfl, fun h => (by cases h), Below.drewN HB1.out _⟩ | exact ⟨rfl, fun h => (by cases h), Below.drewN HB1.out _⟩ | exact ⟨rfl, Below.drewN HB1.out _⟩)
        · have d2 : decide (a - base > (no : Int)) = false := decide_eq_false hno'
          have hy : base ≤ a ∧ a - base ≤ no := by omega
          have HY := Lib.hid hy
          clear hy
          have hsub : IntKind.i64.wrap (q - next) = q - next := by rw [IntKind.wrap_i64]; omega
          by_cases hd : d.toList = []
          · have he3 : d.toList.isEmpty = true := by simpa using hd
            have he4 : (d.toList == []) = true := by simpa using hd
            clear hd
            go_enter Try.func32, Try.ntmps32
            go_wp2_with fail
            rw [HWP.out]
            go_quiet (fail)
            go_wp2_with fail
            go_quiet (fail)
            go_wp2_with fail
            go_ret
            (first | exact ⟨_, rfl, fun _ => ⟨rfl, HY.out⟩, Below.drewN (Below.drewN HB1.out _) _⟩ | exact ⟨_, rfl, fun _ => ⟨trivial, HY.out⟩, Below.drewN (Below.drewN HB1.out _) _⟩ | exact .inr ⟨rfl, HY.out, Below.drewN (Below.drewN HB1.out _) _⟩ | exact .inl ⟨rfl, fun h => (by cases h), Below.drewN (Below.drewN HB1.out _) _⟩)
          · have he3 : d.toList.isEmpty = false := by simpa using hd
            have he4 : (d.toList == []) = false := by simpa using hd
            clear hd
            by_cases hm : q < 1073741824
            · have hm1 : decide (q < 1073741824) = true := decide_eq_true hm
              go_enter Try.func32, Try.ntmps32
              go_wp2_with fail
              rw [HWP.out]
              go_quiet (fail)
              go_wp2_with fail
              go_quiet (fail)
              go_wp2_with fail
              go_ret
              (first | exact ⟨_, rfl, fun _ => ⟨rfl, HY.out⟩, Below.drewN (Below.drewN HB1.out _) _⟩ | exact ⟨_, rfl, fun _ => ⟨trivial, HY.out⟩, Below.drewN (Below.drewN HB1.out _) _⟩ | exact .inr ⟨rfl, HY.out, Below.drewN (Below.drewN HB1.out _) _⟩ | exact .inl ⟨rfl, fun h => (by cases h), Below.drewN (Below.drewN HB1.out _) _⟩)
            · have hm1 : decide (q < 1073741824) = false := decide_eq_false hm
              go_enter Try.func32, Try.ntmps32
              go_wp2_with fail
              rw [HWP.out]
              go_quiet (fail)
              go_wp2_with fail
              go_quiet (fail)
              go_wp2_with fail
              go_ret
              (first | exact ⟨_, rfl, fun _ => ⟨rfl, HY.out⟩, Below.drewN (Below.drewN HB1.out _) _⟩ | exact ⟨_, rfl, fun _ => ⟨trivial, HY.out⟩, Below.drewN (Below.drewN HB1.out _) _⟩ | exact .inr ⟨rfl, HY.out, Below.drewN (Below.drewN HB1.out _) _⟩ | exact .inl ⟨rfl, fun h => (by cases h), Below.drewN (Below.drewN HB1.out _) _⟩)
    · have d0 : ((s2.toNat : Int) != (ses.toNat : Int)) = true := by
        rw [bne_iff_ne]; intro e; exact hs (UInt64.toNat_inj.1 (by omega))
      go_enter Try.func32, Try.ntmps32
      go_wp2_with fail
      rw [HWP.out]
      go_quiet (fail)
      go_wp2_with fail
      go_ret
      (first | exact ⟨false, rfl, fun h => (by cases h), Below.drewN HB1.out _⟩ | exact .inl ⟨rfl, fun h => (by cases h), Below.drewN HB1.out _⟩ | exact ⟨rfl, fun h => (by cases h), Below.drewN HB1.out _⟩ | exact ⟨rfl, Below.drewN HB1.out _⟩)
end Go.Proofs.Ytjgjhjecgdndjaa
