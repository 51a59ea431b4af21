/- wants, at an end to which the first frame comes. -/
import Derived.Test.YtjgjhjecgdndjaaLinkTick
namespace Go.Proofs.Ytjgjhjecgdndjaa
open Go.RowKit
set_option linter.unusedVariables false
set_option linter.unusedSimpArgs false
set_option maxRecDepth 20000 in
set_option maxHeartbeats 2000000 in
theorem wants_first (bk : Nat) (ses : UInt64) (next idle : Int) (vw early : Value) (s : ByteArray) (w : World) (hx : Box8 bk (.int .u64 ses.toNat) (.int .i64 0) (.slice none 0 0) vw (.int .i64 next) early (.int .i64 idle) (.bool false) w) (h0 : s ≠ ⟨#[]⟩) (hn : 0 ≤ next ∧ next ≤ 1) :
    Calls Try.prog 32 #[.pointer (some ⟨bk, 0, none⟩), .agg #[.int .u64 ses.toNat, .int .i64 0, .int .i64 0, .string s]] w fun e w' => e = .returned (.bool true) ∧ Below w.heap.size w w' := by
  have he2 : ¬ s.toList = [] := by
    intro e
    rw [ByteArray.toList_eq] at e
    exact h0 (ByteArray.ext (Array.toList_inj.1 e))
  have he3 : s.toList.isEmpty = false := by simpa using he2
  have he4 : (s.toList == []) = false := by simpa using he2
  have HX := Lib.hid hx
  have hsub : IntKind.i64.wrap (0 - next) = 0 - next := by rw [IntKind.wrap_i64]; omega
  have hlt : decide (0 - next < 4) = true := by simp; omega
  have q1 := heap_alloc_new w (.cells #[.int .u64 ses.toNat, .int .i64 0, .int .i64 0, .string s] 24)
  have hb1 : Below w.heap.size w (w.alloc (.cells #[.int .u64 ses.toNat, .int .i64 0, .int .i64 0, .string s] 24)) := (Below.refl _ _).alloc (Nat.le_refl _) _
  obtain ⟨wp, hwp⟩ : ∃ wp, wp = w.alloc (.cells #[.int .u64 ses.toNat, .int .i64 0, .int .i64 0, .string s] 24) := ⟨_, rfl⟩
  have HWP : Hid (w.alloc (.cells #[.int .u64 ses.toNat, .int .i64 0, .int .i64 0, .string s] 24) = wp) := hwp.symm
  rw [← hwp] at q1 hb1
  have HB1 := Lib.hid hb1
  obtain ⟨c0, c1, c2, c3, _⟩ := cells4 q1
  obtain ⟨x0, x1, x2, x3, x4, _, _, x7, _, _⟩ := hx.below hb1 hx.lt
  clear hwp q1 hb1 hx
  go_enter Try.func32, Try.ntmps32
  go_wp2_with fail
  rw [HWP.out]
  go_quiet (fail)
  go_wp2_with fail
  go_quiet (fail)
  go_wp2_with fail
  go_ret
  exact ⟨by rw [show decide (-next < 4) = true from decide_eq_true (by omega)]; rfl, Below.drewN (Below.drewN HB1.out _) _⟩
end Go.Proofs.Ytjgjhjecgdndjaa
