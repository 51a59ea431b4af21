/- The frame round the walk: LeaseDoes returns true for every input. By genlaw.py of this claim's author; conditions: none beside the row's own. -/
import Derived.Test.YtffnkgfpbjmkbaaRows
import Derived.Test.YtffnkgfpbjmkbaaArgs
import Derived.Test.YtffnkgfpbjmkbaaStructs
import Derived.Test.YtffnkgfpbjmkbaaLkLaw
namespace Go.Proofs.Ytffnkgfpbjmkbaa.leaseDoesFrame
open Go.ChangeShapes Go.WideShapes Go.ChangeAt Go.RowKit
open Go.ChangeMaps (open_string shut_string)
set_option linter.unusedVariables false

theorem own : ownKnob Try.prog.godebug = none := by kernel_rfl
theorem laidOut : laidOutB Try.prog = true := by kernel_rfl

set_option maxRecDepth 100000 in
theorem lifted (os : Os) (started : os.Started) (H : Type) (enc : TypeId × Value → H) :
    ReturnsInHanded {} Try.checked os 5 .any (Rows.leaseDoesSpec.pre6 enc Try.prog Try.f5 Rows.leaseDoesRow.domain false) (Rows.leaseDoesSpec.post enc Try.prog Try.f5 false true false false) := by
  refine returnsInHanded_of_change_sized (C := Try.checked) own started (by kernel_rfl) Try.func5
    (ChangeSpec.witness6 (enc := enc) (C := Try.checked) false ⟨#[], #[.agg #[.int .i64 0, .slice none 0 0], .agg #[.int .i64 0, .slice none 0 0], .int .u64 0, .bool false, .int .i64 0], []⟩ 12 (by kernel_rfl) (by kernel_rfl) (by kernel_rfl) (by kernel_rfl)) ?_
  intro W base args ds gs before hval0 hW hcnd hsz _
  have hval : ∀ (j : Nat) t v, Try.f5.params[j]? = some t → args[j]? = some v → Value.okWide Try.prog W .any base t v := hval0
  have hW' := hW
  obtain ⟨p, q, hA0, hV, rfl, hfz, hnd⟩ := hW
  have hA : DataW.TrodAll enc Try.prog W 0 (fun _ => true) true Try.f5.params.toList args.toList ds p := hA0
  rw [Try.params5] at hA hval hsz
  obtain ⟨v0, vs0, d0, ds0, p0, q0, hargs, rfl, rfl, h0, r0⟩ := trodAll_cons hA
  obtain ⟨v1, vs1, d1, ds1, p1, q1, rfl, rfl, rfl, h1, r1⟩ := trodAll_cons r0
  obtain ⟨v2, vs2, d2, ds2, p2, q2, rfl, rfl, rfl, h2, r2⟩ := trodAll_cons r1
  obtain ⟨v3, vs3, d3, ds3, p3, q3, rfl, rfl, rfl, h3, r3⟩ := trodAll_cons r2
  obtain ⟨v4, vs4, d4, ds4, p4, q4, rfl, rfl, rfl, h4, r4⟩ := trodAll_cons r3
  obtain ⟨rfl, rfl, rfl⟩ := trodAll_nil r4
  obtain rfl : args = #[v0, v1, v2, v3, v4] := by cases args; simp_all
  obtain ⟨rfl, rfl⟩ := trodVars_none hV
  have k0 := h0
  have lt0 : ∀ x ∈ p0, x.block < W.heap.size := by obtain ⟨m, hm⟩ := k0; exact DataW.trod_lt m _ _ _ hm
  obtain ⟨cs0, c0⟩ := okWide_str Try.underlying27 (hval 0 27 v0 rfl rfl)
  obtain ⟨x0, rfl, w0⟩ := topA (E := (ES2 (EInt .i64) ESl)) (opens_struct2 Try.underlying27 (by kernel_rfl) (opens_i64 Try.underlying2) (opens_slice (k := 3) Try.underlying25 (by kernel_rfl) (by decide) (opens_struct3 Try.underlying62 (by kernel_rfl) (opens_u64 Try.underlying22) (opens_bool Try.underlying4) (opens_i64 Try.underlying2)))) h0 c0
  have k1 := h1
  have lt1 : ∀ x ∈ p1, x.block < W.heap.size := by obtain ⟨m, hm⟩ := k1; exact DataW.trod_lt m _ _ _ hm
  obtain ⟨cs1, c1⟩ := okWide_str Try.underlying27 (hval 1 27 v1 rfl rfl)
  obtain ⟨x1, rfl, w1⟩ := topA (E := (ES2 (EInt .i64) ESl)) (opens_struct2 Try.underlying27 (by kernel_rfl) (opens_i64 Try.underlying2) (opens_slice (k := 3) Try.underlying25 (by kernel_rfl) (by decide) (opens_struct3 Try.underlying62 (by kernel_rfl) (opens_u64 Try.underlying22) (opens_bool Try.underlying4) (opens_i64 Try.underlying2)))) h1 c1
  have k2 := h2
  have lt2 : ∀ x ∈ p2, x.block < W.heap.size := by obtain ⟨m, hm⟩ := k2; exact DataW.trod_lt m _ _ _ hm
  obtain ⟨x2, e2, w2⟩ := top1 (opens_u64 Try.underlying22) h2 (okWide_one (by rw [Try.underlying22]) (hval 2 22 v2 rfl rfl))
  simp only [EU64, List.cons.injEq, and_true] at e2
  subst e2
  have k3 := h3
  have lt3 : ∀ x ∈ p3, x.block < W.heap.size := by obtain ⟨m, hm⟩ := k3; exact DataW.trod_lt m _ _ _ hm
  obtain ⟨x3, e3, w3⟩ := top1 (opens_bool Try.underlying4) h3 (okWide_one (by rw [Try.underlying4]) (hval 3 4 v3 rfl rfl))
  simp only [EBool, List.cons.injEq, and_true] at e3
  subst e3
  have k4 := h4
  have lt4 : ∀ x ∈ p4, x.block < W.heap.size := by obtain ⟨m, hm⟩ := k4; exact DataW.trod_lt m _ _ _ hm
  obtain ⟨x4, e4, w4⟩ := top1 (opens_i64 Try.underlying2) h4 (okWide_one (by rw [Try.underlying2]) (hval 4 2 v4 rfl rfl))
  simp only [EInt, List.cons.injEq, and_true] at e4
  subst e4
  clear hA0 hval0
  refine (leaseDoes_ok W x0 w0 x1 w1 x2 x3 x4 w4).mono fun e W' ⟨he, bel⟩ => ?_
  subst he
  exact ⟨_, rfl, _, _, _, [], _, [], hW', trodAll_mk1 (shut_bool Try.underlying4 _), (trodAll_cons_mk (Below.trod laidOut (by kernel_rfl) (of_decide_eq_true (by kernel_rfl)) k0 bel lt0) (trodAll_cons_mk (Below.trod laidOut (by kernel_rfl) (of_decide_eq_true (by kernel_rfl)) k1 bel lt1) (trodAll_cons_mk (Below.trod laidOut (by kernel_rfl) (of_decide_eq_true (by kernel_rfl)) k2 bel lt2) (trodAll_cons_mk (Below.trod laidOut (by kernel_rfl) (of_decide_eq_true (by kernel_rfl)) k3 bel lt3) (trodAll_cons_mk (Below.trod laidOut (by kernel_rfl) (of_decide_eq_true (by kernel_rfl)) k4 bel lt4) trodAll_mk0))))), rfl, bel.frame _, fun h => by cases h⟩

theorem over : Rows.leaseDoesRow.holds Try.pinned (OpenSpec.ofChange Rows.leaseDoesSpec) :=
  OpenClaim.holds_of_wide 5 Try.f5 rfl rfl rfl rfl rfl rfl rfl ⟨rfl, rfl, rfl, rfl, rfl⟩ rfl rfl rfl rfl rfl (by kernel_rfl) Try.func5 (by kernel_rfl)
    (of_decide_eq_true (by kernel_rfl)) (by unfold Func.isWrapper; first | (rw [if_pos (by decide +kernel)]; kernel_rfl) | (rw [if_neg (by decide +kernel)]; exact ⟨rfl, rfl⟩))
    (fun os started H enc _ => lifted os started H enc)

/-- THE STATEMENT -/
theorem proved : Rows.LeaseDoesSaid := over
end Go.Proofs.Ytffnkgfpbjmkbaa.leaseDoesFrame
