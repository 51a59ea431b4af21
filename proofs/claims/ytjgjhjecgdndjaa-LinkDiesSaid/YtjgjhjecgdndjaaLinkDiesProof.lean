/- The frame round the walk: LinkDies returns true for every input. By genlaw.py of this claim's author; conditions: none beside the row's own. -/
import Derived.Test.YtjgjhjecgdndjaaRows
import Derived.Test.YtjgjhjecgdndjaaArgs
import Derived.Test.YtjgjhjecgdndjaaStructs
import Derived.Test.YtjgjhjecgdndjaaLinkDies
namespace Go.Proofs.Ytjgjhjecgdndjaa.linkDiesFrame
open Go.ChangeShapes Go.WideShapes Go.ChangeAt Go.RowKit
open Go.ChangeMaps (open_string shut_string)
set_option linter.unusedVariables false

theorem own : ownKnob Try.prog.godebug = none := by kernel_rfl
theorem laidOut : laidOutB Try.prog = true := by kernel_rfl

set_option maxRecDepth 100000 in
theorem lifted (os : Os) (started : os.Started) (H : Type) (enc : TypeId × Value → H) :
    ReturnsInHanded {} Try.checked os 5 .any (Rows.linkDiesSpec.pre6 enc Try.prog Try.f5 Rows.linkDiesRow.domain false) (Rows.linkDiesSpec.post enc Try.prog Try.f5 false true false false) := by
  refine returnsInHanded_of_change_sized (C := Try.checked) own started (by kernel_rfl) Try.func5
    (ChangeSpec.witness6 (enc := enc) (C := Try.checked) false ⟨#[], #[.agg #[.int .u64 0, .int .i64 0, .slice none 0 0, .slice none 0 0, .int .i64 0, .slice none 0 0, .int .i64 0, .bool false]], []⟩ 12 (by kernel_rfl) (by kernel_rfl) (by kernel_rfl) (by kernel_rfl)) ?_
  intro W base args ds gs before hval0 hW hcnd hsz _
  have hval : ∀ (j : Nat) t v, Try.f5.params[j]? = some t → args[j]? = some v → Value.okWide Try.prog W .any base t v := hval0
  have hW' := hW
  obtain ⟨p, q, hA0, hV, rfl, hfz, hnd⟩ := hW
  have hA : DataW.TrodAll enc Try.prog W 0 (fun _ => true) true Try.f5.params.toList args.toList ds p := hA0
  rw [Try.params5] at hA hval hsz
  obtain ⟨v0, vs0, d0, ds0, p0, q0, hargs, rfl, rfl, h0, r0⟩ := trodAll_cons hA
  obtain ⟨rfl, rfl, rfl⟩ := trodAll_nil r0
  obtain rfl : args = #[v0] := by cases args; simp_all
  obtain ⟨rfl, rfl⟩ := trodVars_none hV
  have k0 := h0
  have lt0 : ∀ x ∈ p0, x.block < W.heap.size := by obtain ⟨m, hm⟩ := k0; exact DataW.trod_lt m _ _ _ hm
  obtain ⟨cs0, c0⟩ := okWide_str Try.underlying37 (hval 0 37 v0 rfl rfl)
  obtain ⟨x0, rfl, w0⟩ := topA (E := (ES8 EU64 (EInt .i64) ESl ESl (EInt .i64) ESl (EInt .i64) EBool)) (opens_struct8 Try.underlying37 (by kernel_rfl) (opens_u64 Try.underlying22) (opens_i64 Try.underlying3) (opens_slice (k := 1) Try.underlying33 (by kernel_rfl) (by decide) (opens_string Try.underlying9)) (opens_slice (k := 1) Try.underlying33 (by kernel_rfl) (by decide) (opens_string Try.underlying9)) (opens_i64 Try.underlying3) (opens_slice (k := 4) Try.underlying35 (by kernel_rfl) (by decide) (opens_struct4 Try.underlying24 (by kernel_rfl) (opens_u64 Try.underlying22) (opens_i64 Try.underlying3) (opens_i64 Try.underlying3) (opens_string Try.underlying9))) (opens_i64 Try.underlying3) (opens_bool Try.underlying4)) h0 c0
  clear hA0 hval0
  refine (linkDies_ok W x0 w0).mono fun e W' ⟨he, bel⟩ => ?_
  subst he
  exact ⟨_, rfl, _, _, _, [], _, [], hW', trodAll_mk1 (shut_bool Try.underlying4 _), (trodAll_cons_mk (Below.trod laidOut (by kernel_rfl) (of_decide_eq_true (by kernel_rfl)) k0 bel lt0) trodAll_mk0), rfl, bel.frame _, fun h => by cases h⟩

theorem over : Rows.linkDiesRow.holds Try.pinned (OpenSpec.ofChange Rows.linkDiesSpec) :=
  OpenClaim.holds_of_wide 5 Try.f5 rfl rfl rfl rfl rfl rfl rfl ⟨rfl, rfl, rfl, rfl, rfl⟩ rfl rfl rfl rfl rfl (by kernel_rfl) Try.func5 (by kernel_rfl)
    (of_decide_eq_true (by kernel_rfl)) (by unfold Func.isWrapper; first | (rw [if_pos (by decide +kernel)]; kernel_rfl) | (rw [if_neg (by decide +kernel)]; exact ⟨rfl, rfl⟩))
    (fun os started H enc _ => lifted os started H enc)

/-- THE STATEMENT -/
theorem proved : Rows.LinkDiesSaid := over
end Go.Proofs.Ytjgjhjecgdndjaa.linkDiesFrame
