/- The frame round the walk: LinkOrders returns true for every input. By genlaw.py of this claim's author; conditions: none beside the row's own. -/
import Derived.Test.YtjgjhjecgdndjaaRows
import Derived.Test.YtjgjhjecgdndjaaArgs
import Derived.Test.YtjgjhjecgdndjaaArgsW
import Derived.Test.YtjgjhjecgdndjaaLoLaw
namespace Go.Proofs.Ytjgjhjecgdndjaa.linkOrdersFrame
open Go.ChangeShapes Go.WideShapes Go.ChangeAt Go.RowKit
open Go.ChangeMaps (open_string shut_string)
set_option linter.unusedVariables false

theorem own : ownKnob Try.prog.godebug = none := by kernel_rfl
theorem laidOut : laidOutB Try.prog = true := by kernel_rfl

set_option maxRecDepth 100000 in
theorem lifted (os : Os) (started : os.Started) (H : Type) (enc : TypeId × Value → H) :
    ReturnsInHanded {} Try.checked os 4 .any (Rows.linkOrdersSpec.pre6 enc Try.prog Try.f4 Rows.linkOrdersRow.domain false) (Rows.linkOrdersSpec.post enc Try.prog Try.f4 false true false false) := by
  refine returnsInHanded_of_change_sized (C := Try.checked) own started (by kernel_rfl) Try.func4
    (ChangeSpec.witness6 (enc := enc) (C := Try.checked) false ⟨#[], #[.slice none 0 0, .slice none 0 0, .slice none 0 0, .slice none 0 0], []⟩ 12 (by kernel_rfl) (by kernel_rfl) (by kernel_rfl) (by kernel_rfl)) ?_
  intro W base args ds gs before hval0 hW hcnd hsz _
  have hval : ∀ (j : Nat) t v, Try.f4.params[j]? = some t → args[j]? = some v → Value.okWide Try.prog W .any base t v := hval0
  have hW' := hW
  obtain ⟨p, q, hA0, hV, rfl, hfz, hnd⟩ := hW
  have hA : DataW.TrodAll enc Try.prog W 0 (fun _ => true) true Try.f4.params.toList args.toList ds p := hA0
  rw [Try.params4] at hA hval hsz
  obtain ⟨v0, vs0, d0, ds0, p0, q0, hargs, rfl, rfl, h0, r0⟩ := trodAll_cons hA
  obtain ⟨v1, vs1, d1, ds1, p1, q1, rfl, rfl, rfl, h1, r1⟩ := trodAll_cons r0
  obtain ⟨v2, vs2, d2, ds2, p2, q2, rfl, rfl, rfl, h2, r2⟩ := trodAll_cons r1
  obtain ⟨v3, vs3, d3, ds3, p3, q3, rfl, rfl, rfl, h3, r3⟩ := trodAll_cons r2
  obtain ⟨rfl, rfl, rfl⟩ := trodAll_nil r3
  obtain rfl : args = #[v0, v1, v2, v3] := by cases args; simp_all
  obtain ⟨rfl, rfl⟩ := trodVars_none hV
  have k0 := h0
  have lt0 : ∀ x ∈ p0, x.block < W.heap.size := by obtain ⟨m, hm⟩ := k0; exact DataW.trod_lt m _ _ _ hm
  obtain ⟨x0, e0, w0⟩ := top1W (opensW_slice (k := 1) Try.underlying33 (by kernel_rfl) (by decide) (opensW_string Try.underlying9)) h0 (okWide_one (by rw [Try.underlying33]) (hval 0 33 v0 rfl rfl)) (sizedW hsz (j := 0) (t := 33) rfl rfl)
  simp only [ESl, List.cons.injEq, and_true] at e0
  subst e0
  have k1 := h1
  have lt1 : ∀ x ∈ p1, x.block < W.heap.size := by obtain ⟨m, hm⟩ := k1; exact DataW.trod_lt m _ _ _ hm
  obtain ⟨x1, e1, w1⟩ := top1W (opensW_slice (k := 1) Try.underlying33 (by kernel_rfl) (by decide) (opensW_string Try.underlying9)) h1 (okWide_one (by rw [Try.underlying33]) (hval 1 33 v1 rfl rfl)) (sizedW hsz (j := 1) (t := 33) rfl rfl)
  simp only [ESl, List.cons.injEq, and_true] at e1
  subst e1
  have k2 := h2
  have lt2 : ∀ x ∈ p2, x.block < W.heap.size := by obtain ⟨m, hm⟩ := k2; exact DataW.trod_lt m _ _ _ hm
  obtain ⟨x2, e2, w2⟩ := top1W (opensW_slice (k := 3) Try.underlying34 (by kernel_rfl) (by decide) (opensW_struct3 Try.underlying45 (by kernel_rfl) (opensW_of (opens_u8 Try.underlying5)) (opensW_of (opens_u8 Try.underlying5)) (opensW_of (opens_u8 Try.underlying5)))) h2 (okWide_one (by rw [Try.underlying34]) (hval 2 34 v2 rfl rfl)) (sizedW hsz (j := 2) (t := 34) rfl rfl)
  simp only [ESl, List.cons.injEq, and_true] at e2
  subst e2
  have k3 := h3
  have lt3 : ∀ x ∈ p3, x.block < W.heap.size := by obtain ⟨m, hm⟩ := k3; exact DataW.trod_lt m _ _ _ hm
  obtain ⟨x3, e3, w3⟩ := top1W (opensW_slice (k := 1) Try.underlying33 (by kernel_rfl) (by decide) (opensW_string Try.underlying9)) h3 (okWide_one (by rw [Try.underlying33]) (hval 3 33 v3 rfl rfl)) (sizedW hsz (j := 3) (t := 33) rfl rfl)
  simp only [ESl, List.cons.injEq, and_true] at e3
  subst e3
  clear hA0 hval0
  refine (linkOrders_ok W x0.1 x0.2.1 x0.2.2.1 x0.2.2.2 w0 x1.1 x1.2.1 x1.2.2.1 x1.2.2.2 w1 x2.1 x2.2.1 x2.2.2.1 x2.2.2.2 ⟨w2.1, w2.2.1, w2.2.2.1⟩ x3.1 x3.2.1 x3.2.2.1 x3.2.2.2 w3).mono fun e W' ⟨he, bel⟩ => ?_
  subst he
  exact ⟨_, rfl, _, _, _, [], _, [], hW', trodAll_mk1 (shut_bool Try.underlying4 _), (trodAll_cons_mk (Below.trod laidOut (by kernel_rfl) (of_decide_eq_true (by kernel_rfl)) k0 bel lt0) (trodAll_cons_mk (Below.trod laidOut (by kernel_rfl) (of_decide_eq_true (by kernel_rfl)) k1 bel lt1) (trodAll_cons_mk (Below.trod laidOut (by kernel_rfl) (of_decide_eq_true (by kernel_rfl)) k2 bel lt2) (trodAll_cons_mk (Below.trod laidOut (by kernel_rfl) (of_decide_eq_true (by kernel_rfl)) k3 bel lt3) trodAll_mk0)))), rfl, bel.frame _, fun h => by cases h⟩

theorem over : Rows.linkOrdersRow.holds Try.pinned (OpenSpec.ofChange Rows.linkOrdersSpec) :=
  OpenClaim.holds_of_wide 4 Try.f4 rfl rfl rfl rfl rfl rfl rfl ⟨rfl, rfl, rfl, rfl, rfl⟩ rfl rfl rfl rfl rfl (by kernel_rfl) Try.func4 (by kernel_rfl)
    (of_decide_eq_true (by kernel_rfl)) (by unfold Func.isWrapper; first | (rw [if_pos (by decide +kernel)]; kernel_rfl) | (rw [if_neg (by decide +kernel)]; exact ⟨rfl, rfl⟩))
    (fun os started H enc _ => lifted os started H enc)

/-- THE STATEMENT -/
theorem proved : Rows.LinkOrdersSaid := over
end Go.Proofs.Ytjgjhjecgdndjaa.linkOrdersFrame
