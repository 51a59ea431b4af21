/- The frame round the walk: RetainAll returns true for every input; its tied card. By gencard.py of this claim's author; conditions: none beside the row's own. -/
import Derived.Test.YtlikmdmdmljiaaaDoorTie
import Derived.Test.YtlikmdmdmljiaaaDoorCards
import Derived.ProofKit
import Derived.OpenShut
import Derived.LaidMore
import Derived.Lay
import Derived.SevenTiedAt
import Derived.LaidSub
import Derived.Stop.Joined
import Derived.Test.YtlikmdmdmljiaaaDoorRows
import Derived.Test.YtlikmdmdmljiaaaDoorArgs
import Derived.Test.YtlikmdmdmljiaaaDoorRetOk
namespace Go.Proofs.YtlikmdmdmljiaaaDoor.retainAllFrame
open Go.ChangeShapes Go.WideShapes Go.ChangeAt Go.RowKit
open Go.ChangeMaps (open_string shut_string)
set_option linter.unusedVariables false

theorem own : ownKnob Tryd.prog.godebug = none := by kernel_rfl
theorem laidOut : laidOutB Tryd.prog = true := by kernel_rfl

set_option maxRecDepth 100000 in
theorem lifted (os : Os) (started : os.Started) (H : Type) (enc : TypeId × Value → H) :
    ReturnsInHanded {} Tryd.checked os 3 .any (fun w args => (Rows.retainAllSpec.pre enc Tryd.prog Tryd.f3 Rows.retainAllRow.domain false w args ∧ laidMetH Tryd.prog Rows.retainAllRow.laid w) ∧ sizedMet enc Tryd.prog Tryd.f3 (OpenSpec.ofChange Rows.retainAllSpec) false w args) (Rows.retainAllSpec.post enc Tryd.prog Tryd.f3 false true false false) := by
  refine returnsInHanded_of_change_and (C := Tryd.checked) (X := (fun w _ => laidMetH Tryd.prog Rows.retainAllRow.laid w)) (fun _ _ _ hh h => h.of_heap hh) own started (by kernel_rfl) Tryd.func3
    (ChangeSpec.witness_shaped (enc := enc) (C := Tryd.checked) (os := os) (X := (fun w _ => laidMetH Tryd.prog Rows.retainAllRow.laid w)) false (World.laidAll Tryd.prog os Rows.retainAllRow.laid) #[.agg #[.int .i64 0, .int .i64 0, .int .i64 0, .int .i64 0, .int .i64 0, .int .i64 0], .agg #[.int .u8 0, .int .u8 0, .int .u8 0, .int .u8 0, .int .u8 0, .int .u8 0], .slice none 0 0] 12 (World.laidAll_os _ _ _) (World.shaped_of_ZipB (by kernel_rfl) (by kernel_rfl)) (by kernel_rfl) (by kernel_rfl) (by kernel_rfl)
      (by rw [MakeChecks.laidMetH_plain _ _ _ (by kernel_rfl)]; exact laidMet_laidAll _ (by kernel_rfl) (by kernel_rfl))) ?_
  intro W base args ds gs before hval0 hW hcnd hsz hL _
  have hTab := tab_of_laidA W hL
  have hval : ∀ (j : Nat) t v, Tryd.f3.params[j]? = some t → args[j]? = some v → Value.okWide Tryd.prog W .any base t v := hval0
  have hW' := hW
  obtain ⟨p, q, hA0, hV, rfl, hfz, hnd⟩ := hW
  have hA : DataW.TrodAll enc Tryd.prog W 0 (fun _ => true) true Tryd.f3.params.toList args.toList ds p := hA0
  rw [Tryd.params3] at hA hval hsz
  obtain ⟨v0, vs0, d0, ds0, p0, q0, hargs, rfl, rfl, h0, r0⟩ := trodAll_cons hA
  obtain ⟨v1, vs1, d1, ds1, p1, q1, rfl, rfl, rfl, h1, r1⟩ := trodAll_cons r0
  obtain ⟨v2, vs2, d2, ds2, p2, q2, rfl, rfl, rfl, h2, r2⟩ := trodAll_cons r1
  obtain ⟨rfl, rfl, rfl⟩ := trodAll_nil r2
  obtain rfl : args = #[v0, v1, v2] := by cases args; simp_all
  obtain ⟨rfl, rfl⟩ := trodVars_none hV
  have k0 := h0
  have lt0 : ∀ x ∈ p0, x.block < W.heap.size := by obtain ⟨m, hm⟩ := k0; exact DataW.trod_lt m _ _ _ hm
  obtain ⟨cs0, c0⟩ := okWide_str Tryd.underlying23 (hval 0 23 v0 rfl rfl)
  obtain ⟨x0, rfl, w0⟩ := topA (E := (ES6 (EInt .i64) (EInt .i64) (EInt .i64) (EInt .i64) (EInt .i64) (EInt .i64))) (opens_struct6 Tryd.underlying23 (by kernel_rfl) (opens_i64 Tryd.underlying3) (opens_i64 Tryd.underlying3) (opens_i64 Tryd.underlying3) (opens_i64 Tryd.underlying3) (opens_i64 Tryd.underlying3) (opens_i64 Tryd.underlying3)) h0 c0
  have k1 := h1
  have lt1 : ∀ x ∈ p1, x.block < W.heap.size := by obtain ⟨m, hm⟩ := k1; exact DataW.trod_lt m _ _ _ hm
  obtain ⟨cs1, c1⟩ := okWide_arr Tryd.underlying24 (hval 1 24 v1 rfl rfl)
  obtain ⟨x1, rfl, w1⟩ := topA (E := (fun xs => List.flatMap EU8 xs)) (opens_array (n := 6) (k := 1) Tryd.underlying24 (by kernel_rfl) (by kernel_rfl) (opens_u8 Tryd.underlying5)) h1 c1
  have k2 := h2
  have lt2 : ∀ x ∈ p2, x.block < W.heap.size := by obtain ⟨m, hm⟩ := k2; exact DataW.trod_lt m _ _ _ hm
  obtain ⟨x2, e2, w2⟩ := top1 (opens_slice (k := 2) Tryd.underlying25 (by kernel_rfl) (by decide) (opens_struct2 Tryd.underlying29 (by kernel_rfl) (opens_string Tryd.underlying9) (opens_i64 Tryd.underlying2))) h2 (okWide_one (by rw [Tryd.underlying25]) (hval 2 25 v2 rfl rfl))
  simp only [ESl, List.cons.injEq, and_true] at e2
  subst e2
  clear hA0 hval0
  refine (retainAll_ok W hTab x0 w0 x1 w1 x2.1 x2.2.1 x2.2.2.1 x2.2.2.2 w2).mono fun e W' ⟨he, bel⟩ => ?_
  subst he
  exact ⟨_, rfl, _, _, _, [], _, [], hW', trodAll_mk1 (shut_bool Tryd.underlying4 _), (trodAll_cons_mk (Below.trod laidOut (by kernel_rfl) (of_decide_eq_true (by kernel_rfl)) k0 bel lt0) (trodAll_cons_mk (Below.trod laidOut (by kernel_rfl) (of_decide_eq_true (by kernel_rfl)) k1 bel lt1) (trodAll_cons_mk (Below.trod laidOut (by kernel_rfl) (of_decide_eq_true (by kernel_rfl)) k2 bel lt2) trodAll_mk0))), rfl, bel.frame _, fun h => by cases h⟩

theorem over : Rows.retainAllRow.holds Tryd.pinned (OpenSpec.ofChange Rows.retainAllSpec) :=
  OpenClaim.holds_of_wide 3 Tryd.f3 rfl rfl rfl rfl rfl rfl rfl ⟨rfl, rfl, rfl, rfl, rfl⟩ rfl rfl rfl rfl rfl (by kernel_rfl) Tryd.func3 (by kernel_rfl)
    (of_decide_eq_true (by kernel_rfl)) (by unfold Func.isWrapper; first | (rw [if_pos (by decide +kernel)]; kernel_rfl) | (rw [if_neg (by decide +kernel)]; exact ⟨rfl, rfl⟩))
    (fun os started H enc _ => lifted os started H enc)

/-- THE STATEMENT -/
theorem proved : Rows.RetainAllCardSaid :=
  Claim7.holds_tied_plain_at .later [] [.data, .data, .data] true (true, "56d3fc5a84bc1400f69f423a180886e0912208fa2085cf6483c4f71d50eded6f") false over (fun _ h => by cases h) (by kernel_rfl) (fun _ h => by cases h) retainAll_row_tie rfl ⟨rfl, rfl⟩ (by kernel_rfl) rfl
    (fun f fn hf hfn => by
      obtain rfl : f = 3 := Option.some.inj ((show Tryd.prog.funcNamed "silo/silolaw42.RetainAll" = some 3 by kernel_rfl).symm.trans hf) |>.symm
      obtain rfl : fn = Tryd.f3 := (Option.some.inj (Tryd.func3.symm.trans hfn)).symm
      exact ⟨by kernel_rfl, fun j t ht => by
        rw [Tryd.params3] at ht
        have hm : t ∈ [23, 24, 25] := by simpa using Array.mem_of_getElem? ht
        have hall : ([23, 24, 25].all fun u => !Tryd.prog.wantsStandIn u) = true := by kernel_rfl
        exact (show Tryd.prog.wantsStandIn t = false by simpa using List.all_eq_true.1 hall t hm)⟩)
    (by kernel_rfl)
end Go.Proofs.YtlikmdmdmljiaaaDoor.retainAllFrame
