/- LeaseDoes: the law. -/
import Derived.Test.YtffnkgfpbjmkbaaLkPlain
import Derived.Test.YtffnkgfpbjmkbaaLea10
import Derived.Test.YtffnkgfpbjmkbaaStructs
import Derived.Deep.RegionHeld3
import Derived.Deep.DeepCutAuto
namespace Go.Proofs.Ytffnkgfpbjmkbaa
open Go.RowKit
set_option linter.unusedVariables false
set_option linter.unusedSimpArgs false
theorem lks_get (l : List (UInt64 × Bool × Int)) : l.flatMap (ES3 EU64 EBool (EInt .i64)) = lkC (l.map fun x => ⟨x.1, x.2.1, x.2.2⟩) := by
  induction l with
  | nil => rfl
  | cons x l ih => rw [List.flatMap_cons, ih, List.map_cons, lkC_cons]; simp [ES3, EU64, EBool, EInt]
theorem LksN.of_sl {w : World} {A : Option Addr} {n c : Nat} {l : List (UInt64 × Bool × Int)} (h : Sl w A n c 3 (l.flatMap (ES3 EU64 EBool (EInt .i64)))) (hn : l.length = n) (h0 : A = none → c = 0) : LksN w (.slice A n c) (l.map fun x => ⟨x.1, x.2.1, x.2.2⟩) := by
  rw [lks_get] at h
  refine ⟨⟨A, c, by rw [List.length_map, hn], by rw [List.length_map, hn]; exact h.le, h.cap, fun hl => ?_⟩, fun n' c' e => by cases e; exact h0 rfl⟩
  rw [List.length_map] at hl
  obtain ⟨b, off, e1, e2, e3⟩ := h.cells (by omega)
  refine ⟨b, off, e1, e2, fun i hi => ?_⟩
  have hi' : i < n := by rw [List.length_map] at hi; omega
  obtain ⟨g1, g2, g3⟩ := lkC_get _ i hi
  exact ⟨(e3 (i * 3) (by omega)).trans g1, by rw [Nat.add_assoc]; exact (e3 (i * 3 + 1) (by omega)).trans g2, by rw [Nat.add_assoc]; exact (e3 (i * 3 + 2) (by omega)).trans g3⟩
/-- a boxed value of locks -/
def BoxL (w : World) (b : Nat) (now : Int) (v : Value) : Prop := w.cell? ⟨b, 0, none⟩ = some (.int .i64 now) ∧ w.cell? ⟨b, 1, none⟩ = some v ∧ b < w.heap.size
theorem BoxL.below {w w' : World} {b : Nat} {now : Int} {v : Value} (h : BoxL w b now v) (hb : Below w.heap.size w w') : BoxL w' b now v :=
  ⟨(hb.cell (p := ⟨b, 0, none⟩) h.2.2).trans h.1, (hb.cell (p := ⟨b, 1, none⟩) h.2.2).trans h.2.1, Nat.lt_of_lt_of_le h.2.2 hb.size⟩
theorem BoxL.new (w : World) (now : Int) (v : Value) : BoxL (w.alloc (.cells #[.int .i64 now, v] 27)) w.heap.size now v := by
  obtain ⟨h1, h2, _⟩ := cells2 (heap_alloc_new w (.cells #[.int .i64 now, v] 27))
  exact ⟨h1, h2, by simp⟩
def RetL (now : Int) (l : List Lk) (z : Int) (w : World) (e : Ending) (w' : World) : Prop := ∃ A c, e = .returned (.tuple #[.agg #[.int .i64 now, .slice A l.length c], .int .i64 z]) ∧ LksN w' (.slice A l.length c) l ∧ Below w.heap.size w w'
theorem RetL.of {P : Program} {f : FuncId} {args : Array Value} {now : Int} {q : List Lk × Int} {w : World} (h : Calls P f args w fun e w' => ∃ v', e = .returned (.tuple #[Lc now v', .int .i64 q.2]) ∧ LksN w' v' q.1 ∧ Below w.heap.size w w') {l : List Lk} {z : Int} (hq : q = (l, z)) : Calls P f args w (RetL now l z w) := by
  subst hq
  refine h.mono ?_
  rintro e w' ⟨v', rfl, h1, h2⟩
  obtain ⟨A, c, rfl, _⟩ := h1.1
  exact ⟨A, c, rfl, h1, h2⟩
def RetU (now : Int) (l : List Lk) (u : List UInt64) (w : World) (e : Ending) (w' : World) : Prop := ∃ A c A' c', e = .returned (.tuple #[.agg #[.int .i64 now, .slice A l.length c], .slice A' u.length c']) ∧ LksN w' (.slice A l.length c) l ∧ UsB w' (.slice A' u.length c') u ∧ Below w.heap.size w w'
theorem RetU.of {P : Program} {f : FuncId} {args : Array Value} {now : Int} {l : List Lk} {u : List UInt64} {w : World} (h : Calls P f args w fun e w' => ∃ v' u', e = .returned (.tuple #[Lc now v', u']) ∧ LksN w' v' l ∧ UsB w' u' u ∧ Below w.heap.size w w') : Calls P f args w (RetU now l u w) := by
  refine h.mono ?_
  rintro e w' ⟨v', u', rfl, h1, h3, h2⟩
  obtain ⟨A, c, rfl, _⟩ := h1.1
  have h4 := h3
  obtain ⟨A', c', rfl, _⟩ := h3
  exact ⟨A, c, A', c', rfl, h1, h4, h2⟩
theorem fit_calls {P : Program} {f : FuncId} {args : Array Value} {w : World} {now : Int} {l : List Lk} {fb : Bool} (h : Calls P f args w fun e w' => ∃ b : Bool, e = .returned (.bool b) ∧ (b = true ↔ FitP now l) ∧ Below w.heap.size w w') (hf : fb = true ↔ FitP now l) : Calls P f args w fun e w' => e = .returned (.bool fb) ∧ Below w.heap.size w w' := by
  refine h.mono ?_
  rintro e w' ⟨b, rfl, h1, h2⟩
  have : b = fb := by
    cases b <;> cases fb
    · rfl
    · exact absurd (h1.2 (hf.1 rfl)) (by decide)
    · exact absurd (hf.2 (h1.1 rfl)) (by decide)
    · rfl
  rw [this]
  exact ⟨rfl, h2⟩
theorem same_self (now : Int) (l : List Lk) : sameL now l now l = true := by
  unfold sameL
  rw [(lksEq_iff l l).2 rfl]; simp
theorem sameT (now : Int) {va vb : Value} {l : List Lk} {w : World} (ha : LksB w va l) (hb : LksB w vb l) : Calls Try.prog 12 #[.agg #[.int .i64 now, va], .agg #[.int .i64 now, vb]] w fun e w' => e = .returned (.bool true) ∧ Below w.heap.size w w' := by
  have h := rsame_any now now va vb l l w ha hb
  rw [same_self] at h
  exact h
set_option maxRecDepth 20000 in
set_option maxHeartbeats 4000000 in
theorem does_long (W : World) (now nowm : Int) (A1 A2 : Option Addr) (c1 c2 : Nat) (l m : List Lk) (owner : UInt64) (shared : Bool) (ticks : Int) (HV : LksN W (.slice A1 l.length c1) l) (HM : LksN W (.slice A2 m.length c2) m) (hf : ¬ (l.length ≤ 20 ∧ m.length ≤ 20)) :
    Calls Try.prog 5 #[.agg #[.int .i64 now, .slice A1 l.length c1], .agg #[.int .i64 nowm, .slice A2 m.length c2], .int .u64 owner.toNat, .bool shared, .int .i64 ticks] W fun e w' => e = .returned (.bool true) ∧ Below W.heap.size W w' := by
  have HA := Lib.hid leaAwake_any
  have hc1 : c1 ≤ 9223372036854775807 := by obtain ⟨_, _, e, _, h, _⟩ := HV.1; cases e; unfold maxLen at h; omega
  have hc2 : c2 ≤ 9223372036854775807 := by obtain ⟨_, _, e, _, h, _⟩ := HM.1; cases e; unfold maxLen at h; omega
  have hn1 : l.length ≤ c1 := by obtain ⟨_, _, e, h, _⟩ := HV.1; cases e; exact h
  have hn2 : m.length ≤ c2 := by obtain ⟨_, _, e, h, _⟩ := HM.1; cases e; exact h
  generalize l.length = n at *
  generalize m.length = k at *
  clear HV HM
  have HB2 : Hid (Below W.heap.size W ((W.alloc (.cells #[.int .i64 now, .slice A1 n c1] 27)).alloc (.cells #[.int .i64 nowm, .slice A2 k c2] 27))) := ((Below.refl _ _).alloc (Nat.le_refl _) _).alloc (by simp) _
  by_cases h1 : n ≤ 20
  · have d1 : decide ((20 : Int) < (n : Int)) = false := by simp; omega
    have d2 : decide ((20 : Int) < (k : Int)) = true := by simp; omega
    clear hf
    go_enter Try.func5, Try.ntmps5
    go_wp2_with fail
    refine (HA.out _).mono ?_
    rintro e w2 ⟨rfl, b2⟩
    have HB3 := Lib.hid (HB2.out.trans (b2.mono HB2.out.size))
    go_wp2_with fail
    go_ret
    exact ⟨rfl, HB3.out⟩
  · have d1 : decide ((20 : Int) < (n : Int)) = true := by simp; omega
    clear hf
    go_enter Try.func5, Try.ntmps5
    go_wp2_with fail
    refine (HA.out _).mono ?_
    rintro e w2 ⟨rfl, b2⟩
    have HB3 := Lib.hid (HB2.out.trans (b2.mono HB2.out.size))
    go_wp2_with fail
    go_ret
    exact ⟨rfl, HB3.out⟩
set_option maxRecDepth 40000 in
set_option maxHeartbeats 20000000 in
theorem does_main (W : World) (now nowm : Int) (A1 A2 : Option Addr) (c1 c2 : Nat) (l m : List Lk) (owner : UInt64) (shared : Bool) (ticks : Int) (HV : LksN W (.slice A1 l.length c1) l) (HM : LksN W (.slice A2 m.length c2) m) (hl1 : l.length ≤ 20) (hl2 : m.length ≤ 20) :
    Calls Try.prog 5 #[.agg #[.int .i64 now, .slice A1 l.length c1], .agg #[.int .i64 nowm, .slice A2 m.length c2], .int .u64 owner.toNat, .bool shared, .int .i64 ticks] W fun e w' => e = .returned (.bool true) ∧ Below W.heap.size W w' := by
  have HA := Lib.hid leaAwake_any
  have hc1 : c1 ≤ 9223372036854775807 := by obtain ⟨_, _, e, _, h, _⟩ := HV.1; cases e; unfold maxLen at h; omega
  have hc2 : c2 ≤ 9223372036854775807 := by obtain ⟨_, _, e, _, h, _⟩ := HM.1; cases e; unfold maxLen at h; omega
  have hn1 : l.length ≤ c1 := by obtain ⟨_, _, e, h, _⟩ := HV.1; cases e; exact h
  have hn2 : m.length ≤ c2 := by obtain ⟨_, _, e, h, _⟩ := HM.1; cases e; exact h
  obtain ⟨fb, hfb⟩ : ∃ fb : Bool, (fb = true ↔ FitP now l) := by
    by_cases h : FitP now l
    · exact ⟨true, by simp [h]⟩
    · exact ⟨false, by simp [h]⟩
  have HFB := Lib.hid hfb
  have HF1 := Lib.hid (fun w' (b : Below W.heap.size W w') => fit_calls (fitL_any now _ l w' (HV.1.below b (Nat.le_refl _))) hfb)
  have HF2 := Lib.hid (fun w' (b : Below W.heap.size W w') => fit_calls (rfit_any now _ l w' (HV.1.below b (Nat.le_refl _))) hfb)
  have HS1 := Lib.hid (fun w' (b : Below W.heap.size W w') => same_any now nowm _ _ l m w' (HV.1.below b (Nat.le_refl _)) (HM.1.below b (Nat.le_refl _)))
  have HS2 := Lib.hid (fun w' (b : Below W.heap.size W w') => rsame_any now nowm _ _ l m w' (HV.1.below b (Nat.le_refl _)) (HM.1.below b (Nat.le_refl _)))
  have HS3 := Lib.hid (fun w' (b : Below W.heap.size W w') => same_any now now _ _ l l w' (HV.1.below b (Nat.le_refl _)) (HV.1.below b (Nat.le_refl _)))
  rw [same_self] at HS3
  have HVL := Lib.hid HV
  unfold Lc at HF1 HF2 HS1 HS2 HS3
  obtain ⟨sm, hsm⟩ : ∃ sm, sm = sameL now l nowm m := ⟨_, rfl⟩
  rw [← hsm] at HS1 HS2
  obtain ⟨n, hn⟩ : ∃ n, n = l.length := ⟨_, rfl⟩
  obtain ⟨k, hk⟩ : ∃ k, k = m.length := ⟨_, rfl⟩
  have HN := Lib.hid hn
  rw [← hn] at HF1 HF2 HS1 HS2 HS3 hl1 hn1 HVL
  rw [← hk] at HS1 HS2 hl2 hn2
  rw [← hn, ← hk]
  clear hsm hn hk HV HM hfb
  have d1 : decide ((20 : Int) < (n : Int)) = false := by simp; omega
  have d2 : decide ((20 : Int) < (k : Int)) = false := by simp; omega
  have e1 : (fb != fb) = false := by simp
  have e2 : (sm != sm) = false := by simp
  have HB2 : Hid (Below W.heap.size W ((W.alloc (.cells #[.int .i64 now, .slice A1 n c1] 27)).alloc (.cells #[.int .i64 nowm, .slice A2 k c2] 27))) := ((Below.refl _ _).alloc (Nat.le_refl _) _).alloc (by simp) _
  have hX := two2w W (.int .i64 now) (.slice A1 n c1) 27 (.int .i64 nowm) (.slice A2 k c2) 27
  have hsz : ((W.alloc (.cells #[.int .i64 now, .slice A1 n c1] 27)).alloc (.cells #[.int .i64 nowm, .slice A2 k c2] 27)).heap.size = W.heap.size + 2 := by simp
  obtain ⟨wE, hwE⟩ : ∃ wE, wE = ((W.alloc (.cells #[.int .i64 now, .slice A1 n c1] 27)).alloc (.cells #[.int .i64 nowm, .slice A2 k c2] 27)) := ⟨_, rfl⟩
  obtain ⟨b1, hb1⟩ : ∃ b1, b1 = W.heap.size + 1 := ⟨_, rfl⟩
  obtain ⟨b0, hb0⟩ : ∃ b0, b0 = W.heap.size := ⟨_, rfl⟩
  rw [← hwE, ← hb1, ← hb0] at hX
  rw [← hwE] at HB2
  rw [← hwE, ← hb0] at hsz
  have hlt0 : b0 < wE.heap.size := by omega
  have hlt1 : b1 < wE.heap.size := by omega
  have HWE := Lib.hid hwE.symm
  have HB0 := Lib.hid hb0.symm
  have HB1 := Lib.hid hb1.symm
  obtain ⟨X0, X1, M0, M1⟩ := hX
  have AT : Hid (Hid (∀ w', Below wE.heap.size wE w' → w'.cell? ⟨b0, 0, none⟩ = some (.int .i64 now) ∧ w'.cell? ⟨b0, 1, none⟩ = some (.slice A1 n c1) ∧ w'.cell? ⟨b1, 0, none⟩ = some (.int .i64 nowm) ∧ w'.cell? ⟨b1, 1, none⟩ = some (.slice A2 k c2))) := fun w' b => ⟨(b.cell (p := ⟨b0, 0, none⟩) hlt0).trans X0, (b.cell (p := ⟨b0, 1, none⟩) hlt0).trans X1, (b.cell (p := ⟨b1, 0, none⟩) hlt1).trans M0, (b.cell (p := ⟨b1, 1, none⟩) hlt1).trans M1⟩
  have HLT := Lib.hid hlt0
  clear hwE hb0 hb1 hsz X0 X1 M0 M1 hlt1
  go_enter Try.func5, Try.ntmps5
  go_upto_region 3 with fail
  rw [HWE.out, HB1.out, HB0.out]
  go_cut [65] (fun s65 wx => s65 = .bool false ∧ Hid (Below wE.heap.size wE wx))
  case first =>
    obtain ⟨x0, x1, x2, x3⟩ := AT.out _ ((Below.refl wE.heap.size wE).drew)
    refine wp_region_noPanic ?_
    refine wp_region_held_drew (S := fun w' => w'.cell? ⟨b0, 0, none⟩ = some (.int .i64 now) ∧ w'.cell? ⟨b0, 1, none⟩ = some (.slice A1 n c1) ∧ w'.cell? ⟨b1, 0, none⟩ = some (.int .i64 nowm) ∧ w'.cell? ⟨b1, 1, none⟩ = some (.slice A2 k c2)) (by kernel_rfl) ⟨x0, x1, x2, x3⟩ (fun hHeld => ?_)
    obtain ⟨wd, hwd⟩ : ∃ wd, wd = wE.drew := ⟨_, rfl⟩
    have HW : Hid (Below wE.heap.size wE wd) := by unfold Hid; rw [hwd]; exact (Below.refl _ _).drew
    rw [← hwd] at hHeld ⊢
    clear hwd x0 x1 x2 x3
    refine wpAnyH_take (i := 0) (v := .agg #[.int .i64 now, .slice A1 n c1]) rfl (by kernel_rfl) (by kernel_rfl) (by kernel_rfl) (fun _ _ _ h => h) (Or.inl ⟨by kernel_rfl, ?_⟩) hHeld ?_
    · intro w hSw
      have hh := hSw.1
      have hg := hSw.2.1
      go_simp
    try simp only [Act.put, List.setIfInBounds_toArray, List.set_cons_zero, List.set_cons_succ]
    refine wpAnyH_take (i := 2) (v := .agg #[.int .i64 now, .slice A1 n c1]) rfl (by kernel_rfl) (by kernel_rfl) (by kernel_rfl) (fun _ _ _ h => h) (Or.inl ⟨by kernel_rfl, ?_⟩) hHeld ?_
    · intro w hSw
      have hh := hSw.1
      have hg := hSw.2.1
      go_simp
    try simp only [Act.put, List.setIfInBounds_toArray, List.set_cons_zero, List.set_cons_succ]
    refine wpAnyH_ready (rs := [1]) (by kernel_rfl) (by simp) ?_
    refine AllReadyH.cons rfl (fun K hK => ?_) AllReadyH.nil
    go_simp
    go_at_call 14
    refine (HF1.out _ (HB2.out.trans (HW.out.mono HB2.out.size))).mono ?_
    rintro er w' ⟨rfl, b'⟩
    have HW := Lib.hid (HW.out.trans (b'.mono HW.out.size))
    have HS := Lib.hid (AT.out _ HW.out)
    clear b' hHeld
    go_wp2_with fail
    refine hK.out _ _ HS.out (fun hHeld => ?_)
    clear hK K
    try simp only [Act.put, List.setIfInBounds_toArray, List.set_cons_zero, List.set_cons_succ]
    refine wpAnyH_ready (rs := [3]) (by kernel_rfl) (by simp) ?_
    refine AllReadyH.cons rfl (fun K hK => ?_) AllReadyH.nil
    go_simp
    go_at_call 13
    refine (HF2.out _ (HB2.out.trans (HW.out.mono HB2.out.size))).mono ?_
    rintro er w' ⟨rfl, b'⟩
    have HW := Lib.hid (HW.out.trans (b'.mono HW.out.size))
    have HS := Lib.hid (AT.out _ HW.out)
    clear b' hHeld
    go_wp2_with fail
    refine hK.out _ _ HS.out (fun hHeld => ?_)
    clear hK K
    try simp only [Act.put, List.setIfInBounds_toArray, List.set_cons_zero, List.set_cons_succ]
    refine' wpAnyH_take (i := 4) (v := ?v1) rfl (by kernel_rfl) (by kernel_rfl) (by kernel_rfl) (fun _ _ _ h => h) (Or.inl ⟨by kernel_rfl, ?hy1⟩) (by assumption) ?rest1
    case hy1 => (intro w hSw; (try dsimp only at hSw); go_simp; try with_reducible rfl)
    try simp only [Act.put, List.setIfInBounds_toArray, List.set_cons_zero, List.set_cons_succ]
    refine' wpAnyH_take (i := 5) (v := ?v2) rfl (by kernel_rfl) (by kernel_rfl) (by kernel_rfl) (fun _ _ _ h => h) (Or.inl ⟨by kernel_rfl, ?hy2⟩) (by assumption) ?rest2
    case hy2 => (intro w hSw; (try dsimp only at hSw); go_simp; try with_reducible rfl)
    try simp only [Act.put, List.setIfInBounds_toArray, List.set_cons_zero, List.set_cons_succ]
    refine wpAnyH_take (i := 6) (v := .agg #[.int .i64 now, .slice A1 n c1]) rfl (by kernel_rfl) (by kernel_rfl) (by kernel_rfl) (fun _ _ _ h => h) (Or.inl ⟨by kernel_rfl, ?_⟩) hHeld ?_
    · intro w hSw
      have hh := hSw.1
      have hg := hSw.2.1
      go_simp
    try simp only [Act.put, List.setIfInBounds_toArray, List.set_cons_zero, List.set_cons_succ]
    refine wpAnyH_take (i := 7) (v := .agg #[.int .i64 nowm, .slice A2 k c2]) rfl (by kernel_rfl) (by kernel_rfl) (by kernel_rfl) (fun _ _ _ h => h) (Or.inl ⟨by kernel_rfl, ?_⟩) hHeld ?_
    · intro w hSw
      have hh := hSw.2.2.1
      have hg := hSw.2.2.2
      go_simp
    try simp only [Act.put, List.setIfInBounds_toArray, List.set_cons_zero, List.set_cons_succ]
    refine wpAnyH_take (i := 9) (v := .agg #[.int .i64 now, .slice A1 n c1]) rfl (by kernel_rfl) (by kernel_rfl) (by kernel_rfl) (fun _ _ _ h => h) (Or.inl ⟨by kernel_rfl, ?_⟩) hHeld ?_
    · intro w hSw
      have hh := hSw.1
      have hg := hSw.2.1
      go_simp
    try simp only [Act.put, List.setIfInBounds_toArray, List.set_cons_zero, List.set_cons_succ]
    refine wpAnyH_take (i := 10) (v := .agg #[.int .i64 nowm, .slice A2 k c2]) rfl (by kernel_rfl) (by kernel_rfl) (by kernel_rfl) (fun _ _ _ h => h) (Or.inl ⟨by kernel_rfl, ?_⟩) hHeld ?_
    · intro w hSw
      have hh := hSw.2.2.1
      have hg := hSw.2.2.2
      go_simp
    try simp only [Act.put, List.setIfInBounds_toArray, List.set_cons_zero, List.set_cons_succ]
    refine wpAnyH_ready (rs := [8]) (by kernel_rfl) (by simp) ?_
    refine AllReadyH.cons rfl (fun K hK => ?_) AllReadyH.nil
    go_simp
    go_at_call 15
    refine (HS1.out _ (HB2.out.trans (HW.out.mono HB2.out.size))).mono ?_
    rintro er w' ⟨rfl, b'⟩
    have HW := Lib.hid (HW.out.trans (b'.mono HW.out.size))
    have HS := Lib.hid (AT.out _ HW.out)
    clear b' hHeld
    go_wp2_with fail
    refine hK.out _ _ HS.out (fun hHeld => ?_)
    clear hK K
    try simp only [Act.put, List.setIfInBounds_toArray, List.set_cons_zero, List.set_cons_succ]
    refine wpAnyH_ready (rs := [11]) (by kernel_rfl) (by simp) ?_
    refine AllReadyH.cons rfl (fun K hK => ?_) AllReadyH.nil
    go_simp
    go_at_call 12
    refine (HS2.out _ (HB2.out.trans (HW.out.mono HB2.out.size))).mono ?_
    rintro er w' ⟨rfl, b'⟩
    have HW := Lib.hid (HW.out.trans (b'.mono HW.out.size))
    have HS := Lib.hid (AT.out _ HW.out)
    clear b' hHeld
    go_wp2_with fail
    refine hK.out _ _ HS.out (fun hHeld => ?_)
    clear hK K
    try simp only [Act.put, List.setIfInBounds_toArray, List.set_cons_zero, List.set_cons_succ]
    refine' wpAnyH_take (i := 12) (v := ?v3) rfl (by kernel_rfl) (by kernel_rfl) (by kernel_rfl) (fun _ _ _ h => h) (Or.inl ⟨by kernel_rfl, ?hy3⟩) (by assumption) ?rest3
    case hy3 => (intro w hSw; (try dsimp only at hSw); go_simp; try with_reducible rfl)
    try simp only [Act.put, List.setIfInBounds_toArray, List.set_cons_zero, List.set_cons_succ]
    refine' wpAnyH_take (i := 13) (v := ?v4) rfl (by kernel_rfl) (by kernel_rfl) (by kernel_rfl) (fun _ _ _ h => h) (Or.inl ⟨by kernel_rfl, ?hy4⟩) (by assumption) ?rest4
    case hy4 => (intro w hSw; (try dsimp only at hSw); go_simp; try with_reducible rfl)
    try simp only [Act.put, List.setIfInBounds_toArray, List.set_cons_zero, List.set_cons_succ]
    refine' wpAnyH_take (i := 14) (v := ?v5) rfl (by kernel_rfl) (by kernel_rfl) (by kernel_rfl) (fun _ _ _ h => h) (Or.inl ⟨by kernel_rfl, ?hy5⟩) (by assumption) ?rest5
    case hy5 => (intro w hSw; (try dsimp only at hSw); go_simp; try with_reducible rfl)
    try simp only [Act.put, List.setIfInBounds_toArray, List.set_cons_zero, List.set_cons_succ]
    refine wpAnyH_take (i := 15) (v := .agg #[.int .i64 now, .slice A1 n c1]) rfl (by kernel_rfl) (by kernel_rfl) (by kernel_rfl) (fun _ _ _ h => h) (Or.inl ⟨by kernel_rfl, ?_⟩) hHeld ?_
    · intro w hSw
      have hh := hSw.1
      have hg := hSw.2.1
      go_simp
    try simp only [Act.put, List.setIfInBounds_toArray, List.set_cons_zero, List.set_cons_succ]
    refine wpAnyH_take (i := 16) (v := .agg #[.int .i64 now, .slice A1 n c1]) rfl (by kernel_rfl) (by kernel_rfl) (by kernel_rfl) (fun _ _ _ h => h) (Or.inl ⟨by kernel_rfl, ?_⟩) hHeld ?_
    · intro w hSw
      have hh := hSw.1
      have hg := hSw.2.1
      go_simp
    try simp only [Act.put, List.setIfInBounds_toArray, List.set_cons_zero, List.set_cons_succ]
    refine wpAnyH_ready (rs := [17]) (by kernel_rfl) (by simp) ?_
    refine AllReadyH.cons rfl (fun K hK => ?_) AllReadyH.nil
    go_simp
    go_at_call 15
    refine (HS3.out _ (HB2.out.trans (HW.out.mono HB2.out.size))).mono ?_
    rintro er w' ⟨rfl, b'⟩
    have HW := Lib.hid (HW.out.trans (b'.mono HW.out.size))
    have HS := Lib.hid (AT.out _ HW.out)
    clear b' hHeld
    go_wp2_with fail
    refine hK.out _ _ HS.out (fun hHeld => ?_)
    clear hK K
    try simp only [Act.put, List.setIfInBounds_toArray, List.set_cons_zero, List.set_cons_succ]
    refine wpAnyH_take (i := 18) (v := .bool false) rfl (by kernel_rfl) (by kernel_rfl) (by kernel_rfl) (fun _ _ _ h => h) (Or.inl ⟨by kernel_rfl, ?_⟩) hHeld ?_
    · intro w hSw
      go_simp
    refine wpAnyH_take (i := 19) (v := .bool false) rfl (by kernel_rfl) (by kernel_rfl) (by kernel_rfl) (fun _ _ _ h => h) (Or.inl ⟨by kernel_rfl, ?_⟩) hHeld ?_
    · intro w hSw
      go_simp
    refine wpAnyH_done (by kernel_rfl) ?_ _
    refine NoPanic.normal ?_
    go_wp2_with fail
    go_meet
    exact ⟨rfl, HW⟩
  case rest =>
    obtain ⟨rfl, HC⟩ := hcut
    obtain ⟨X0, X1, _, _⟩ := AT.out _ HC.out
    have hlt : b0 < wc.heap.size := Nat.lt_of_lt_of_le HLT.out HC.out.size
    have HBc : Hid (Below W.heap.size W wc) := HB2.out.trans (HC.out.mono HB2.out.size)
    clear e1 e2 HF1 HS1 HS2 HS3
    go_wp2_with fail
    refine (HF2.out _ HBc.out).mono ?_
    rintro e w1 ⟨rfl, b1'⟩
    have HLb : Hid (BoxL w1 b0 now (.slice A1 n c1)) := BoxL.below ⟨X0, X1, hlt⟩ b1'
    have HB1' : Hid (Below W.heap.size W w1) := HBc.out.trans (b1'.mono HBc.out.size)
    clear X0 X1 hlt b1' HF2
    cases fb with
    | false =>
      go_wp2_with fail
      refine (HA.out _).mono ?_
      rintro e w2 ⟨rfl, b2⟩
      have HB3 := Lib.hid (HB1'.out.trans (b2.mono HB1'.out.size))
      go_wp2_with fail
      go_ret
      exact ⟨rfl, HB3.out⟩
    | true =>
      have hfit : FitP now l := HFB.out.1 rfl
      have hnow0 := hfit.1
      have hnow1 := hfit.2.1
      have HRis := Lib.hid hfit.2.2.2.1
      have HFit := Lib.hid hfit
      obtain ⟨la, ea, hA⟩ : ∃ la ea, askP now l owner shared ticks = (la, ea) := ⟨_, _, rfl⟩
      obtain ⟨lr, er, hR⟩ : ∃ lr er, renP now l owner ticks = (lr, er) := ⟨_, _, rfl⟩
      obtain ⟨ls, es, hS⟩ : ∃ ls es, relP l owner = (ls, es) := ⟨_, _, rfl⟩
      obtain ⟨lt, et, hT⟩ : ∃ lt et, turnP l owner shared = (lt, et) := ⟨_, _, rfl⟩
      obtain ⟨now2, hp⟩ : ∃ now2, now2 = passN now ticks := ⟨_, rfl⟩
      obtain ⟨lp, hlp⟩ : ∃ lp, lp = keepL l (overB now2) := ⟨_, rfl⟩
      obtain ⟨us, hus⟩ : ∃ us, us = lostL l now2 := ⟨_, rfl⟩
      have HfA : Hid (FitP now la) := by have := fit_ask now l owner shared ticks hfit; rw [hA] at this; exact this
      have HfR : Hid (FitP now lr) := by have := fit_ren now l owner ticks hfit; rw [hR] at this; exact this
      have HfS : Hid (FitP now ls) := by have := fit_rel now l owner hfit; rw [hS] at this; exact this
      have HfT : Hid (FitP now lt) := by have := fit_turn now l owner shared hfit; rw [hT] at this; exact this
      have HfP : Hid (FitP now2 lp) := by have := fit_pass now l ticks hfit; rw [← hp] at this; rw [hlp]; exact this
      have hl5 : l.length ≤ 100000 := by have := HN.out; omega
      have hl6 : l.length ≤ 1000000 := by have := HN.out; omega
      have hq1 : now ≤ 1000000000000 := by omega
      have C7 := Lib.hid (fun w' (b : Below W.heap.size W w') => RetL.of (ask_any now _ l owner shared ticks w' (HVL.out.below b (Nat.le_refl _)) hfit.2.2.2.1 hl6 hnow0 hq1) hA)
      have C16 := Lib.hid (fun w' (b : Below W.heap.size W w') => RetL.of (rask_any now _ l owner shared ticks w' (HVL.out.below b (Nat.le_refl _)) hfit hfit.2.2.2.1 hl5 hnow0 hq1) hA)
      have C10 := Lib.hid (fun w' (b : Below W.heap.size W w') => RetL.of (renew_any now _ l owner ticks w' (HVL.out.below b (Nat.le_refl _)) hfit.2.2.2.1 hl6 hnow0 hq1) hR)
      have C17 := Lib.hid (fun w' (b : Below W.heap.size W w') => RetL.of (rrenew_any now _ l owner ticks w' (HVL.out.below b (Nat.le_refl _)) hfit.2.2.2.1 hl5 hnow0 hq1) hR)
      have C18 := Lib.hid (fun w' (b : Below W.heap.size W w') => RetL.of (release_any now _ l owner w' (HVL.out.below b (Nat.le_refl _)) hfit.2.2.2.1 hl6) hS)
      have C19 := Lib.hid (fun w' (b : Below W.heap.size W w') => RetL.of (rrelease_any now _ l owner w' (HVL.out.below b (Nat.le_refl _)) hfit.2.2.2.1 hl5) hS)
      have C21 := Lib.hid (fun w' (b : Below W.heap.size W w') => RetL.of (turn_any now _ l owner shared w' (HVL.out.below b (Nat.le_refl _)) hfit.2.2.2.1 hl6) hT)
      have C22 := Lib.hid (fun w' (b : Below W.heap.size W w') => RetL.of (rturn_any now _ l owner shared w' (HVL.out.below b (Nat.le_refl _)) hfit.2.2.2.1 hl5) hT)
      have C8 := Lib.hid (fun w' (b : Below W.heap.size W w') => RetU.of (pass_any now _ l ticks w' (HVL.out.below b (Nat.le_refl _)) hl5 hnow0 hq1))
      have C20 := Lib.hid (fun w' (b : Below W.heap.size W w') => RetU.of (rpass_any now _ l ticks w' (HVL.out.below b (Nat.le_refl _)) hl5 hnow0 hq1))
      rw [← hp, ← hlp, ← hus] at C8 C20
      obtain ⟨hld, hhd⟩ : ∃ hld, hld = hasO l owner := ⟨_, rfl⟩
      obtain ⟨aln, han⟩ : ∃ aln, aln = (hasO l owner && !(l[placeO l owner]?.map Lk.s).getD false) := ⟨_, rfl⟩
      have C9 := Lib.hid (fun w' (b : Below W.heap.size W w') => holdsL_any now _ l owner w' (HVL.out.1.below b (Nat.le_refl _)) hfit.2.2.2.1 (by omega))
      have C23 := Lib.hid (fun w' (b : Below W.heap.size W w') => rholds_any now _ l owner w' (HVL.out.1.below b (Nat.le_refl _)) hfit.2.2.2.1 hl6)
      rw [← han, ← hhd] at C9 C23
      unfold Lc at C7 C16 C10 C17 C18 C19 C21 C22 C8 C20 C9 C23
      clear hA hR hS hT hp hlp hus hhd han hfit hl5 hl6 hq1 hnow0 hnow1
      obtain ⟨X0, X1, hlt⟩ := HLb.out
      go_wp2_with fail
      have HXL := HLb
      have HBB := HB1'
      clear X0 X1 hlt HLb HB1'
      refine (C7.out _ HBB.out).mono ?_
      rintro e v1 ⟨Aa, cca, rfl, hL, bb⟩
      have HXL : Hid (BoxL v1 b0 now (.slice A1 n c1)) := HXL.out.below bb
      have HBB : Hid (Below W.heap.size W v1) := HBB.out.trans (bb.mono HBB.out.size)
      have HKa := Lib.hid hL
      clear bb hL
      obtain ⟨o00, o01, o0l⟩ := HXL.out
      go_wp2_with fail
      clear o00 o01 o0l
      obtain ⟨y1, hy1⟩ : ∃ y1, y1 = v1.alloc (.cells #[.int .i64 now, .slice Aa la.length cca] 27) := ⟨_, rfl⟩
      have hal : Below v1.heap.size v1 y1 := by rw [hy1]; exact (Below.refl _ _).alloc (Nat.le_refl _) _
      have hnb : BoxL y1 v1.heap.size now (.slice Aa la.length cca) := by rw [hy1]; exact BoxL.new _ _ _
      rw [← hy1]
      have HXL : Hid (BoxL y1 b0 now (.slice A1 n c1)) := HXL.out.below hal
      have HKa : Hid (LksN y1 (.slice Aa la.length cca) la) := HKa.out.below hal (Nat.le_refl _)
      have HBB : Hid (Below W.heap.size W y1) := HBB.out.trans (hal.mono HBB.out.size)
      obtain ⟨p1, hp1⟩ : ∃ p1, p1 = v1.heap.size := ⟨_, rfl⟩
      rw [← hp1] at hnb
      rw [← hp1]
      have HXa := Lib.hid hnb
      clear hal hnb hy1 hp1
      refine (C16.out _ HBB.out).mono ?_
      rintro e v2 ⟨Ab, ccb, rfl, hL, bb⟩
      have HXL : Hid (BoxL v2 b0 now (.slice A1 n c1)) := HXL.out.below bb
      have HXa : Hid (BoxL v2 p1 now (.slice Aa la.length cca)) := HXa.out.below bb
      have HKa : Hid (LksN v2 (.slice Aa la.length cca) la) := HKa.out.below bb (Nat.le_refl _)
      have HBB : Hid (Below W.heap.size W v2) := HBB.out.trans (bb.mono HBB.out.size)
      have HKb := Lib.hid hL
      clear bb hL
      obtain ⟨o00, o01, o0l⟩ := HXL.out
      go_wp2_with fail
      clear o00 o01 o0l
      obtain ⟨y2, hy2⟩ : ∃ y2, y2 = v2.alloc (.cells #[.int .i64 now, .slice Ab la.length ccb] 27) := ⟨_, rfl⟩
      have hal : Below v2.heap.size v2 y2 := by rw [hy2]; exact (Below.refl _ _).alloc (Nat.le_refl _) _
      have hnb : BoxL y2 v2.heap.size now (.slice Ab la.length ccb) := by rw [hy2]; exact BoxL.new _ _ _
      rw [← hy2]
      have HXL : Hid (BoxL y2 b0 now (.slice A1 n c1)) := HXL.out.below hal
      have HXa : Hid (BoxL y2 p1 now (.slice Aa la.length cca)) := HXa.out.below hal
      have HKa : Hid (LksN y2 (.slice Aa la.length cca) la) := HKa.out.below hal (Nat.le_refl _)
      have HKb : Hid (LksN y2 (.slice Ab la.length ccb) la) := HKb.out.below hal (Nat.le_refl _)
      have HBB : Hid (Below W.heap.size W y2) := HBB.out.trans (hal.mono HBB.out.size)
      obtain ⟨p2, hp2⟩ : ∃ p2, p2 = v2.heap.size := ⟨_, rfl⟩
      rw [← hp2] at hnb
      rw [← hp2]
      have HXb := Lib.hid hnb
      clear hal hnb hy2 hp2
      refine (C10.out _ HBB.out).mono ?_
      rintro e v3 ⟨Ac, ccc, rfl, hL, bb⟩
      have HXL : Hid (BoxL v3 b0 now (.slice A1 n c1)) := HXL.out.below bb
      have HXa : Hid (BoxL v3 p1 now (.slice Aa la.length cca)) := HXa.out.below bb
      have HXb : Hid (BoxL v3 p2 now (.slice Ab la.length ccb)) := HXb.out.below bb
      have HKa : Hid (LksN v3 (.slice Aa la.length cca) la) := HKa.out.below bb (Nat.le_refl _)
      have HKb : Hid (LksN v3 (.slice Ab la.length ccb) la) := HKb.out.below bb (Nat.le_refl _)
      have HBB : Hid (Below W.heap.size W v3) := HBB.out.trans (bb.mono HBB.out.size)
      have HKc := Lib.hid hL
      clear bb hL
      obtain ⟨o00, o01, o0l⟩ := HXL.out
      go_wp2_with fail
      clear o00 o01 o0l
      obtain ⟨y3, hy3⟩ : ∃ y3, y3 = v3.alloc (.cells #[.int .i64 now, .slice Ac lr.length ccc] 27) := ⟨_, rfl⟩
      have hal : Below v3.heap.size v3 y3 := by rw [hy3]; exact (Below.refl _ _).alloc (Nat.le_refl _) _
      have hnb : BoxL y3 v3.heap.size now (.slice Ac lr.length ccc) := by rw [hy3]; exact BoxL.new _ _ _
      rw [← hy3]
      have HXL : Hid (BoxL y3 b0 now (.slice A1 n c1)) := HXL.out.below hal
      have HXa : Hid (BoxL y3 p1 now (.slice Aa la.length cca)) := HXa.out.below hal
      have HXb : Hid (BoxL y3 p2 now (.slice Ab la.length ccb)) := HXb.out.below hal
      have HKa : Hid (LksN y3 (.slice Aa la.length cca) la) := HKa.out.below hal (Nat.le_refl _)
      have HKb : Hid (LksN y3 (.slice Ab la.length ccb) la) := HKb.out.below hal (Nat.le_refl _)
      have HKc : Hid (LksN y3 (.slice Ac lr.length ccc) lr) := HKc.out.below hal (Nat.le_refl _)
      have HBB : Hid (Below W.heap.size W y3) := HBB.out.trans (hal.mono HBB.out.size)
      obtain ⟨p3, hp3⟩ : ∃ p3, p3 = v3.heap.size := ⟨_, rfl⟩
      rw [← hp3] at hnb
      rw [← hp3]
      have HXc := Lib.hid hnb
      clear hal hnb hy3 hp3
      refine (C17.out _ HBB.out).mono ?_
      rintro e v4 ⟨Ad, ccd, rfl, hL, bb⟩
      have HXL : Hid (BoxL v4 b0 now (.slice A1 n c1)) := HXL.out.below bb
      have HXa : Hid (BoxL v4 p1 now (.slice Aa la.length cca)) := HXa.out.below bb
      have HXb : Hid (BoxL v4 p2 now (.slice Ab la.length ccb)) := HXb.out.below bb
      have HXc : Hid (BoxL v4 p3 now (.slice Ac lr.length ccc)) := HXc.out.below bb
      have HKa : Hid (LksN v4 (.slice Aa la.length cca) la) := HKa.out.below bb (Nat.le_refl _)
      have HKb : Hid (LksN v4 (.slice Ab la.length ccb) la) := HKb.out.below bb (Nat.le_refl _)
      have HKc : Hid (LksN v4 (.slice Ac lr.length ccc) lr) := HKc.out.below bb (Nat.le_refl _)
      have HBB : Hid (Below W.heap.size W v4) := HBB.out.trans (bb.mono HBB.out.size)
      have HKd := Lib.hid hL
      clear bb hL
      obtain ⟨o00, o01, o0l⟩ := HXL.out
      go_wp2_with fail
      clear o00 o01 o0l
      obtain ⟨y4, hy4⟩ : ∃ y4, y4 = v4.alloc (.cells #[.int .i64 now, .slice Ad lr.length ccd] 27) := ⟨_, rfl⟩
      have hal : Below v4.heap.size v4 y4 := by rw [hy4]; exact (Below.refl _ _).alloc (Nat.le_refl _) _
      have hnb : BoxL y4 v4.heap.size now (.slice Ad lr.length ccd) := by rw [hy4]; exact BoxL.new _ _ _
      rw [← hy4]
      have HXL : Hid (BoxL y4 b0 now (.slice A1 n c1)) := HXL.out.below hal
      have HXa : Hid (BoxL y4 p1 now (.slice Aa la.length cca)) := HXa.out.below hal
      have HXb : Hid (BoxL y4 p2 now (.slice Ab la.length ccb)) := HXb.out.below hal
      have HXc : Hid (BoxL y4 p3 now (.slice Ac lr.length ccc)) := HXc.out.below hal
      have HKa : Hid (LksN y4 (.slice Aa la.length cca) la) := HKa.out.below hal (Nat.le_refl _)
      have HKb : Hid (LksN y4 (.slice Ab la.length ccb) la) := HKb.out.below hal (Nat.le_refl _)
      have HKc : Hid (LksN y4 (.slice Ac lr.length ccc) lr) := HKc.out.below hal (Nat.le_refl _)
      have HKd : Hid (LksN y4 (.slice Ad lr.length ccd) lr) := HKd.out.below hal (Nat.le_refl _)
      have HBB : Hid (Below W.heap.size W y4) := HBB.out.trans (hal.mono HBB.out.size)
      obtain ⟨p4, hp4⟩ : ∃ p4, p4 = v4.heap.size := ⟨_, rfl⟩
      rw [← hp4] at hnb
      rw [← hp4]
      have HXd := Lib.hid hnb
      clear hal hnb hy4 hp4
      refine (C18.out _ HBB.out).mono ?_
      rintro e v5 ⟨Ai, cci, rfl, hL, bb⟩
      have HXL : Hid (BoxL v5 b0 now (.slice A1 n c1)) := HXL.out.below bb
      have HXa : Hid (BoxL v5 p1 now (.slice Aa la.length cca)) := HXa.out.below bb
      have HXb : Hid (BoxL v5 p2 now (.slice Ab la.length ccb)) := HXb.out.below bb
      have HXc : Hid (BoxL v5 p3 now (.slice Ac lr.length ccc)) := HXc.out.below bb
      have HXd : Hid (BoxL v5 p4 now (.slice Ad lr.length ccd)) := HXd.out.below bb
      have HKa : Hid (LksN v5 (.slice Aa la.length cca) la) := HKa.out.below bb (Nat.le_refl _)
      have HKb : Hid (LksN v5 (.slice Ab la.length ccb) la) := HKb.out.below bb (Nat.le_refl _)
      have HKc : Hid (LksN v5 (.slice Ac lr.length ccc) lr) := HKc.out.below bb (Nat.le_refl _)
      have HKd : Hid (LksN v5 (.slice Ad lr.length ccd) lr) := HKd.out.below bb (Nat.le_refl _)
      have HBB : Hid (Below W.heap.size W v5) := HBB.out.trans (bb.mono HBB.out.size)
      have HKi := Lib.hid hL
      clear bb hL
      obtain ⟨o00, o01, o0l⟩ := HXL.out
      go_wp2_with fail
      clear o00 o01 o0l
      obtain ⟨y5, hy5⟩ : ∃ y5, y5 = v5.alloc (.cells #[.int .i64 now, .slice Ai ls.length cci] 27) := ⟨_, rfl⟩
      have hal : Below v5.heap.size v5 y5 := by rw [hy5]; exact (Below.refl _ _).alloc (Nat.le_refl _) _
      have hnb : BoxL y5 v5.heap.size now (.slice Ai ls.length cci) := by rw [hy5]; exact BoxL.new _ _ _
      rw [← hy5]
      have HXL : Hid (BoxL y5 b0 now (.slice A1 n c1)) := HXL.out.below hal
      have HXa : Hid (BoxL y5 p1 now (.slice Aa la.length cca)) := HXa.out.below hal
      have HXb : Hid (BoxL y5 p2 now (.slice Ab la.length ccb)) := HXb.out.below hal
      have HXc : Hid (BoxL y5 p3 now (.slice Ac lr.length ccc)) := HXc.out.below hal
      have HXd : Hid (BoxL y5 p4 now (.slice Ad lr.length ccd)) := HXd.out.below hal
      have HKa : Hid (LksN y5 (.slice Aa la.length cca) la) := HKa.out.below hal (Nat.le_refl _)
      have HKb : Hid (LksN y5 (.slice Ab la.length ccb) la) := HKb.out.below hal (Nat.le_refl _)
      have HKc : Hid (LksN y5 (.slice Ac lr.length ccc) lr) := HKc.out.below hal (Nat.le_refl _)
      have HKd : Hid (LksN y5 (.slice Ad lr.length ccd) lr) := HKd.out.below hal (Nat.le_refl _)
      have HKi : Hid (LksN y5 (.slice Ai ls.length cci) ls) := HKi.out.below hal (Nat.le_refl _)
      have HBB : Hid (Below W.heap.size W y5) := HBB.out.trans (hal.mono HBB.out.size)
      obtain ⟨p5, hp5⟩ : ∃ p5, p5 = v5.heap.size := ⟨_, rfl⟩
      rw [← hp5] at hnb
      rw [← hp5]
      have HXi := Lib.hid hnb
      clear hal hnb hy5 hp5
      refine (C19.out _ HBB.out).mono ?_
      rintro e v6 ⟨Ak, cck, rfl, hL, bb⟩
      have HXL : Hid (BoxL v6 b0 now (.slice A1 n c1)) := HXL.out.below bb
      have HXa : Hid (BoxL v6 p1 now (.slice Aa la.length cca)) := HXa.out.below bb
      have HXb : Hid (BoxL v6 p2 now (.slice Ab la.length ccb)) := HXb.out.below bb
      have HXc : Hid (BoxL v6 p3 now (.slice Ac lr.length ccc)) := HXc.out.below bb
      have HXd : Hid (BoxL v6 p4 now (.slice Ad lr.length ccd)) := HXd.out.below bb
      have HXi : Hid (BoxL v6 p5 now (.slice Ai ls.length cci)) := HXi.out.below bb
      have HKa : Hid (LksN v6 (.slice Aa la.length cca) la) := HKa.out.below bb (Nat.le_refl _)
      have HKb : Hid (LksN v6 (.slice Ab la.length ccb) la) := HKb.out.below bb (Nat.le_refl _)
      have HKc : Hid (LksN v6 (.slice Ac lr.length ccc) lr) := HKc.out.below bb (Nat.le_refl _)
      have HKd : Hid (LksN v6 (.slice Ad lr.length ccd) lr) := HKd.out.below bb (Nat.le_refl _)
      have HKi : Hid (LksN v6 (.slice Ai ls.length cci) ls) := HKi.out.below bb (Nat.le_refl _)
      have HBB : Hid (Below W.heap.size W v6) := HBB.out.trans (bb.mono HBB.out.size)
      have HKk := Lib.hid hL
      clear bb hL
      obtain ⟨o00, o01, o0l⟩ := HXa.out
      obtain ⟨o10, o11, o1l⟩ := HXb.out
      go_wp2_with fail
      clear o00 o01 o0l
      clear o10 o11 o1l
      obtain ⟨y6, hy6⟩ : ∃ y6, y6 = v6.alloc (.cells #[.int .i64 now, .slice Ak ls.length cck] 27) := ⟨_, rfl⟩
      have hal : Below v6.heap.size v6 y6 := by rw [hy6]; exact (Below.refl _ _).alloc (Nat.le_refl _) _
      have hnb : BoxL y6 v6.heap.size now (.slice Ak ls.length cck) := by rw [hy6]; exact BoxL.new _ _ _
      rw [← hy6]
      have HXL : Hid (BoxL y6 b0 now (.slice A1 n c1)) := HXL.out.below hal
      have HXa : Hid (BoxL y6 p1 now (.slice Aa la.length cca)) := HXa.out.below hal
      have HXb : Hid (BoxL y6 p2 now (.slice Ab la.length ccb)) := HXb.out.below hal
      have HXc : Hid (BoxL y6 p3 now (.slice Ac lr.length ccc)) := HXc.out.below hal
      have HXd : Hid (BoxL y6 p4 now (.slice Ad lr.length ccd)) := HXd.out.below hal
      have HXi : Hid (BoxL y6 p5 now (.slice Ai ls.length cci)) := HXi.out.below hal
      have HKa : Hid (LksN y6 (.slice Aa la.length cca) la) := HKa.out.below hal (Nat.le_refl _)
      have HKb : Hid (LksN y6 (.slice Ab la.length ccb) la) := HKb.out.below hal (Nat.le_refl _)
      have HKc : Hid (LksN y6 (.slice Ac lr.length ccc) lr) := HKc.out.below hal (Nat.le_refl _)
      have HKd : Hid (LksN y6 (.slice Ad lr.length ccd) lr) := HKd.out.below hal (Nat.le_refl _)
      have HKi : Hid (LksN y6 (.slice Ai ls.length cci) ls) := HKi.out.below hal (Nat.le_refl _)
      have HKk : Hid (LksN y6 (.slice Ak ls.length cck) ls) := HKk.out.below hal (Nat.le_refl _)
      have HBB : Hid (Below W.heap.size W y6) := HBB.out.trans (hal.mono HBB.out.size)
      obtain ⟨p6, hp6⟩ : ∃ p6, p6 = v6.heap.size := ⟨_, rfl⟩
      rw [← hp6] at hnb
      rw [← hp6]
      have HXk := Lib.hid hnb
      clear hal hnb hy6 hp6
      have zea : ((ea : Int) != ea) = false := by simp
      have zer : ((er : Int) != er) = false := by simp
      have zes : ((es : Int) != es) = false := by simp
      refine (sameT now HKa.out.1 HKb.out.1).mono ?_
      rintro e v7 ⟨rfl, bb⟩
      have HXL : Hid (BoxL v7 b0 now (.slice A1 n c1)) := HXL.out.below bb
      have HXa : Hid (BoxL v7 p1 now (.slice Aa la.length cca)) := HXa.out.below bb
      have HXb : Hid (BoxL v7 p2 now (.slice Ab la.length ccb)) := HXb.out.below bb
      have HXc : Hid (BoxL v7 p3 now (.slice Ac lr.length ccc)) := HXc.out.below bb
      have HXd : Hid (BoxL v7 p4 now (.slice Ad lr.length ccd)) := HXd.out.below bb
      have HXi : Hid (BoxL v7 p5 now (.slice Ai ls.length cci)) := HXi.out.below bb
      have HXk : Hid (BoxL v7 p6 now (.slice Ak ls.length cck)) := HXk.out.below bb
      have HKa : Hid (LksN v7 (.slice Aa la.length cca) la) := HKa.out.below bb (Nat.le_refl _)
      have HKb : Hid (LksN v7 (.slice Ab la.length ccb) la) := HKb.out.below bb (Nat.le_refl _)
      have HKc : Hid (LksN v7 (.slice Ac lr.length ccc) lr) := HKc.out.below bb (Nat.le_refl _)
      have HKd : Hid (LksN v7 (.slice Ad lr.length ccd) lr) := HKd.out.below bb (Nat.le_refl _)
      have HKi : Hid (LksN v7 (.slice Ai ls.length cci) ls) := HKi.out.below bb (Nat.le_refl _)
      have HKk : Hid (LksN v7 (.slice Ak ls.length cck) ls) := HKk.out.below bb (Nat.le_refl _)
      have HBB : Hid (Below W.heap.size W v7) := HBB.out.trans (bb.mono HBB.out.size)
      clear bb
      obtain ⟨o00, o01, o0l⟩ := HXc.out
      obtain ⟨o10, o11, o1l⟩ := HXd.out
      go_wp2_with fail
      clear o00 o01 o0l
      clear o10 o11 o1l
      refine (sameT now HKc.out.1 HKd.out.1).mono ?_
      rintro e v8 ⟨rfl, bb⟩
      have HXL : Hid (BoxL v8 b0 now (.slice A1 n c1)) := HXL.out.below bb
      have HXa : Hid (BoxL v8 p1 now (.slice Aa la.length cca)) := HXa.out.below bb
      have HXb : Hid (BoxL v8 p2 now (.slice Ab la.length ccb)) := HXb.out.below bb
      have HXc : Hid (BoxL v8 p3 now (.slice Ac lr.length ccc)) := HXc.out.below bb
      have HXd : Hid (BoxL v8 p4 now (.slice Ad lr.length ccd)) := HXd.out.below bb
      have HXi : Hid (BoxL v8 p5 now (.slice Ai ls.length cci)) := HXi.out.below bb
      have HXk : Hid (BoxL v8 p6 now (.slice Ak ls.length cck)) := HXk.out.below bb
      have HKa : Hid (LksN v8 (.slice Aa la.length cca) la) := HKa.out.below bb (Nat.le_refl _)
      have HKb : Hid (LksN v8 (.slice Ab la.length ccb) la) := HKb.out.below bb (Nat.le_refl _)
      have HKc : Hid (LksN v8 (.slice Ac lr.length ccc) lr) := HKc.out.below bb (Nat.le_refl _)
      have HKd : Hid (LksN v8 (.slice Ad lr.length ccd) lr) := HKd.out.below bb (Nat.le_refl _)
      have HKi : Hid (LksN v8 (.slice Ai ls.length cci) ls) := HKi.out.below bb (Nat.le_refl _)
      have HKk : Hid (LksN v8 (.slice Ak ls.length cck) ls) := HKk.out.below bb (Nat.le_refl _)
      have HBB : Hid (Below W.heap.size W v8) := HBB.out.trans (bb.mono HBB.out.size)
      clear bb
      obtain ⟨o00, o01, o0l⟩ := HXi.out
      obtain ⟨o10, o11, o1l⟩ := HXk.out
      go_wp2_with fail
      clear o00 o01 o0l
      clear o10 o11 o1l
      refine (sameT now HKi.out.1 HKk.out.1).mono ?_
      rintro e v9 ⟨rfl, bb⟩
      have HXL : Hid (BoxL v9 b0 now (.slice A1 n c1)) := HXL.out.below bb
      have HXa : Hid (BoxL v9 p1 now (.slice Aa la.length cca)) := HXa.out.below bb
      have HXb : Hid (BoxL v9 p2 now (.slice Ab la.length ccb)) := HXb.out.below bb
      have HXc : Hid (BoxL v9 p3 now (.slice Ac lr.length ccc)) := HXc.out.below bb
      have HXd : Hid (BoxL v9 p4 now (.slice Ad lr.length ccd)) := HXd.out.below bb
      have HXi : Hid (BoxL v9 p5 now (.slice Ai ls.length cci)) := HXi.out.below bb
      have HXk : Hid (BoxL v9 p6 now (.slice Ak ls.length cck)) := HXk.out.below bb
      have HKa : Hid (LksN v9 (.slice Aa la.length cca) la) := HKa.out.below bb (Nat.le_refl _)
      have HKb : Hid (LksN v9 (.slice Ab la.length ccb) la) := HKb.out.below bb (Nat.le_refl _)
      have HKc : Hid (LksN v9 (.slice Ac lr.length ccc) lr) := HKc.out.below bb (Nat.le_refl _)
      have HKd : Hid (LksN v9 (.slice Ad lr.length ccd) lr) := HKd.out.below bb (Nat.le_refl _)
      have HKi : Hid (LksN v9 (.slice Ai ls.length cci) ls) := HKi.out.below bb (Nat.le_refl _)
      have HKk : Hid (LksN v9 (.slice Ak ls.length cck) ls) := HKk.out.below bb (Nat.le_refl _)
      have HBB : Hid (Below W.heap.size W v9) := HBB.out.trans (bb.mono HBB.out.size)
      clear bb
      obtain ⟨o00, o01, o0l⟩ := HXa.out
      go_wp2_with fail
      clear o00 o01 o0l
      refine (fit_calls (fb := true) (rfit_any now _ _ _ HKa.out.1) ⟨fun _ => HfA.out, fun _ => rfl⟩).mono ?_
      rintro e v10 ⟨rfl, bb⟩
      have HXL : Hid (BoxL v10 b0 now (.slice A1 n c1)) := HXL.out.below bb
      have HXa : Hid (BoxL v10 p1 now (.slice Aa la.length cca)) := HXa.out.below bb
      have HXb : Hid (BoxL v10 p2 now (.slice Ab la.length ccb)) := HXb.out.below bb
      have HXc : Hid (BoxL v10 p3 now (.slice Ac lr.length ccc)) := HXc.out.below bb
      have HXd : Hid (BoxL v10 p4 now (.slice Ad lr.length ccd)) := HXd.out.below bb
      have HXi : Hid (BoxL v10 p5 now (.slice Ai ls.length cci)) := HXi.out.below bb
      have HXk : Hid (BoxL v10 p6 now (.slice Ak ls.length cck)) := HXk.out.below bb
      have HKa : Hid (LksN v10 (.slice Aa la.length cca) la) := HKa.out.below bb (Nat.le_refl _)
      have HKb : Hid (LksN v10 (.slice Ab la.length ccb) la) := HKb.out.below bb (Nat.le_refl _)
      have HKc : Hid (LksN v10 (.slice Ac lr.length ccc) lr) := HKc.out.below bb (Nat.le_refl _)
      have HKd : Hid (LksN v10 (.slice Ad lr.length ccd) lr) := HKd.out.below bb (Nat.le_refl _)
      have HKi : Hid (LksN v10 (.slice Ai ls.length cci) ls) := HKi.out.below bb (Nat.le_refl _)
      have HKk : Hid (LksN v10 (.slice Ak ls.length cck) ls) := HKk.out.below bb (Nat.le_refl _)
      have HBB : Hid (Below W.heap.size W v10) := HBB.out.trans (bb.mono HBB.out.size)
      clear bb
      obtain ⟨o00, o01, o0l⟩ := HXc.out
      go_wp2_with fail
      clear o00 o01 o0l
      refine (fit_calls (fb := true) (rfit_any now _ _ _ HKc.out.1) ⟨fun _ => HfR.out, fun _ => rfl⟩).mono ?_
      rintro e v11 ⟨rfl, bb⟩
      have HXL : Hid (BoxL v11 b0 now (.slice A1 n c1)) := HXL.out.below bb
      have HXa : Hid (BoxL v11 p1 now (.slice Aa la.length cca)) := HXa.out.below bb
      have HXb : Hid (BoxL v11 p2 now (.slice Ab la.length ccb)) := HXb.out.below bb
      have HXc : Hid (BoxL v11 p3 now (.slice Ac lr.length ccc)) := HXc.out.below bb
      have HXd : Hid (BoxL v11 p4 now (.slice Ad lr.length ccd)) := HXd.out.below bb
      have HXi : Hid (BoxL v11 p5 now (.slice Ai ls.length cci)) := HXi.out.below bb
      have HXk : Hid (BoxL v11 p6 now (.slice Ak ls.length cck)) := HXk.out.below bb
      have HKa : Hid (LksN v11 (.slice Aa la.length cca) la) := HKa.out.below bb (Nat.le_refl _)
      have HKb : Hid (LksN v11 (.slice Ab la.length ccb) la) := HKb.out.below bb (Nat.le_refl _)
      have HKc : Hid (LksN v11 (.slice Ac lr.length ccc) lr) := HKc.out.below bb (Nat.le_refl _)
      have HKd : Hid (LksN v11 (.slice Ad lr.length ccd) lr) := HKd.out.below bb (Nat.le_refl _)
      have HKi : Hid (LksN v11 (.slice Ai ls.length cci) ls) := HKi.out.below bb (Nat.le_refl _)
      have HKk : Hid (LksN v11 (.slice Ak ls.length cck) ls) := HKk.out.below bb (Nat.le_refl _)
      have HBB : Hid (Below W.heap.size W v11) := HBB.out.trans (bb.mono HBB.out.size)
      clear bb
      obtain ⟨o00, o01, o0l⟩ := HXi.out
      go_wp2_with fail
      clear o00 o01 o0l
      refine (fit_calls (fb := true) (rfit_any now _ _ _ HKi.out.1) ⟨fun _ => HfS.out, fun _ => rfl⟩).mono ?_
      rintro e v12 ⟨rfl, bb⟩
      have HXL : Hid (BoxL v12 b0 now (.slice A1 n c1)) := HXL.out.below bb
      have HXa : Hid (BoxL v12 p1 now (.slice Aa la.length cca)) := HXa.out.below bb
      have HXb : Hid (BoxL v12 p2 now (.slice Ab la.length ccb)) := HXb.out.below bb
      have HXc : Hid (BoxL v12 p3 now (.slice Ac lr.length ccc)) := HXc.out.below bb
      have HXd : Hid (BoxL v12 p4 now (.slice Ad lr.length ccd)) := HXd.out.below bb
      have HXi : Hid (BoxL v12 p5 now (.slice Ai ls.length cci)) := HXi.out.below bb
      have HXk : Hid (BoxL v12 p6 now (.slice Ak ls.length cck)) := HXk.out.below bb
      have HKa : Hid (LksN v12 (.slice Aa la.length cca) la) := HKa.out.below bb (Nat.le_refl _)
      have HKb : Hid (LksN v12 (.slice Ab la.length ccb) la) := HKb.out.below bb (Nat.le_refl _)
      have HKc : Hid (LksN v12 (.slice Ac lr.length ccc) lr) := HKc.out.below bb (Nat.le_refl _)
      have HKd : Hid (LksN v12 (.slice Ad lr.length ccd) lr) := HKd.out.below bb (Nat.le_refl _)
      have HKi : Hid (LksN v12 (.slice Ai ls.length cci) ls) := HKi.out.below bb (Nat.le_refl _)
      have HKk : Hid (LksN v12 (.slice Ak ls.length cck) ls) := HKk.out.below bb (Nat.le_refl _)
      have HBB : Hid (Below W.heap.size W v12) := HBB.out.trans (bb.mono HBB.out.size)
      clear bb
      obtain ⟨o00, o01, o0l⟩ := HXL.out
      go_wp2_with fail
      clear o00 o01 o0l
      refine (C8.out _ HBB.out).mono ?_
      rintro e v13 ⟨Ao, cco, Buo, duo, rfl, hL, hU, bb⟩
      have HXL : Hid (BoxL v13 b0 now (.slice A1 n c1)) := HXL.out.below bb
      have HXa : Hid (BoxL v13 p1 now (.slice Aa la.length cca)) := HXa.out.below bb
      have HXb : Hid (BoxL v13 p2 now (.slice Ab la.length ccb)) := HXb.out.below bb
      have HXc : Hid (BoxL v13 p3 now (.slice Ac lr.length ccc)) := HXc.out.below bb
      have HXd : Hid (BoxL v13 p4 now (.slice Ad lr.length ccd)) := HXd.out.below bb
      have HXi : Hid (BoxL v13 p5 now (.slice Ai ls.length cci)) := HXi.out.below bb
      have HXk : Hid (BoxL v13 p6 now (.slice Ak ls.length cck)) := HXk.out.below bb
      have HKa : Hid (LksN v13 (.slice Aa la.length cca) la) := HKa.out.below bb (Nat.le_refl _)
      have HKb : Hid (LksN v13 (.slice Ab la.length ccb) la) := HKb.out.below bb (Nat.le_refl _)
      have HKc : Hid (LksN v13 (.slice Ac lr.length ccc) lr) := HKc.out.below bb (Nat.le_refl _)
      have HKd : Hid (LksN v13 (.slice Ad lr.length ccd) lr) := HKd.out.below bb (Nat.le_refl _)
      have HKi : Hid (LksN v13 (.slice Ai ls.length cci) ls) := HKi.out.below bb (Nat.le_refl _)
      have HKk : Hid (LksN v13 (.slice Ak ls.length cck) ls) := HKk.out.below bb (Nat.le_refl _)
      have HBB : Hid (Below W.heap.size W v13) := HBB.out.trans (bb.mono HBB.out.size)
      have HKo := Lib.hid hL
      have HUo := Lib.hid hU
      clear hU
      clear bb hL
      obtain ⟨o00, o01, o0l⟩ := HXL.out
      go_wp2_with fail
      clear o00 o01 o0l
      obtain ⟨y13, hy13⟩ : ∃ y13, y13 = v13.alloc (.cells #[.int .i64 now2, .slice Ao lp.length cco] 27) := ⟨_, rfl⟩
      have hal : Below v13.heap.size v13 y13 := by rw [hy13]; exact (Below.refl _ _).alloc (Nat.le_refl _) _
      have hnb : BoxL y13 v13.heap.size now2 (.slice Ao lp.length cco) := by rw [hy13]; exact BoxL.new _ _ _
      rw [← hy13]
      have HXL : Hid (BoxL y13 b0 now (.slice A1 n c1)) := HXL.out.below hal
      have HXa : Hid (BoxL y13 p1 now (.slice Aa la.length cca)) := HXa.out.below hal
      have HXb : Hid (BoxL y13 p2 now (.slice Ab la.length ccb)) := HXb.out.below hal
      have HXc : Hid (BoxL y13 p3 now (.slice Ac lr.length ccc)) := HXc.out.below hal
      have HXd : Hid (BoxL y13 p4 now (.slice Ad lr.length ccd)) := HXd.out.below hal
      have HXi : Hid (BoxL y13 p5 now (.slice Ai ls.length cci)) := HXi.out.below hal
      have HXk : Hid (BoxL y13 p6 now (.slice Ak ls.length cck)) := HXk.out.below hal
      have HKa : Hid (LksN y13 (.slice Aa la.length cca) la) := HKa.out.below hal (Nat.le_refl _)
      have HKb : Hid (LksN y13 (.slice Ab la.length ccb) la) := HKb.out.below hal (Nat.le_refl _)
      have HKc : Hid (LksN y13 (.slice Ac lr.length ccc) lr) := HKc.out.below hal (Nat.le_refl _)
      have HKd : Hid (LksN y13 (.slice Ad lr.length ccd) lr) := HKd.out.below hal (Nat.le_refl _)
      have HKi : Hid (LksN y13 (.slice Ai ls.length cci) ls) := HKi.out.below hal (Nat.le_refl _)
      have HKk : Hid (LksN y13 (.slice Ak ls.length cck) ls) := HKk.out.below hal (Nat.le_refl _)
      have HKo : Hid (LksN y13 (.slice Ao lp.length cco) lp) := HKo.out.below hal (Nat.le_refl _)
      have HUo : Hid (UsB y13 (.slice Buo us.length duo) us) := HUo.out.below hal (Nat.le_refl _)
      have HBB : Hid (Below W.heap.size W y13) := HBB.out.trans (hal.mono HBB.out.size)
      obtain ⟨p13, hp13⟩ : ∃ p13, p13 = v13.heap.size := ⟨_, rfl⟩
      rw [← hp13] at hnb
      rw [← hp13]
      have HXo := Lib.hid hnb
      clear hal hnb hy13 hp13
      refine (C20.out _ HBB.out).mono ?_
      rintro e v14 ⟨Aq, ccq, Buq, duq, rfl, hL, hU, bb⟩
      have HXL : Hid (BoxL v14 b0 now (.slice A1 n c1)) := HXL.out.below bb
      have HXa : Hid (BoxL v14 p1 now (.slice Aa la.length cca)) := HXa.out.below bb
      have HXb : Hid (BoxL v14 p2 now (.slice Ab la.length ccb)) := HXb.out.below bb
      have HXc : Hid (BoxL v14 p3 now (.slice Ac lr.length ccc)) := HXc.out.below bb
      have HXd : Hid (BoxL v14 p4 now (.slice Ad lr.length ccd)) := HXd.out.below bb
      have HXi : Hid (BoxL v14 p5 now (.slice Ai ls.length cci)) := HXi.out.below bb
      have HXk : Hid (BoxL v14 p6 now (.slice Ak ls.length cck)) := HXk.out.below bb
      have HXo : Hid (BoxL v14 p13 now2 (.slice Ao lp.length cco)) := HXo.out.below bb
      have HKa : Hid (LksN v14 (.slice Aa la.length cca) la) := HKa.out.below bb (Nat.le_refl _)
      have HKb : Hid (LksN v14 (.slice Ab la.length ccb) la) := HKb.out.below bb (Nat.le_refl _)
      have HKc : Hid (LksN v14 (.slice Ac lr.length ccc) lr) := HKc.out.below bb (Nat.le_refl _)
      have HKd : Hid (LksN v14 (.slice Ad lr.length ccd) lr) := HKd.out.below bb (Nat.le_refl _)
      have HKi : Hid (LksN v14 (.slice Ai ls.length cci) ls) := HKi.out.below bb (Nat.le_refl _)
      have HKk : Hid (LksN v14 (.slice Ak ls.length cck) ls) := HKk.out.below bb (Nat.le_refl _)
      have HKo : Hid (LksN v14 (.slice Ao lp.length cco) lp) := HKo.out.below bb (Nat.le_refl _)
      have HUo : Hid (UsB v14 (.slice Buo us.length duo) us) := HUo.out.below bb (Nat.le_refl _)
      have HBB : Hid (Below W.heap.size W v14) := HBB.out.trans (bb.mono HBB.out.size)
      have HKq := Lib.hid hL
      have HUq := Lib.hid hU
      clear hU
      clear bb hL
      obtain ⟨o00, o01, o0l⟩ := HXL.out
      go_wp2_with fail
      clear o00 o01 o0l
      obtain ⟨y14, hy14⟩ : ∃ y14, y14 = v14.alloc (.cells #[.int .i64 now2, .slice Aq lp.length ccq] 27) := ⟨_, rfl⟩
      have hal : Below v14.heap.size v14 y14 := by rw [hy14]; exact (Below.refl _ _).alloc (Nat.le_refl _) _
      have hnb : BoxL y14 v14.heap.size now2 (.slice Aq lp.length ccq) := by rw [hy14]; exact BoxL.new _ _ _
      rw [← hy14]
      have HXL : Hid (BoxL y14 b0 now (.slice A1 n c1)) := HXL.out.below hal
      have HXa : Hid (BoxL y14 p1 now (.slice Aa la.length cca)) := HXa.out.below hal
      have HXb : Hid (BoxL y14 p2 now (.slice Ab la.length ccb)) := HXb.out.below hal
      have HXc : Hid (BoxL y14 p3 now (.slice Ac lr.length ccc)) := HXc.out.below hal
      have HXd : Hid (BoxL y14 p4 now (.slice Ad lr.length ccd)) := HXd.out.below hal
      have HXi : Hid (BoxL y14 p5 now (.slice Ai ls.length cci)) := HXi.out.below hal
      have HXk : Hid (BoxL y14 p6 now (.slice Ak ls.length cck)) := HXk.out.below hal
      have HXo : Hid (BoxL y14 p13 now2 (.slice Ao lp.length cco)) := HXo.out.below hal
      have HKa : Hid (LksN y14 (.slice Aa la.length cca) la) := HKa.out.below hal (Nat.le_refl _)
      have HKb : Hid (LksN y14 (.slice Ab la.length ccb) la) := HKb.out.below hal (Nat.le_refl _)
      have HKc : Hid (LksN y14 (.slice Ac lr.length ccc) lr) := HKc.out.below hal (Nat.le_refl _)
      have HKd : Hid (LksN y14 (.slice Ad lr.length ccd) lr) := HKd.out.below hal (Nat.le_refl _)
      have HKi : Hid (LksN y14 (.slice Ai ls.length cci) ls) := HKi.out.below hal (Nat.le_refl _)
      have HKk : Hid (LksN y14 (.slice Ak ls.length cck) ls) := HKk.out.below hal (Nat.le_refl _)
      have HKo : Hid (LksN y14 (.slice Ao lp.length cco) lp) := HKo.out.below hal (Nat.le_refl _)
      have HKq : Hid (LksN y14 (.slice Aq lp.length ccq) lp) := HKq.out.below hal (Nat.le_refl _)
      have HUo : Hid (UsB y14 (.slice Buo us.length duo) us) := HUo.out.below hal (Nat.le_refl _)
      have HUq : Hid (UsB y14 (.slice Buq us.length duq) us) := HUq.out.below hal (Nat.le_refl _)
      have HBB : Hid (Below W.heap.size W y14) := HBB.out.trans (hal.mono HBB.out.size)
      obtain ⟨p14, hp14⟩ : ∃ p14, p14 = v14.heap.size := ⟨_, rfl⟩
      rw [← hp14] at hnb
      rw [← hp14]
      have HXq := Lib.hid hnb
      clear hal hnb hy14 hp14
      refine (C21.out _ HBB.out).mono ?_
      rintro e v15 ⟨As, ccs, rfl, hL, bb⟩
      have HXL : Hid (BoxL v15 b0 now (.slice A1 n c1)) := HXL.out.below bb
      have HXa : Hid (BoxL v15 p1 now (.slice Aa la.length cca)) := HXa.out.below bb
      have HXb : Hid (BoxL v15 p2 now (.slice Ab la.length ccb)) := HXb.out.below bb
      have HXc : Hid (BoxL v15 p3 now (.slice Ac lr.length ccc)) := HXc.out.below bb
      have HXd : Hid (BoxL v15 p4 now (.slice Ad lr.length ccd)) := HXd.out.below bb
      have HXi : Hid (BoxL v15 p5 now (.slice Ai ls.length cci)) := HXi.out.below bb
      have HXk : Hid (BoxL v15 p6 now (.slice Ak ls.length cck)) := HXk.out.below bb
      have HXo : Hid (BoxL v15 p13 now2 (.slice Ao lp.length cco)) := HXo.out.below bb
      have HXq : Hid (BoxL v15 p14 now2 (.slice Aq lp.length ccq)) := HXq.out.below bb
      have HKa : Hid (LksN v15 (.slice Aa la.length cca) la) := HKa.out.below bb (Nat.le_refl _)
      have HKb : Hid (LksN v15 (.slice Ab la.length ccb) la) := HKb.out.below bb (Nat.le_refl _)
      have HKc : Hid (LksN v15 (.slice Ac lr.length ccc) lr) := HKc.out.below bb (Nat.le_refl _)
      have HKd : Hid (LksN v15 (.slice Ad lr.length ccd) lr) := HKd.out.below bb (Nat.le_refl _)
      have HKi : Hid (LksN v15 (.slice Ai ls.length cci) ls) := HKi.out.below bb (Nat.le_refl _)
      have HKk : Hid (LksN v15 (.slice Ak ls.length cck) ls) := HKk.out.below bb (Nat.le_refl _)
      have HKo : Hid (LksN v15 (.slice Ao lp.length cco) lp) := HKo.out.below bb (Nat.le_refl _)
      have HKq : Hid (LksN v15 (.slice Aq lp.length ccq) lp) := HKq.out.below bb (Nat.le_refl _)
      have HUo : Hid (UsB v15 (.slice Buo us.length duo) us) := HUo.out.below bb (Nat.le_refl _)
      have HUq : Hid (UsB v15 (.slice Buq us.length duq) us) := HUq.out.below bb (Nat.le_refl _)
      have HBB : Hid (Below W.heap.size W v15) := HBB.out.trans (bb.mono HBB.out.size)
      have HKs := Lib.hid hL
      clear bb hL
      obtain ⟨o00, o01, o0l⟩ := HXL.out
      go_wp2_with fail
      clear o00 o01 o0l
      obtain ⟨y15, hy15⟩ : ∃ y15, y15 = v15.alloc (.cells #[.int .i64 now, .slice As lt.length ccs] 27) := ⟨_, rfl⟩
      have hal : Below v15.heap.size v15 y15 := by rw [hy15]; exact (Below.refl _ _).alloc (Nat.le_refl _) _
      have hnb : BoxL y15 v15.heap.size now (.slice As lt.length ccs) := by rw [hy15]; exact BoxL.new _ _ _
      rw [← hy15]
      have HXL : Hid (BoxL y15 b0 now (.slice A1 n c1)) := HXL.out.below hal
      have HXa : Hid (BoxL y15 p1 now (.slice Aa la.length cca)) := HXa.out.below hal
      have HXb : Hid (BoxL y15 p2 now (.slice Ab la.length ccb)) := HXb.out.below hal
      have HXc : Hid (BoxL y15 p3 now (.slice Ac lr.length ccc)) := HXc.out.below hal
      have HXd : Hid (BoxL y15 p4 now (.slice Ad lr.length ccd)) := HXd.out.below hal
      have HXi : Hid (BoxL y15 p5 now (.slice Ai ls.length cci)) := HXi.out.below hal
      have HXk : Hid (BoxL y15 p6 now (.slice Ak ls.length cck)) := HXk.out.below hal
      have HXo : Hid (BoxL y15 p13 now2 (.slice Ao lp.length cco)) := HXo.out.below hal
      have HXq : Hid (BoxL y15 p14 now2 (.slice Aq lp.length ccq)) := HXq.out.below hal
      have HKa : Hid (LksN y15 (.slice Aa la.length cca) la) := HKa.out.below hal (Nat.le_refl _)
      have HKb : Hid (LksN y15 (.slice Ab la.length ccb) la) := HKb.out.below hal (Nat.le_refl _)
      have HKc : Hid (LksN y15 (.slice Ac lr.length ccc) lr) := HKc.out.below hal (Nat.le_refl _)
      have HKd : Hid (LksN y15 (.slice Ad lr.length ccd) lr) := HKd.out.below hal (Nat.le_refl _)
      have HKi : Hid (LksN y15 (.slice Ai ls.length cci) ls) := HKi.out.below hal (Nat.le_refl _)
      have HKk : Hid (LksN y15 (.slice Ak ls.length cck) ls) := HKk.out.below hal (Nat.le_refl _)
      have HKo : Hid (LksN y15 (.slice Ao lp.length cco) lp) := HKo.out.below hal (Nat.le_refl _)
      have HKq : Hid (LksN y15 (.slice Aq lp.length ccq) lp) := HKq.out.below hal (Nat.le_refl _)
      have HKs : Hid (LksN y15 (.slice As lt.length ccs) lt) := HKs.out.below hal (Nat.le_refl _)
      have HUo : Hid (UsB y15 (.slice Buo us.length duo) us) := HUo.out.below hal (Nat.le_refl _)
      have HUq : Hid (UsB y15 (.slice Buq us.length duq) us) := HUq.out.below hal (Nat.le_refl _)
      have HBB : Hid (Below W.heap.size W y15) := HBB.out.trans (hal.mono HBB.out.size)
      obtain ⟨p15, hp15⟩ : ∃ p15, p15 = v15.heap.size := ⟨_, rfl⟩
      rw [← hp15] at hnb
      rw [← hp15]
      have HXs := Lib.hid hnb
      clear hal hnb hy15 hp15
      refine (C22.out _ HBB.out).mono ?_
      rintro e v16 ⟨Au, ccu, rfl, hL, bb⟩
      have HXL : Hid (BoxL v16 b0 now (.slice A1 n c1)) := HXL.out.below bb
      have HXa : Hid (BoxL v16 p1 now (.slice Aa la.length cca)) := HXa.out.below bb
      have HXb : Hid (BoxL v16 p2 now (.slice Ab la.length ccb)) := HXb.out.below bb
      have HXc : Hid (BoxL v16 p3 now (.slice Ac lr.length ccc)) := HXc.out.below bb
      have HXd : Hid (BoxL v16 p4 now (.slice Ad lr.length ccd)) := HXd.out.below bb
      have HXi : Hid (BoxL v16 p5 now (.slice Ai ls.length cci)) := HXi.out.below bb
      have HXk : Hid (BoxL v16 p6 now (.slice Ak ls.length cck)) := HXk.out.below bb
      have HXo : Hid (BoxL v16 p13 now2 (.slice Ao lp.length cco)) := HXo.out.below bb
      have HXq : Hid (BoxL v16 p14 now2 (.slice Aq lp.length ccq)) := HXq.out.below bb
      have HXs : Hid (BoxL v16 p15 now (.slice As lt.length ccs)) := HXs.out.below bb
      have HKa : Hid (LksN v16 (.slice Aa la.length cca) la) := HKa.out.below bb (Nat.le_refl _)
      have HKb : Hid (LksN v16 (.slice Ab la.length ccb) la) := HKb.out.below bb (Nat.le_refl _)
      have HKc : Hid (LksN v16 (.slice Ac lr.length ccc) lr) := HKc.out.below bb (Nat.le_refl _)
      have HKd : Hid (LksN v16 (.slice Ad lr.length ccd) lr) := HKd.out.below bb (Nat.le_refl _)
      have HKi : Hid (LksN v16 (.slice Ai ls.length cci) ls) := HKi.out.below bb (Nat.le_refl _)
      have HKk : Hid (LksN v16 (.slice Ak ls.length cck) ls) := HKk.out.below bb (Nat.le_refl _)
      have HKo : Hid (LksN v16 (.slice Ao lp.length cco) lp) := HKo.out.below bb (Nat.le_refl _)
      have HKq : Hid (LksN v16 (.slice Aq lp.length ccq) lp) := HKq.out.below bb (Nat.le_refl _)
      have HKs : Hid (LksN v16 (.slice As lt.length ccs) lt) := HKs.out.below bb (Nat.le_refl _)
      have HUo : Hid (UsB v16 (.slice Buo us.length duo) us) := HUo.out.below bb (Nat.le_refl _)
      have HUq : Hid (UsB v16 (.slice Buq us.length duq) us) := HUq.out.below bb (Nat.le_refl _)
      have HBB : Hid (Below W.heap.size W v16) := HBB.out.trans (bb.mono HBB.out.size)
      have HKu := Lib.hid hL
      clear bb hL
      obtain ⟨o00, o01, o0l⟩ := HXL.out
      go_wp2_with fail
      clear o00 o01 o0l
      obtain ⟨y16, hy16⟩ : ∃ y16, y16 = v16.alloc (.cells #[.int .i64 now, .slice Au lt.length ccu] 27) := ⟨_, rfl⟩
      have hal : Below v16.heap.size v16 y16 := by rw [hy16]; exact (Below.refl _ _).alloc (Nat.le_refl _) _
      have hnb : BoxL y16 v16.heap.size now (.slice Au lt.length ccu) := by rw [hy16]; exact BoxL.new _ _ _
      rw [← hy16]
      have HXL : Hid (BoxL y16 b0 now (.slice A1 n c1)) := HXL.out.below hal
      have HXa : Hid (BoxL y16 p1 now (.slice Aa la.length cca)) := HXa.out.below hal
      have HXb : Hid (BoxL y16 p2 now (.slice Ab la.length ccb)) := HXb.out.below hal
      have HXc : Hid (BoxL y16 p3 now (.slice Ac lr.length ccc)) := HXc.out.below hal
      have HXd : Hid (BoxL y16 p4 now (.slice Ad lr.length ccd)) := HXd.out.below hal
      have HXi : Hid (BoxL y16 p5 now (.slice Ai ls.length cci)) := HXi.out.below hal
      have HXk : Hid (BoxL y16 p6 now (.slice Ak ls.length cck)) := HXk.out.below hal
      have HXo : Hid (BoxL y16 p13 now2 (.slice Ao lp.length cco)) := HXo.out.below hal
      have HXq : Hid (BoxL y16 p14 now2 (.slice Aq lp.length ccq)) := HXq.out.below hal
      have HXs : Hid (BoxL y16 p15 now (.slice As lt.length ccs)) := HXs.out.below hal
      have HKa : Hid (LksN y16 (.slice Aa la.length cca) la) := HKa.out.below hal (Nat.le_refl _)
      have HKb : Hid (LksN y16 (.slice Ab la.length ccb) la) := HKb.out.below hal (Nat.le_refl _)
      have HKc : Hid (LksN y16 (.slice Ac lr.length ccc) lr) := HKc.out.below hal (Nat.le_refl _)
      have HKd : Hid (LksN y16 (.slice Ad lr.length ccd) lr) := HKd.out.below hal (Nat.le_refl _)
      have HKi : Hid (LksN y16 (.slice Ai ls.length cci) ls) := HKi.out.below hal (Nat.le_refl _)
      have HKk : Hid (LksN y16 (.slice Ak ls.length cck) ls) := HKk.out.below hal (Nat.le_refl _)
      have HKo : Hid (LksN y16 (.slice Ao lp.length cco) lp) := HKo.out.below hal (Nat.le_refl _)
      have HKq : Hid (LksN y16 (.slice Aq lp.length ccq) lp) := HKq.out.below hal (Nat.le_refl _)
      have HKs : Hid (LksN y16 (.slice As lt.length ccs) lt) := HKs.out.below hal (Nat.le_refl _)
      have HKu : Hid (LksN y16 (.slice Au lt.length ccu) lt) := HKu.out.below hal (Nat.le_refl _)
      have HUo : Hid (UsB y16 (.slice Buo us.length duo) us) := HUo.out.below hal (Nat.le_refl _)
      have HUq : Hid (UsB y16 (.slice Buq us.length duq) us) := HUq.out.below hal (Nat.le_refl _)
      have HBB : Hid (Below W.heap.size W y16) := HBB.out.trans (hal.mono HBB.out.size)
      obtain ⟨p16, hp16⟩ : ∃ p16, p16 = v16.heap.size := ⟨_, rfl⟩
      rw [← hp16] at hnb
      rw [← hp16]
      have HXu := Lib.hid hnb
      clear hal hnb hy16 hp16
      refine (C9.out _ HBB.out).mono ?_
      rintro e v17 ⟨rfl, bb⟩
      have HXL : Hid (BoxL v17 b0 now (.slice A1 n c1)) := HXL.out.below bb
      have HXa : Hid (BoxL v17 p1 now (.slice Aa la.length cca)) := HXa.out.below bb
      have HXb : Hid (BoxL v17 p2 now (.slice Ab la.length ccb)) := HXb.out.below bb
      have HXc : Hid (BoxL v17 p3 now (.slice Ac lr.length ccc)) := HXc.out.below bb
      have HXd : Hid (BoxL v17 p4 now (.slice Ad lr.length ccd)) := HXd.out.below bb
      have HXi : Hid (BoxL v17 p5 now (.slice Ai ls.length cci)) := HXi.out.below bb
      have HXk : Hid (BoxL v17 p6 now (.slice Ak ls.length cck)) := HXk.out.below bb
      have HXo : Hid (BoxL v17 p13 now2 (.slice Ao lp.length cco)) := HXo.out.below bb
      have HXq : Hid (BoxL v17 p14 now2 (.slice Aq lp.length ccq)) := HXq.out.below bb
      have HXs : Hid (BoxL v17 p15 now (.slice As lt.length ccs)) := HXs.out.below bb
      have HXu : Hid (BoxL v17 p16 now (.slice Au lt.length ccu)) := HXu.out.below bb
      have HKa : Hid (LksN v17 (.slice Aa la.length cca) la) := HKa.out.below bb (Nat.le_refl _)
      have HKb : Hid (LksN v17 (.slice Ab la.length ccb) la) := HKb.out.below bb (Nat.le_refl _)
      have HKc : Hid (LksN v17 (.slice Ac lr.length ccc) lr) := HKc.out.below bb (Nat.le_refl _)
      have HKd : Hid (LksN v17 (.slice Ad lr.length ccd) lr) := HKd.out.below bb (Nat.le_refl _)
      have HKi : Hid (LksN v17 (.slice Ai ls.length cci) ls) := HKi.out.below bb (Nat.le_refl _)
      have HKk : Hid (LksN v17 (.slice Ak ls.length cck) ls) := HKk.out.below bb (Nat.le_refl _)
      have HKo : Hid (LksN v17 (.slice Ao lp.length cco) lp) := HKo.out.below bb (Nat.le_refl _)
      have HKq : Hid (LksN v17 (.slice Aq lp.length ccq) lp) := HKq.out.below bb (Nat.le_refl _)
      have HKs : Hid (LksN v17 (.slice As lt.length ccs) lt) := HKs.out.below bb (Nat.le_refl _)
      have HKu : Hid (LksN v17 (.slice Au lt.length ccu) lt) := HKu.out.below bb (Nat.le_refl _)
      have HUo : Hid (UsB v17 (.slice Buo us.length duo) us) := HUo.out.below bb (Nat.le_refl _)
      have HUq : Hid (UsB v17 (.slice Buq us.length duq) us) := HUq.out.below bb (Nat.le_refl _)
      have HBB : Hid (Below W.heap.size W v17) := HBB.out.trans (bb.mono HBB.out.size)
      clear bb
      obtain ⟨o00, o01, o0l⟩ := HXL.out
      go_wp2_with fail
      clear o00 o01 o0l
      have zet : ((et : Int) == et) = true := by simp
      have zh : (hld == hld) = true := by simp
      have za : (aln == aln) = true := by simp
      refine (C23.out _ HBB.out).mono ?_
      rintro e v18 ⟨rfl, bb⟩
      have HXL : Hid (BoxL v18 b0 now (.slice A1 n c1)) := HXL.out.below bb
      have HXa : Hid (BoxL v18 p1 now (.slice Aa la.length cca)) := HXa.out.below bb
      have HXb : Hid (BoxL v18 p2 now (.slice Ab la.length ccb)) := HXb.out.below bb
      have HXc : Hid (BoxL v18 p3 now (.slice Ac lr.length ccc)) := HXc.out.below bb
      have HXd : Hid (BoxL v18 p4 now (.slice Ad lr.length ccd)) := HXd.out.below bb
      have HXi : Hid (BoxL v18 p5 now (.slice Ai ls.length cci)) := HXi.out.below bb
      have HXk : Hid (BoxL v18 p6 now (.slice Ak ls.length cck)) := HXk.out.below bb
      have HXo : Hid (BoxL v18 p13 now2 (.slice Ao lp.length cco)) := HXo.out.below bb
      have HXq : Hid (BoxL v18 p14 now2 (.slice Aq lp.length ccq)) := HXq.out.below bb
      have HXs : Hid (BoxL v18 p15 now (.slice As lt.length ccs)) := HXs.out.below bb
      have HXu : Hid (BoxL v18 p16 now (.slice Au lt.length ccu)) := HXu.out.below bb
      have HKa : Hid (LksN v18 (.slice Aa la.length cca) la) := HKa.out.below bb (Nat.le_refl _)
      have HKb : Hid (LksN v18 (.slice Ab la.length ccb) la) := HKb.out.below bb (Nat.le_refl _)
      have HKc : Hid (LksN v18 (.slice Ac lr.length ccc) lr) := HKc.out.below bb (Nat.le_refl _)
      have HKd : Hid (LksN v18 (.slice Ad lr.length ccd) lr) := HKd.out.below bb (Nat.le_refl _)
      have HKi : Hid (LksN v18 (.slice Ai ls.length cci) ls) := HKi.out.below bb (Nat.le_refl _)
      have HKk : Hid (LksN v18 (.slice Ak ls.length cck) ls) := HKk.out.below bb (Nat.le_refl _)
      have HKo : Hid (LksN v18 (.slice Ao lp.length cco) lp) := HKo.out.below bb (Nat.le_refl _)
      have HKq : Hid (LksN v18 (.slice Aq lp.length ccq) lp) := HKq.out.below bb (Nat.le_refl _)
      have HKs : Hid (LksN v18 (.slice As lt.length ccs) lt) := HKs.out.below bb (Nat.le_refl _)
      have HKu : Hid (LksN v18 (.slice Au lt.length ccu) lt) := HKu.out.below bb (Nat.le_refl _)
      have HUo : Hid (UsB v18 (.slice Buo us.length duo) us) := HUo.out.below bb (Nat.le_refl _)
      have HUq : Hid (UsB v18 (.slice Buq us.length duq) us) := HUq.out.below bb (Nat.le_refl _)
      have HBB : Hid (Below W.heap.size W v18) := HBB.out.trans (bb.mono HBB.out.size)
      clear bb
      obtain ⟨o00, o01, o0l⟩ := HXo.out
      obtain ⟨o10, o11, o1l⟩ := HXq.out
      go_wp2_with fail
      clear o00 o01 o0l
      clear o10 o11 o1l
      refine (sameT now2 HKo.out.1 HKq.out.1).mono ?_
      rintro e v19 ⟨rfl, bb⟩
      have HXL : Hid (BoxL v19 b0 now (.slice A1 n c1)) := HXL.out.below bb
      have HXa : Hid (BoxL v19 p1 now (.slice Aa la.length cca)) := HXa.out.below bb
      have HXb : Hid (BoxL v19 p2 now (.slice Ab la.length ccb)) := HXb.out.below bb
      have HXc : Hid (BoxL v19 p3 now (.slice Ac lr.length ccc)) := HXc.out.below bb
      have HXd : Hid (BoxL v19 p4 now (.slice Ad lr.length ccd)) := HXd.out.below bb
      have HXi : Hid (BoxL v19 p5 now (.slice Ai ls.length cci)) := HXi.out.below bb
      have HXk : Hid (BoxL v19 p6 now (.slice Ak ls.length cck)) := HXk.out.below bb
      have HXo : Hid (BoxL v19 p13 now2 (.slice Ao lp.length cco)) := HXo.out.below bb
      have HXq : Hid (BoxL v19 p14 now2 (.slice Aq lp.length ccq)) := HXq.out.below bb
      have HXs : Hid (BoxL v19 p15 now (.slice As lt.length ccs)) := HXs.out.below bb
      have HXu : Hid (BoxL v19 p16 now (.slice Au lt.length ccu)) := HXu.out.below bb
      have HKa : Hid (LksN v19 (.slice Aa la.length cca) la) := HKa.out.below bb (Nat.le_refl _)
      have HKb : Hid (LksN v19 (.slice Ab la.length ccb) la) := HKb.out.below bb (Nat.le_refl _)
      have HKc : Hid (LksN v19 (.slice Ac lr.length ccc) lr) := HKc.out.below bb (Nat.le_refl _)
      have HKd : Hid (LksN v19 (.slice Ad lr.length ccd) lr) := HKd.out.below bb (Nat.le_refl _)
      have HKi : Hid (LksN v19 (.slice Ai ls.length cci) ls) := HKi.out.below bb (Nat.le_refl _)
      have HKk : Hid (LksN v19 (.slice Ak ls.length cck) ls) := HKk.out.below bb (Nat.le_refl _)
      have HKo : Hid (LksN v19 (.slice Ao lp.length cco) lp) := HKo.out.below bb (Nat.le_refl _)
      have HKq : Hid (LksN v19 (.slice Aq lp.length ccq) lp) := HKq.out.below bb (Nat.le_refl _)
      have HKs : Hid (LksN v19 (.slice As lt.length ccs) lt) := HKs.out.below bb (Nat.le_refl _)
      have HKu : Hid (LksN v19 (.slice Au lt.length ccu) lt) := HKu.out.below bb (Nat.le_refl _)
      have HUo : Hid (UsB v19 (.slice Buo us.length duo) us) := HUo.out.below bb (Nat.le_refl _)
      have HUq : Hid (UsB v19 (.slice Buq us.length duq) us) := HUq.out.below bb (Nat.le_refl _)
      have HBB : Hid (Below W.heap.size W v19) := HBB.out.trans (bb.mono HBB.out.size)
      clear bb
      go_wp2_with fail
      refine (rowners_any _ _ us _ HUo.out HUq.out).mono ?_
      rintro e v20 ⟨rfl, bb⟩
      have HXL : Hid (BoxL v20 b0 now (.slice A1 n c1)) := HXL.out.below bb
      have HXa : Hid (BoxL v20 p1 now (.slice Aa la.length cca)) := HXa.out.below bb
      have HXb : Hid (BoxL v20 p2 now (.slice Ab la.length ccb)) := HXb.out.below bb
      have HXc : Hid (BoxL v20 p3 now (.slice Ac lr.length ccc)) := HXc.out.below bb
      have HXd : Hid (BoxL v20 p4 now (.slice Ad lr.length ccd)) := HXd.out.below bb
      have HXi : Hid (BoxL v20 p5 now (.slice Ai ls.length cci)) := HXi.out.below bb
      have HXk : Hid (BoxL v20 p6 now (.slice Ak ls.length cck)) := HXk.out.below bb
      have HXo : Hid (BoxL v20 p13 now2 (.slice Ao lp.length cco)) := HXo.out.below bb
      have HXq : Hid (BoxL v20 p14 now2 (.slice Aq lp.length ccq)) := HXq.out.below bb
      have HXs : Hid (BoxL v20 p15 now (.slice As lt.length ccs)) := HXs.out.below bb
      have HXu : Hid (BoxL v20 p16 now (.slice Au lt.length ccu)) := HXu.out.below bb
      have HKa : Hid (LksN v20 (.slice Aa la.length cca) la) := HKa.out.below bb (Nat.le_refl _)
      have HKb : Hid (LksN v20 (.slice Ab la.length ccb) la) := HKb.out.below bb (Nat.le_refl _)
      have HKc : Hid (LksN v20 (.slice Ac lr.length ccc) lr) := HKc.out.below bb (Nat.le_refl _)
      have HKd : Hid (LksN v20 (.slice Ad lr.length ccd) lr) := HKd.out.below bb (Nat.le_refl _)
      have HKi : Hid (LksN v20 (.slice Ai ls.length cci) ls) := HKi.out.below bb (Nat.le_refl _)
      have HKk : Hid (LksN v20 (.slice Ak ls.length cck) ls) := HKk.out.below bb (Nat.le_refl _)
      have HKo : Hid (LksN v20 (.slice Ao lp.length cco) lp) := HKo.out.below bb (Nat.le_refl _)
      have HKq : Hid (LksN v20 (.slice Aq lp.length ccq) lp) := HKq.out.below bb (Nat.le_refl _)
      have HKs : Hid (LksN v20 (.slice As lt.length ccs) lt) := HKs.out.below bb (Nat.le_refl _)
      have HKu : Hid (LksN v20 (.slice Au lt.length ccu) lt) := HKu.out.below bb (Nat.le_refl _)
      have HUo : Hid (UsB v20 (.slice Buo us.length duo) us) := HUo.out.below bb (Nat.le_refl _)
      have HUq : Hid (UsB v20 (.slice Buq us.length duq) us) := HUq.out.below bb (Nat.le_refl _)
      have HBB : Hid (Below W.heap.size W v20) := HBB.out.trans (bb.mono HBB.out.size)
      clear bb
      obtain ⟨o00, o01, o0l⟩ := HXs.out
      obtain ⟨o10, o11, o1l⟩ := HXu.out
      go_wp2_with fail
      clear o00 o01 o0l
      clear o10 o11 o1l
      refine (sameT now HKs.out.1 HKu.out.1).mono ?_
      rintro e v21 ⟨rfl, bb⟩
      have HXL : Hid (BoxL v21 b0 now (.slice A1 n c1)) := HXL.out.below bb
      have HXa : Hid (BoxL v21 p1 now (.slice Aa la.length cca)) := HXa.out.below bb
      have HXb : Hid (BoxL v21 p2 now (.slice Ab la.length ccb)) := HXb.out.below bb
      have HXc : Hid (BoxL v21 p3 now (.slice Ac lr.length ccc)) := HXc.out.below bb
      have HXd : Hid (BoxL v21 p4 now (.slice Ad lr.length ccd)) := HXd.out.below bb
      have HXi : Hid (BoxL v21 p5 now (.slice Ai ls.length cci)) := HXi.out.below bb
      have HXk : Hid (BoxL v21 p6 now (.slice Ak ls.length cck)) := HXk.out.below bb
      have HXo : Hid (BoxL v21 p13 now2 (.slice Ao lp.length cco)) := HXo.out.below bb
      have HXq : Hid (BoxL v21 p14 now2 (.slice Aq lp.length ccq)) := HXq.out.below bb
      have HXs : Hid (BoxL v21 p15 now (.slice As lt.length ccs)) := HXs.out.below bb
      have HXu : Hid (BoxL v21 p16 now (.slice Au lt.length ccu)) := HXu.out.below bb
      have HKa : Hid (LksN v21 (.slice Aa la.length cca) la) := HKa.out.below bb (Nat.le_refl _)
      have HKb : Hid (LksN v21 (.slice Ab la.length ccb) la) := HKb.out.below bb (Nat.le_refl _)
      have HKc : Hid (LksN v21 (.slice Ac lr.length ccc) lr) := HKc.out.below bb (Nat.le_refl _)
      have HKd : Hid (LksN v21 (.slice Ad lr.length ccd) lr) := HKd.out.below bb (Nat.le_refl _)
      have HKi : Hid (LksN v21 (.slice Ai ls.length cci) ls) := HKi.out.below bb (Nat.le_refl _)
      have HKk : Hid (LksN v21 (.slice Ak ls.length cck) ls) := HKk.out.below bb (Nat.le_refl _)
      have HKo : Hid (LksN v21 (.slice Ao lp.length cco) lp) := HKo.out.below bb (Nat.le_refl _)
      have HKq : Hid (LksN v21 (.slice Aq lp.length ccq) lp) := HKq.out.below bb (Nat.le_refl _)
      have HKs : Hid (LksN v21 (.slice As lt.length ccs) lt) := HKs.out.below bb (Nat.le_refl _)
      have HKu : Hid (LksN v21 (.slice Au lt.length ccu) lt) := HKu.out.below bb (Nat.le_refl _)
      have HUo : Hid (UsB v21 (.slice Buo us.length duo) us) := HUo.out.below bb (Nat.le_refl _)
      have HUq : Hid (UsB v21 (.slice Buq us.length duq) us) := HUq.out.below bb (Nat.le_refl _)
      have HBB : Hid (Below W.heap.size W v21) := HBB.out.trans (bb.mono HBB.out.size)
      clear bb
      obtain ⟨o00, o01, o0l⟩ := HXo.out
      go_wp2_with fail
      clear o00 o01 o0l
      refine (fit_calls (fb := true) (rfit_any now2 _ _ _ HKo.out.1) ⟨fun _ => HfP.out, fun _ => rfl⟩).mono ?_
      rintro e v22 ⟨rfl, bb⟩
      have HXL : Hid (BoxL v22 b0 now (.slice A1 n c1)) := HXL.out.below bb
      have HXa : Hid (BoxL v22 p1 now (.slice Aa la.length cca)) := HXa.out.below bb
      have HXb : Hid (BoxL v22 p2 now (.slice Ab la.length ccb)) := HXb.out.below bb
      have HXc : Hid (BoxL v22 p3 now (.slice Ac lr.length ccc)) := HXc.out.below bb
      have HXd : Hid (BoxL v22 p4 now (.slice Ad lr.length ccd)) := HXd.out.below bb
      have HXi : Hid (BoxL v22 p5 now (.slice Ai ls.length cci)) := HXi.out.below bb
      have HXk : Hid (BoxL v22 p6 now (.slice Ak ls.length cck)) := HXk.out.below bb
      have HXo : Hid (BoxL v22 p13 now2 (.slice Ao lp.length cco)) := HXo.out.below bb
      have HXq : Hid (BoxL v22 p14 now2 (.slice Aq lp.length ccq)) := HXq.out.below bb
      have HXs : Hid (BoxL v22 p15 now (.slice As lt.length ccs)) := HXs.out.below bb
      have HXu : Hid (BoxL v22 p16 now (.slice Au lt.length ccu)) := HXu.out.below bb
      have HKa : Hid (LksN v22 (.slice Aa la.length cca) la) := HKa.out.below bb (Nat.le_refl _)
      have HKb : Hid (LksN v22 (.slice Ab la.length ccb) la) := HKb.out.below bb (Nat.le_refl _)
      have HKc : Hid (LksN v22 (.slice Ac lr.length ccc) lr) := HKc.out.below bb (Nat.le_refl _)
      have HKd : Hid (LksN v22 (.slice Ad lr.length ccd) lr) := HKd.out.below bb (Nat.le_refl _)
      have HKi : Hid (LksN v22 (.slice Ai ls.length cci) ls) := HKi.out.below bb (Nat.le_refl _)
      have HKk : Hid (LksN v22 (.slice Ak ls.length cck) ls) := HKk.out.below bb (Nat.le_refl _)
      have HKo : Hid (LksN v22 (.slice Ao lp.length cco) lp) := HKo.out.below bb (Nat.le_refl _)
      have HKq : Hid (LksN v22 (.slice Aq lp.length ccq) lp) := HKq.out.below bb (Nat.le_refl _)
      have HKs : Hid (LksN v22 (.slice As lt.length ccs) lt) := HKs.out.below bb (Nat.le_refl _)
      have HKu : Hid (LksN v22 (.slice Au lt.length ccu) lt) := HKu.out.below bb (Nat.le_refl _)
      have HUo : Hid (UsB v22 (.slice Buo us.length duo) us) := HUo.out.below bb (Nat.le_refl _)
      have HUq : Hid (UsB v22 (.slice Buq us.length duq) us) := HUq.out.below bb (Nat.le_refl _)
      have HBB : Hid (Below W.heap.size W v22) := HBB.out.trans (bb.mono HBB.out.size)
      clear bb
      obtain ⟨o00, o01, o0l⟩ := HXs.out
      go_wp2_with fail
      clear o00 o01 o0l
      refine (fit_calls (fb := true) (rfit_any now _ _ _ HKs.out.1) ⟨fun _ => HfT.out, fun _ => rfl⟩).mono ?_
      rintro e v23 ⟨rfl, bb⟩
      have HXL : Hid (BoxL v23 b0 now (.slice A1 n c1)) := HXL.out.below bb
      have HXa : Hid (BoxL v23 p1 now (.slice Aa la.length cca)) := HXa.out.below bb
      have HXb : Hid (BoxL v23 p2 now (.slice Ab la.length ccb)) := HXb.out.below bb
      have HXc : Hid (BoxL v23 p3 now (.slice Ac lr.length ccc)) := HXc.out.below bb
      have HXd : Hid (BoxL v23 p4 now (.slice Ad lr.length ccd)) := HXd.out.below bb
      have HXi : Hid (BoxL v23 p5 now (.slice Ai ls.length cci)) := HXi.out.below bb
      have HXk : Hid (BoxL v23 p6 now (.slice Ak ls.length cck)) := HXk.out.below bb
      have HXo : Hid (BoxL v23 p13 now2 (.slice Ao lp.length cco)) := HXo.out.below bb
      have HXq : Hid (BoxL v23 p14 now2 (.slice Aq lp.length ccq)) := HXq.out.below bb
      have HXs : Hid (BoxL v23 p15 now (.slice As lt.length ccs)) := HXs.out.below bb
      have HXu : Hid (BoxL v23 p16 now (.slice Au lt.length ccu)) := HXu.out.below bb
      have HKa : Hid (LksN v23 (.slice Aa la.length cca) la) := HKa.out.below bb (Nat.le_refl _)
      have HKb : Hid (LksN v23 (.slice Ab la.length ccb) la) := HKb.out.below bb (Nat.le_refl _)
      have HKc : Hid (LksN v23 (.slice Ac lr.length ccc) lr) := HKc.out.below bb (Nat.le_refl _)
      have HKd : Hid (LksN v23 (.slice Ad lr.length ccd) lr) := HKd.out.below bb (Nat.le_refl _)
      have HKi : Hid (LksN v23 (.slice Ai ls.length cci) ls) := HKi.out.below bb (Nat.le_refl _)
      have HKk : Hid (LksN v23 (.slice Ak ls.length cck) ls) := HKk.out.below bb (Nat.le_refl _)
      have HKo : Hid (LksN v23 (.slice Ao lp.length cco) lp) := HKo.out.below bb (Nat.le_refl _)
      have HKq : Hid (LksN v23 (.slice Aq lp.length ccq) lp) := HKq.out.below bb (Nat.le_refl _)
      have HKs : Hid (LksN v23 (.slice As lt.length ccs) lt) := HKs.out.below bb (Nat.le_refl _)
      have HKu : Hid (LksN v23 (.slice Au lt.length ccu) lt) := HKu.out.below bb (Nat.le_refl _)
      have HUo : Hid (UsB v23 (.slice Buo us.length duo) us) := HUo.out.below bb (Nat.le_refl _)
      have HUq : Hid (UsB v23 (.slice Buq us.length duq) us) := HUq.out.below bb (Nat.le_refl _)
      have HBB : Hid (Below W.heap.size W v23) := HBB.out.trans (bb.mono HBB.out.size)
      clear bb
      go_wp2_with fail
      refine (HA.out _).mono ?_
      rintro e v24 ⟨rfl, bb⟩
      have HXL : Hid (BoxL v24 b0 now (.slice A1 n c1)) := HXL.out.below bb
      have HXa : Hid (BoxL v24 p1 now (.slice Aa la.length cca)) := HXa.out.below bb
      have HXb : Hid (BoxL v24 p2 now (.slice Ab la.length ccb)) := HXb.out.below bb
      have HXc : Hid (BoxL v24 p3 now (.slice Ac lr.length ccc)) := HXc.out.below bb
      have HXd : Hid (BoxL v24 p4 now (.slice Ad lr.length ccd)) := HXd.out.below bb
      have HXi : Hid (BoxL v24 p5 now (.slice Ai ls.length cci)) := HXi.out.below bb
      have HXk : Hid (BoxL v24 p6 now (.slice Ak ls.length cck)) := HXk.out.below bb
      have HXo : Hid (BoxL v24 p13 now2 (.slice Ao lp.length cco)) := HXo.out.below bb
      have HXq : Hid (BoxL v24 p14 now2 (.slice Aq lp.length ccq)) := HXq.out.below bb
      have HXs : Hid (BoxL v24 p15 now (.slice As lt.length ccs)) := HXs.out.below bb
      have HXu : Hid (BoxL v24 p16 now (.slice Au lt.length ccu)) := HXu.out.below bb
      have HKa : Hid (LksN v24 (.slice Aa la.length cca) la) := HKa.out.below bb (Nat.le_refl _)
      have HKb : Hid (LksN v24 (.slice Ab la.length ccb) la) := HKb.out.below bb (Nat.le_refl _)
      have HKc : Hid (LksN v24 (.slice Ac lr.length ccc) lr) := HKc.out.below bb (Nat.le_refl _)
      have HKd : Hid (LksN v24 (.slice Ad lr.length ccd) lr) := HKd.out.below bb (Nat.le_refl _)
      have HKi : Hid (LksN v24 (.slice Ai ls.length cci) ls) := HKi.out.below bb (Nat.le_refl _)
      have HKk : Hid (LksN v24 (.slice Ak ls.length cck) ls) := HKk.out.below bb (Nat.le_refl _)
      have HKo : Hid (LksN v24 (.slice Ao lp.length cco) lp) := HKo.out.below bb (Nat.le_refl _)
      have HKq : Hid (LksN v24 (.slice Aq lp.length ccq) lp) := HKq.out.below bb (Nat.le_refl _)
      have HKs : Hid (LksN v24 (.slice As lt.length ccs) lt) := HKs.out.below bb (Nat.le_refl _)
      have HKu : Hid (LksN v24 (.slice Au lt.length ccu) lt) := HKu.out.below bb (Nat.le_refl _)
      have HUo : Hid (UsB v24 (.slice Buo us.length duo) us) := HUo.out.below bb (Nat.le_refl _)
      have HUq : Hid (UsB v24 (.slice Buq us.length duq) us) := HUq.out.below bb (Nat.le_refl _)
      have HBB : Hid (Below W.heap.size W v24) := HBB.out.trans (bb.mono HBB.out.size)
      clear bb
      go_wp2_with fail
      go_ret
      exact ⟨rfl, HBB.out⟩
theorem leaseDoes_ok (W : World) (x0 : (Int × (SlArg (UInt64 × Bool × Int)))) (w0 : (-9223372036854775808 ≤ x0.1 ∧ x0.1 ≤ 9223372036854775807) ∧ (Sl W x0.2.1 x0.2.2.1 x0.2.2.2.1 3 (x0.2.2.2.2.flatMap (ES3 EU64 EBool (EInt .i64))) ∧ x0.2.2.2.2.length = x0.2.2.1 ∧ (x0.2.1 = none → x0.2.2.2.1 = 0) ∧ ∀ y ∈ x0.2.2.2.2, True ∧ True ∧ (-9223372036854775808 ≤ y.2.2 ∧ y.2.2 ≤ 9223372036854775807)))
    (x1 : (Int × (SlArg (UInt64 × Bool × Int)))) (w1 : (-9223372036854775808 ≤ x1.1 ∧ x1.1 ≤ 9223372036854775807) ∧ (Sl W x1.2.1 x1.2.2.1 x1.2.2.2.1 3 (x1.2.2.2.2.flatMap (ES3 EU64 EBool (EInt .i64))) ∧ x1.2.2.2.2.length = x1.2.2.1 ∧ (x1.2.1 = none → x1.2.2.2.1 = 0) ∧ ∀ y ∈ x1.2.2.2.2, True ∧ True ∧ (-9223372036854775808 ≤ y.2.2 ∧ y.2.2 ≤ 9223372036854775807)))
    (x2 : UInt64) (x3 : Bool) (x4 : Int) (w4 : -9223372036854775808 ≤ x4 ∧ x4 ≤ 9223372036854775807) :
    Calls Try.prog 5 #[.agg ((ES2 (EInt .i64) ESl) x0).toArray, .agg ((ES2 (EInt .i64) ESl) x1).toArray, .int .u64 x2.toNat, .bool x3, .int .i64 x4] W fun e w' => e = .returned (.bool true) ∧ Below W.heap.size W w' := by
  obtain ⟨now, A1, n1, c1, l⟩ := x0
  obtain ⟨nowm, A2, n2, c2, m⟩ := x1
  obtain ⟨_, s1, l1, z1, _⟩ := w0
  obtain ⟨_, s2, l2, z2, _⟩ := w1
  have h1 := LksN.of_sl s1 l1 z1
  have h2 := LksN.of_sl s2 l2 z2
  dsimp only at h1 h2 l1 l2
  subst l1
  subst l2
  have e1 : l.length = (l.map fun x => (⟨x.1, x.2.1, x.2.2⟩ : Lk)).length := by rw [List.length_map]
  have e2 : m.length = (m.map fun x => (⟨x.1, x.2.1, x.2.2⟩ : Lk)).length := by rw [List.length_map]
  show Calls Try.prog 5 #[.agg #[.int .i64 now, .slice A1 l.length c1], .agg #[.int .i64 nowm, .slice A2 m.length c2], .int .u64 x2.toNat, .bool x3, .int .i64 x4] W _
  rw [e1] at h1 ⊢
  rw [e2] at h2 ⊢
  by_cases hf : (l.map fun x => (⟨x.1, x.2.1, x.2.2⟩ : Lk)).length ≤ 20 ∧ (m.map fun x => (⟨x.1, x.2.1, x.2.2⟩ : Lk)).length ≤ 20
  · exact does_main W now nowm A1 A2 c1 c2 _ _ x2 x3 x4 h1 h2 hf.1 hf.2
  · exact does_long W now nowm A1 A2 c1 c2 _ _ x2 x3 x4 h1 h2 hf
end Go.Proofs.Ytffnkgfpbjmkbaa
