/- retain.Why, Keep, Drop: their walks. -/
import Derived.Test.YtlikmdmdmljiaaaDoorRetWhys
import Derived.Test.YtlikmdmdmljiaaaDoorRetRs
import Derived.Test.YtlikmdmdmljiaaaDoorShelfOf
import Derived.Sort.OwnSorted
namespace Go.Proofs.YtlikmdmdmljiaaaDoor
open Go.RowKit Go.Shelf Go.Lib Go.Sort
set_option linter.unusedVariables false
set_option linter.unusedSimpArgs false
/-- the box of a policy -/
abbrev polO (p : Pol) : Obj := .cells #[.int .i64 p.a, .int .i64 p.b, .int .i64 p.c, .int .i64 p.d, .int .i64 p.e, .int .i64 p.f] 23
theorem pol_cells {w : World} {B : Nat} {p : Pol} (h : w.heap[B]? = some (polO p)) : w.cell? ⟨B, 0, none⟩ = some (.int .i64 p.a) ∧ w.cell? ⟨B, 1, none⟩ = some (.int .i64 p.b) ∧ w.cell? ⟨B, 2, none⟩ = some (.int .i64 p.c) ∧ w.cell? ⟨B, 3, none⟩ = some (.int .i64 p.d) ∧ w.cell? ⟨B, 4, none⟩ = some (.int .i64 p.e) ∧ w.cell? ⟨B, 5, none⟩ = some (.int .i64 p.f) := by
  refine ⟨?_, ?_, ?_, ?_, ?_, ?_⟩ <;> (unfold World.cell?; rw [h]; rfl)
/-- a policy of Go's ints -/
structure PolI (p : Pol) : Prop where
  a : -9223372036854775808 ≤ p.a ∧ p.a ≤ 9223372036854775807
  b : -9223372036854775808 ≤ p.b ∧ p.b ≤ 9223372036854775807
  c : -9223372036854775808 ≤ p.c ∧ p.c ≤ 9223372036854775807
  d : -9223372036854775808 ≤ p.d ∧ p.d ≤ 9223372036854775807
  e : -9223372036854775808 ≤ p.e ∧ p.e ≤ 9223372036854775807
  f : -9223372036854775808 ≤ p.f ∧ p.f ≤ 9223372036854775807
theorem PolI.q {p : Pol} (h : PolI p) (i : Nat) : -9223372036854775808 ≤ rQ p i ∧ rQ p i ≤ 9223372036854775807 := by
  match i with
  | 0 => exact h.b
  | 1 => exact h.c
  | 2 => exact h.d
  | 3 => exact h.e
  | _ + 4 => exact h.f
theorem kn_ok (l : List Mk) : ∀ x ∈ kn bl l, okAt x = true := fun x hx => (List.mem_filter.1 ((kn_perm l).mem_iff.1 hx)).2
theorem kn_len (l : List Mk) : (kn bl l).length ≤ l.length := by rw [(kn_perm l).length_eq]; exact List.length_filter_le _ _
theorem rs_sorted {w : World} {B g cap : Nat} {K D : List Mk} (hown : w.ownsRow B 37 2 (.slice (some ⟨g, 0, none⟩) K.length cap) K.length (mkC K)) (hl : D.length = K.length) (n : Nat) (os : Array Obj) :
    MkN (sortWorldK encM 2 w g 0 n D.toArray os) (.slice (some ⟨g, 0, none⟩) K.length cap) D := by
  rcases hown.2 with ⟨h1, _⟩ | ⟨g', cap', cur, h1, hb, hg, hn, hm, hc, ht⟩
  · cases h1
  · cases h1
    have hH := mk_holds hg ht
    have hlt : g < w.heap.size := (Array.getElem?_eq_some_iff.1 hg).1
    have h2 := holdsK_grow encM 2 (putRowK encM 2 (Sort.ahead w n) g 0 D.toArray) os g 0 D.toArray (by simpa [putRowK] using hlt) (holdsK_putRowK encM 2 (Sort.ahead w n) g 0 K.toArray D.toArray (holdsK_ahead encM 2 w n g 0 K.toArray hH) (by simpa using hl))
    have hlt2 : g < (sortWorldK encM 2 w g 0 n D.toArray os).heap.size := Nat.lt_of_lt_of_le hlt (grownBy_sortK (w := w) (g := g) (n := n) (os := os) D.toArray).size
    rw [← hl]
    exact mkN_holds h2 hlt2 (by omega) hm
/-- the reasons, by name -/
def RsS (R D : List Mk) : Prop := D.Perm R ∧ D.Pairwise (fun x y => (!(bl y.1 x.1)) = true)
theorem sortR_any (w0 w : World) (B : Nat) (u : Value) (R : List Mk) (hB : w0.heap.size ≤ B) (hown : w.ownsRow B 37 2 u R.length (mkC R)) (hb : Below w0.heap.size w0 w) (hl : R.length ≤ 1000000) :
    Calls Tryd.prog 23 #[u, .func (.func 24) #[] #[]] w fun e w' => e = .returned (.tuple #[]) ∧ ∃ D, RsS R D ∧ MkN w' u D ∧ Below w0.heap.size w0 w' := by
  rcases hown.2 with ⟨h1, h2⟩ | ⟨g, cap, cur, h1, hbb, hg, hn, hm, hc, ht⟩
  · have e : R = [] := List.length_eq_zero_iff.1 h2
    subst e; subst h1
    refine (sortRs_none none 0 w).mono ?_
    rintro e w' ⟨rfl, rfl⟩
    exact ⟨rfl, [], ⟨List.Perm.nil, List.Pairwise.nil⟩, MkN.nil _, hb⟩
  · subst h1
    obtain ⟨hH, hlt, hBg⟩ := holds_own hown
    refine (sortRs_any g cap R w hH hlt hl).mono ?_
    rintro e w' ⟨rfl, D, n, os, hp, hs, rfl⟩
    exact ⟨rfl, D, ⟨hp, hs⟩, rs_sorted hown hp.length_eq n os, below_sorted hb (by omega) _⟩
theorem rsS_names {K : List Mk} {W : List Nat} {D : List Mk} (h : RsS (rsL K W) D) : D.map (·.1) = sn bl (nzN K W) := by
  refine sn_of nord_bl _ _ ?_ ?_
  · rw [← rsL_names]; exact h.1.map _
  · exact List.pairwise_map.2 h.2
theorem wpList_build_to {P : Program} {ops : Array Oper} {rest : List Oper} {o : Oper} {a : Act} {w : World} {Q : Exit → Act → World → Prop} (hg : o.guard = none) (t : TypeId) (parts : Array (Nat × Operand)) (ho : o.op = .build t parts)
    (cs : Array Value) (hf : P.built t (parts.map fun (i, x) => (i, a.eval x)).toList = some cs)
    (h : wpList P ops Q rest (a.put o.dst (.agg cs)) w) : wpList P ops Q (o :: rest) a w :=
  wpList_build hg t parts ho (by rw [hf]; rfl) (by rw [hf]; exact h)
set_option maxRecDepth 20000 in
set_option maxHeartbeats 4000000 in
theorem why_any (p : Pol) (l : List Mk) (v : Value) (w : World) (hp : PolI p) (hv : MkN w v l) (hU : Unl l) (hs : ∀ x ∈ l, x.1.size ≤ 100) (hl : l.length ≤ 1000000) :
    Calls Tryd.prog 12 #[polV p, v] w fun e w' => ∃ v' D, e = .returned v' ∧ MkN w' v' D ∧ D.map (·.1) = keepL bl partI p l ∧ (∀ r ∈ D, 1 ≤ r.2 ∧ r.2 ≤ 63) ∧ Below w.heap.size w w' := by
  obtain ⟨wE, hwE⟩ : ∃ wE, wE = w.alloc (polO p) := ⟨_, rfl⟩
  have HWE := Lib.hid hwE.symm
  have hb0 : Below w.heap.size w wE := by rw [hwE]; exact (Below.refl _ _).alloc (Nat.le_refl _) _
  have p0 : wE.heap[w.heap.size]? = some (polO p) := by rw [hwE]; exact heap_alloc_new _ _
  have HB0 := Lib.hid hb0
  have HP0 := Lib.hid p0
  have HKN := Lib.hid (known_any wE v l (hv.below hb0 (Nat.le_refl _)) hU hs hl)
  have hkl : (kn bl l).length ≤ 1000000 := Nat.le_trans (kn_len l) hl
  have HKE : Hid (keepL bl partI p l = sn bl (nzN (kn bl l) (whyW partI p (kn bl l)))) := rfl
  have HOK := Lib.hid (kn_ok l)
  have HWL := Lib.hid (whyW_len (fs := partI) p (kn bl l))
  have HW64 := Lib.hid (why_lt (fs := partI) p (kn bl l))
  have HPI := Lib.hid hp
  obtain ⟨⟨A, c, rfl, h2, h3, _⟩, _⟩ := hv
  have hc9 : c ≤ 9223372036854775807 := by unfold maxLen at h3; omega
  clear hwE hb0 p0 hU hs h3 hp
  generalize kn bl l = K at *
  unfold polV
  go_enter Tryd.func12, Tryd.ntmps12
  go_wp2_with fail
  rw [HWE.out]
  go_wp2_with fail
  refine HKN.out.mono ?_
  rintro e w1 ⟨v1, rfl, hm1, b1⟩
  have HB1 : Hid (Below w.heap.size w w1) := HB0.out.trans (b1.mono HB0.out.size)
  have hlt0 : w.heap.size < wE.heap.size := (Array.getElem?_eq_some_iff.1 HP0.out).1
  have hp1 : w1.heap[w.heap.size]? = some (polO p) := (b1.block _ hlt0).trans HP0.out
  have HWH := Lib.hid (whys_any p K v1 w1 hm1 hkl HOK.out HPI.out.q HPI.out.a)
  obtain ⟨x0, x1, x2, x3, x4, x5⟩ := pol_cells hp1
  have HM1 := Lib.hid hm1
  obtain ⟨⟨A1, c1, rfl, y2, y3, y4⟩, _⟩ := hm1
  have hc91 : c1 ≤ 9223372036854775807 := by unfold maxLen at y3; omega
  obtain ⟨n, hn⟩ : ∃ n, n = K.length := ⟨_, rfl⟩
  have HN := Lib.hid hn
  rw [← hn] at HWH y2 hkl HM1
  rw [← hn]
  clear b1 hlt0 hp1 HKN HP0 HB0 y3 y4 hn
  unfold polV at HWH
  go_wp2_with fail
  refine HWH.out.mono ?_
  rintro e w2 ⟨g, rfl, hr, b2⟩
  have HB2 : Hid (Below w.heap.size w w2) := HB1.out.trans (b2.mono HB1.out.size)
  have HM2 : Hid (MkN w2 (.slice A1 n c1) K) := HM1.out.below b2 (Nat.le_refl _)
  have HRW := Lib.hid hr
  clear b2 hr HWH HM1 HB1 x0 x1 x2 x3 x4 x5
  generalize whyW partI p K = W at *
  go_wp2_with fail
  go_loopw [5, 6, 7, 14] (fun u a b i wr => ∃ j : Nat, j ≤ n ∧ i = .int .i64 j ∧ Hid (wr.ownsRow w2.heap.size 37 2 u (rsTo K W j).length (mkC (rsTo K W j))) ∧ Hid (Below w2.heap.size w2 wr)) (fun _ _ _ i _ => n - (intOf i).toNat)
  case atStart => exact ⟨0, Nat.zero_le _, rfl, World.ownsRow_nil _ _ _ _, Below.refl _ _⟩
  case round =>
    obtain ⟨j, hj, rfl, HO, HW⟩ := hrel
    by_cases hlt : j < n
    · have hlt' : (j : Int) < (n : Int) := by omega
      have hjl : j < K.length := by rw [← HN.out]; exact hlt
      have hjw : j < W.length := by rw [HWL.out]; exact hjl
      have hr := HRW.out.below HW.out
      have r0 := hr.cell j hjw
      have HST := Lib.hid (rsTo_step K W j hjl HWL.out)
      have hm := HM2.out.below HW.out (Nat.le_refl _)
      obtain ⟨⟨A9, c9, hv9, _, _, hz9⟩, _⟩ := hm
      injection hv9 with hv9a hv9b hv9c
      subst hv9a hv9c
      obtain ⟨b0, off, rfl, hb0, hc⟩ := hz9 (by omega)
      obtain ⟨e1, e2⟩ := hc j hjl
      have hlen : (rsTo K W j).length ≤ j := rsTo_len K W j
      have hu64 : W.getD j 0 < 64 := by
        have e : W.getD j 0 = W[j]'hjw := by simp [List.getD, hjw]
        rw [e]
        exact HW64.out _ (List.getElem_mem _)
      clear hc hz9 hv9b hr
      generalize W.getD j 0 = u at *
      generalize K[j].1 = k at *
      have HK1 : Hid (rsTo K W (j + 1) = rsTo K W (j + 1)) := rfl
      generalize hR1 : rsTo K W (j + 1) = R1 at *
      generalize rsTo K W j = R at *
      by_cases hz : u = 0
      · have hz' : ((u : Int) != 0) = false := by simp [hz]
        rw [if_pos hz, List.append_nil] at HST
        clear hz
        go_wp2_with fail
        go_roundw
        case rel => exact ⟨j + 1, by omega, by go_num, by rw [hR1, HST.out]; exact HO.out, HW.out⟩
        case measure => simp [intOf]; omega
      · have hz' : ((u : Int) != 0) = true := by simp [hz]
        rw [if_neg hz] at HST
        clear hz
        have hws : w2.heap.size ≤ wr.heap.size := HW.out.size
        have HUO : Hid (∀ k, u5.ownBlock = some k → w2.heap.size ≤ k) := fun k hk => (HO.out.lt k hk).1
        go_wp2_with (refine wpList_build_to rfl 37 _ rfl #[.string k, .int .i64 (u : Int)] (by kernel_rfl) ?_)
        try simp only [Act.put, List.setIfInBounds_toArray, List.set_cons_zero, List.set_cons_succ]
        go_wp2_with (at_builtin; refine wpList_append_rsns rfl _ _ _ rfl Tryd.underlying34 w2.heap.size _ R rfl (World.ownsRow.alloc HO.out _) _ [(k, (u : Int))] rfl (new_mk _ _ (k, (u : Int)) _ (by simp)) (by simp; omega) (by simp; omega) ?_)
        intro u9 w9 ho9 hg9
        have HB9 : Hid (Below w2.heap.size w2 w9) := (HW.out.alloc HW.out.size _).grown hg9 (HW.out.alloc HW.out.size _).size HUO.out
        have HO9 : Hid (w9.ownsRow w2.heap.size 37 2 u9 R1.length (mkC R1)) := by unfold Hid; rw [HST.out]; simpa [mkC] using ho9
        clear ho9 hg9
        go_wp2_with fail
        go_roundw
        case rel => exact ⟨j + 1, by omega, by go_num, by rw [hR1]; exact HO9.out, HB9.out⟩
        case measure => simp [intOf]; omega
    · obtain rfl : j = n := by omega
      have HRE : Hid (rsTo K W j = rsL K W) := by unfold Hid; rw [HN.out]; exact rsTo_all K W HWL.out
      rw [HRE.out] at HO
      have hrl : (rsL K W).length ≤ 1000000 := by rw [← HRE.out]; exact Nat.le_trans (rsTo_len K W j) hkl
      have HSF := Lib.hid (sortR_any w wr w2.heap.size u5 (rsL K W) HB2.out.size HO.out (HB2.out.trans (HW.out.mono HB2.out.size)) hrl)
      go_wp2_with fail
      refine HSF.out.mono ?_
      rintro e w3 ⟨rfl, D, hD, hm3, hb3⟩
      have H3 : Hid (MkN w3 u5 D ∧ D.map (·.1) = keepL bl partI p l ∧ (∀ r ∈ D, 1 ≤ r.2 ∧ r.2 ≤ 63) ∧ Below w.heap.size w w3) := ⟨hm3, by rw [HKE.out]; exact rsS_names hD, fun r hr => rsL_bd K W HW64.out r (hD.1.mem_iff.1 hr), hb3⟩
      clear hD hm3 hb3
      go_wp2_with fail
      go_ret
      exact ⟨_, D, rfl, H3.out⟩
end Go.Proofs.YtlikmdmdmljiaaaDoor
