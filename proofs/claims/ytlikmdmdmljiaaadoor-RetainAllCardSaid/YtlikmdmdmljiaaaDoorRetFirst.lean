/- retain.rule.firsts: its iterator's contract. -/
import Derived.Test.YtlikmdmdmljiaaaDoorRetKnown
import Derived.Test.YtlikmdmdmljiaaaDoorRetPos
import Derived.Test.YtlikmdmdmljiaaaDoorIterT
import Derived.RangeFuncBox
namespace Go.Proofs.YtlikmdmdmljiaaaDoor
open Go.RowKit Go.Shelf
attribute [local go_sem] Oper.semAt_some
set_option linter.unusedVariables false
set_option linter.unusedSimpArgs false
/-- all below B but block X is as it was -/
def KpX (B X : Nat) (U V : World) : Prop := (∀ j, j < B → j ≠ X → V.heap[j]? = U.heap[j]?) ∧ (B ≤ U.heap.size → B ≤ V.heap.size)
theorem kpX_refl (B X : Nat) (U : World) : KpX B X U U := ⟨fun _ _ _ => rfl, id⟩
theorem KpX.trans {B X : Nat} {U V W : World} (h : KpX B X U V) (k : KpX B X V W) : KpX B X U W := ⟨fun j hj hne => (k.1 j hj hne).trans (h.1 j hj hne), fun hs => k.2 (h.2 hs)⟩
theorem kpX_below {B X : Nat} {V W : World} (h : Below V.heap.size V W) (hB : B ≤ V.heap.size) : KpX B X V W := ⟨fun j hj _ => h.block j (Nat.lt_of_lt_of_le hj hB), fun hs => Nat.le_trans hs h.size⟩
theorem KpX.size {B X : Nat} {U V : World} (h : KpX B X U V) (hs : B ≤ U.heap.size) : B ≤ V.heap.size := h.2 hs
theorem MkN.kp {w w' : World} {v : Value} {l : List Mk} {X : Nat} (h : MkN w v l) (hX : 0 < l.length → ∀ b off n c, v = .slice (some ⟨b, off, none⟩) n c → b ≠ X) (hk : KpX w.heap.size X w w') (hs : w.heap.size ≤ w'.heap.size) : MkN w' v l := by
  obtain ⟨⟨A', c', g1, g2, g3, g4⟩, g5⟩ := h
  refine ⟨⟨A', c', g1, g2, g3, fun hl' => ?_⟩, g5⟩
  obtain ⟨b', off', f1, f2, f3⟩ := g4 hl'
  have hnb' : b' ≠ X := hX hl' b' off' _ _ (by rw [g1, f1])
  exact ⟨b', off', f1, Nat.lt_of_lt_of_le f2 hs, fun j hj => ⟨(World.cell?_of_block (hk.1 b' f2 hnb')).trans (f3 j hj).1, (World.cell?_of_block (hk.1 b' f2 hnb')).trans (f3 j hj).2⟩⟩
abbrev ruleO (fn : Nat) (why q : Int) : Obj := .cells #[.int .i64 why, .int .i64 q, .func (.func fn) #[] #[]] 69
structure FsI (w : World) (g : Nat) (wr : World) : Prop where
  kp : KpX w.heap.size g w wr
  size : w.heap.size ≤ wr.heap.size
theorem FsI.below {w wr w' : World} {g : Nat} (h : FsI w g wr) (b : Below wr.heap.size wr w') : FsI w g w' := ⟨h.kp.trans (kpX_below b h.size), Nat.le_trans h.size b.size⟩
theorem posF_nil (f : Mk → Int) (n la : Int) (i : Nat) : posF f n la i [] = [] := rfl
theorem cells_rule {w : World} {B fn : Nat} {why q : Int} (h : w.heap[B]? = some (ruleO fn why q)) : w.cell? ⟨B, 0, none⟩ = some (.int .i64 why) ∧ w.cell? ⟨B, 1, none⟩ = some (.int .i64 q) ∧ w.cell? ⟨B, 2, none⟩ = some (.func (.func fn) #[] #[]) := by
  refine ⟨?_, ?_, ?_⟩ <;> (unfold World.cell?; rw [h]; rfl)
theorem kp_size {n g : Nat} {A B : World} (h : KpX n g A B) {j : Nat} {o : Obj} (hj : j < n) (hg : j ≠ g) (ho : A.heap[j]? = some o) : B.heap[j]? = some o := (h.1 j hj hg).trans ho
theorem firsts_any (fn : Nat) (why q : Int) (A : Option Addr) (n c : Nat) (w : World) : Calls Tryd.prog 36 #[.agg #[.int .i64 why, .int .i64 q, .func (.func fn) #[] #[]], .slice A n c] w fun e w' => e = .returned (.func (.func 51) #[] #[.pointer (some ⟨w.heap.size, 0, none⟩), .pointer (some ⟨w.heap.size + 1, 0, none⟩)]) ∧ (w.alloc (ruleO fn why q)).alloc (.cells #[.slice A n c] 25) = w' := by
  go_enter Tryd.func36, Tryd.ntmps36
  go_wp2
  go_ret
  exact ⟨rfl, rfl⟩
set_option maxRecDepth 100000 in
set_option maxHeartbeats 4000000 in
theorem firsts1_seq (fn : Nat) (f : Mk → Int) (hen : ∀ args w, (callFunc fn args).run Tryd.prog w = .ok (.enter fn args) w) (K : List Mk) (hK : K.length ≤ 1000000)
    (hf : ∀ x ∈ K, ∀ W, Calls Tryd.prog fn #[.agg #[.string x.1, .int .i64 x.2]] W fun e w' => e = .returned (.int .i64 (f x)) ∧ Below W.heap.size W w')
    (n : Nat) (hn : 1 ≤ n) (Br Bl g : Nat) (why q : Int) (hq1 : -9223372036854775808 ≤ q) (hq2 : q ≤ 9223372036854775807) (v : Value) (w : World)
    (hr : w.heap[Br]? = some (ruleO fn why q)) (hl : w.heap[Bl]? = some (.cells #[v] 25)) (hv : MkN w v K) (hgr : Br ≠ g) (hgl : Bl ≠ g) (hgv : 0 < K.length → ∀ b off n c, v = .slice (some ⟨b, off, none⟩) n c → b ≠ g) :
    SeqT Fence.wide n Tryd.prog 51 #[.pointer (some ⟨Br, 0, none⟩), .pointer (some ⟨Bl, 0, none⟩)] (fun i : Nat => #[.int .i64 i]) (KpX w.heap.size g) (fun A B => Below A.heap.size A B) (posF f q (-1) 0 K) w := by
  intro l J W hW hJ hY h0
  have hrl : Br < w.heap.size := (Array.getElem?_eq_some_iff.1 hr).1
  have hll : Bl < w.heap.size := (Array.getElem?_eq_some_iff.1 hl).1
  have HFS : Hid (FsI w g W) := ⟨kpX_below hW (Nat.le_refl _), hW.size⟩
  have HRR : Hid (∀ V, FsI w g V → V.heap[Br]? = some (ruleO fn why q) ∧ V.heap[Bl]? = some (.cells #[v] 25) ∧ MkN V v K) := fun V h => ⟨kp_size h.kp hrl hgr hr, kp_size h.kp hll hgl hl, hv.kp hgv h.kp h.size⟩
  obtain ⟨P0, hP0⟩ : ∃ P0, P0 = posF f q (-1) 0 K := ⟨_, rfl⟩
  have HP0 := Lib.hid hP0
  rw [← hP0] at hY ⊢
  obtain ⟨⟨A0, c0, hv0, hv1, hv2, _⟩, _⟩ := hv
  obtain ⟨N, hN⟩ : ∃ N, N = K.length := ⟨_, rfl⟩
  have HN := Lib.hid hN
  rw [← hN] at hv0 hv1 hK
  have hc9 : c0 ≤ 9223372036854775807 := by unfold maxLen at hv2; omega
  have HF := Lib.hid hf
  have HY := Lib.hid hY
  have HJ := Lib.hid hJ
  have HEN := Lib.hid hen
  obtain ⟨r0, l0, m0⟩ := HRR.out W HFS.out
  obtain ⟨x0, x1, x2⟩ := cells_rule r0
  have y0 : W.cell? ⟨Bl, 0, none⟩ = some v := by unfold World.cell?; rw [l0]; rfl
  subst hv0
  clear hP0 hv2 hr hl hgr hgl hgv hf hY hJ hN hW r0 l0 m0 hen
  refine callsIn_of_wp Tryd.func51 rfl trivial ?_ rfl
  simp only [Tryd.ntmps51, List.size_toArray, List.length_cons, List.length_nil, Nat.reduceAdd, Nat.reduceSub, Array.replicate_succ, Array.replicate_zero, List.push_toArray, List.append_toArray, List.nil_append, List.cons_append]
  gi_wp2
  clear x0 x1 x2 y0
  gi_loopw [4, 5, 13] (fun a b i wr => ∃ (j : Nat) (lf la : Int) (pre : List Nat), j ≤ N ∧ (-9223372036854775808 ≤ lf ∧ lf ≤ 9223372036854775807) ∧ a = .int .i64 lf ∧ b = .int .i64 la ∧ i = .int .i64 j ∧ Hid (P0 = pre ++ posF f lf la j (K.drop j)) ∧ J pre wr ∧ Hid (FsI w g wr)) (fun _ _ i _ => N - (intOf i).toNat)
  case atStart => exact ⟨0, q, -1, [], Nat.zero_le _, ⟨hq1, hq2⟩, rfl, rfl, rfl, by unfold Hid; simpa using HP0.out, h0, HFS⟩
  case round =>
    obtain ⟨j, lf, la, pre, hj, ⟨hl1, hl2⟩, rfl, rfl, rfl, HP, hJs, HS⟩ := hrel
    obtain ⟨r0, l0, m0⟩ := HRR.out wr HS.out
    obtain ⟨x0, x1, x2⟩ := cells_rule r0
    have y0 : wr.cell? ⟨Bl, 0, none⟩ = some (.slice A0 N c0) := by unfold World.cell?; rw [l0]; rfl
    by_cases hjn : j < N
    · have hjn' : (j : Int) < (N : Int) := by omega
      have hjl : j < K.length := by rw [← HN.out]; exact hjn
      have HD : Hid (K.drop j = K[j] :: K.drop (j + 1)) := List.drop_eq_getElem_cons hjl
      obtain ⟨⟨A9, c9, hv9, _, _, hz9⟩, _⟩ := m0
      injection hv9 with hv9a hv9b hv9c
      subst hv9a hv9c
      obtain ⟨b0, off, rfl, hb0, hc⟩ := hz9 (by omega)
      obtain ⟨e1, e2⟩ := hc j hjl
      have HFX := Lib.hid (HF.out K[j] (List.getElem_mem hjl))
      clear hc hz9 hv9b
      rw [HD.out] at HP
      generalize K[j] = x at *
      obtain ⟨nm, at0⟩ := x
      dsimp only at e1 e2 HFX
      have a1 : Below wr.heap.size wr (wr.alloc (.cells #[.string nm, .int .i64 at0] 29)) := (Below.refl _ _).alloc (Nat.le_refl _) _
      have HJ1 : Hid (J pre (wr.alloc (.cells #[.string nm, .int .i64 at0] 29))) := HJ.out _ _ _ hJs a1
      have HS1 : Hid (FsI w g (wr.alloc (.cells #[.string nm, .int .i64 at0] 29))) := HS.out.below a1
      obtain ⟨s0, _, _⟩ := HRR.out _ HS1.out
      obtain ⟨z0, z1, z2⟩ := cells_rule s0
      have n0 := heap_alloc_new wr (.cells #[.string nm, .int .i64 at0] 29)
      have u0 : (wr.alloc (.cells #[.string nm, .int .i64 at0] 29)).cell? ⟨wr.heap.size, 0, none⟩ = some (.string nm) := by unfold World.cell?; rw [n0]; rfl
      have u1 : (wr.alloc (.cells #[.string nm, .int .i64 at0] 29)).cell? ⟨wr.heap.size, 1, none⟩ = some (.int .i64 at0) := by unfold World.cell?; rw [n0]; rfl
      clear r0 l0 a1 n0 s0 hJs
      by_cases hlf : lf < 1
      · have hlf' : decide (lf < 1) = true := by simpa using hlf
        have HE : Hid (P0 = pre) := by unfold Hid; rw [HP.out, posF, if_pos hlf, List.append_nil]
        clear hlf
        gi_wp2_with fail
        refine bodyPost_ret (results_none rfl _ _ _) rfl ?_
        exact ⟨⟨_, rfl⟩, by rw [HE.out]; exact HJ1.out⟩
      · have hlf' : decide (lf < 1) = false := by simpa using hlf
        have hlf2 : 1 ≤ lf := by omega
        have hen := HEN.out #[.agg #[.string nm, .int .i64 at0]]
        have HPQ : Hid (P0 = pre ++ if f (nm, at0) = la then posF f lf la (j + 1) (K.drop (j + 1)) else j :: posF f (lf - 1) (f (nm, at0)) (j + 1) (K.drop (j + 1))) := by unfold Hid; rw [HP.out]; conv => lhs; rw [posF, if_neg hlf]
        clear hlf HP
        gi_wp2_with fail
        refine ⟨fun _ _ => trivial, ?_⟩
        simp [go_sem, hen]
        refine ⟨fun _ => hn, (callsIn_wide.2 (HFX.out _)).mono ?_⟩
        rintro e W1 ⟨rfl, b1⟩
        have hJ1 := HJ.out _ _ _ HJ1.out b1
        have HS2 : Hid (FsI w g W1) := HS1.out.below b1
        clear b1 HJ1 HS1 hen
        generalize f (nm, at0) = k at *
        by_cases hk : k = la
        · have hk' : (k == la) = true := by simpa using hk
          rw [if_pos hk] at HPQ
          clear hk
          gi_wp2_with fail
          go_roundw
          case rel => exact ⟨j + 1, lf, la, pre, by omega, ⟨hl1, hl2⟩, rfl, rfl, by go_num, HPQ, hJ1, HS2⟩
          case measure => simp [intOf]; omega
        · have hk' : (k == la) = false := by simpa using hk
          rw [if_neg hk] at HPQ
          clear hk
          have hx : P0[pre.length]? = some j := by rw [HPQ.out]; simp
          obtain ⟨fn', tmps, assign, body, hy, hR⟩ := HY.out pre j W1 hJ1 hx
          have HRx := Lib.hid hR
          have HE : Hid (P0 = (pre ++ [j]) ++ posF f (lf - 1) k (j + 1) (K.drop (j + 1))) := by unfold Hid; rw [HPQ.out]; simp
          clear hR hx HPQ
          gi_wp2_with fail
          refine ⟨fun _ _ => trivial, ?_⟩
          simp [go_sem, hy]
          refine ⟨fun _ => hn, HRx.out.mono ?_⟩
          rintro e W3 ⟨rfl, hJ3, hk3⟩
          have HS3 : Hid (FsI w g W3) := ⟨HS2.out.kp.trans hk3, hk3.size HS2.out.size⟩
          gi_wp2
          go_roundw
          case rel => exact ⟨j + 1, lf - 1, k, pre ++ [j], by omega, ⟨by omega, by omega⟩, by go_num, rfl, by go_num, HE, hJ3, HS3⟩
          case measure => simp [intOf]; omega
    · obtain rfl : j = N := by omega
      have HE : Hid (P0 = pre) := by unfold Hid; rw [HP.out, HN.out, List.drop_length, posF_nil, List.append_nil]
      gi_wp2
      go_end0
      exact ⟨⟨_, rfl⟩, by rw [HE.out]; exact hJs⟩
end Go.Proofs.YtlikmdmdmljiaaaDoor
