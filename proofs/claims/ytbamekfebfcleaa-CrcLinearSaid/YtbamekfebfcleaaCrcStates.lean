/- A region that lays four bytes and writes four rows on, in whatever order: the states between. -/
import Derived.Test.YtbamekfebfcleaaCrcFour
import Derived.Deep.RegionHeld3
namespace Go.Proofs.Ytbamekfebfcleaa
open Go.RowKit
set_option linter.unusedVariables false
set_option linter.unusedSimpArgs false
def vec {α : Type} (a b c d : α) (j : Nat) : α := if j = 0 then a else if j = 1 then b else if j = 2 then c else d
def c4 (b : Nat → Bool) : Nat := (if b 0 = true then 0 else 1) + (if b 1 = true then 0 else 1) + (if b 2 = true then 0 else 1) + (if b 3 = true then 0 else 1)
theorem c4_upd (b : Nat → Bool) (j : Nat) (hj : j < 4) (h : b j = false) : c4 (updF b j true) + 1 = c4 b := by
  match j, hj with
  | 0, _ => simp [c4, updF, h]; omega
  | 1, _ => simp [c4, updF, h]; omega
  | 2, _ => simp [c4, updF, h]; omega
  | 3, _ => simp [c4, updF, h]
theorem c4_zero {b : Nat → Bool} (h : c4 b = 0) : ∀ j, j < 4 → b j = true := by
  intro j hj
  unfold c4 at h
  match j, hj with
  | 0, _ => cases e : b 0 <;> simp_all
  | 1, _ => cases e : b 1 <;> simp_all
  | 2, _ => cases e : b 2 <;> simp_all
  | 3, _ => cases e : b 3 <;> simp_all
def vRow (a : Nat → Bool) (u p : Nat → Value) (j : Nat) : Value := if a j = true then p j else u j
theorem vRow_upd (a : Nat → Bool) (u p : Nat → Value) (i : Nat) (x : Value) : updF (vRow a u p) i x = vRow (updF a i true) u (updF p i x) := by
  funext j
  unfold updF vRow
  show (if j = i then x else if a j = true then p j else u j) = if (if j = i then true else a j) = true then (if j = i then x else p j) else u j
  by_cases e : j = i
  · rw [if_pos e, if_pos e, if_pos rfl, if_pos e]
  · rw [if_neg e, if_neg e, if_neg e]
theorem wp_build_u8 {w : World} {o : Oper} {a : Act} {K : Act → World → Prop} {Q : Exit → Act → World → Prop} (x : Operand) (ho : o.op = .buildSlice 28 1 #[(0, x)]) (y : UInt8) (hx : a.eval x = encU y)
    (h : K (a.put o.dst (.slice (some ⟨w.heap.size, 0, none⟩) 1 1)) (w.alloc (.cells #[encU y] 5))) : o.wp Try.prog a w K Q := by
  unfold encU at *
  unfold Oper.wp
  simp [execOp, ho, hx]
  go_simp
  exact h
def okR (b0 b1 b2 b3 a0 a1 a2 a3 : Bool) (rs : List Nat) : Bool :=
  !rs.isEmpty && rs.all fun i => (i == 3 && !b0) || (i == 8 && !b1) || (i == 13 && !b2) || (i == 24 && !b3) || (i == 4 && b0 && !a0) || (i == 9 && b1 && !a1 && a0) || (i == 14 && b2 && !a2 && a1) || (i == 25 && b3 && !a3 && a2)
def lsT (b0 b1 b2 b3 a0 a1 a2 a3 : Bool) : Array Bool := #[true, true, true, b0, a0, true, true, true, b1, a1, true, true, true, b2, a2, true, true, true, true, true, true, true, true, true, b3, a3, false, false, false, false]
def goodS (b a : Nat → Bool) : Prop := (∀ j, j < 4 → a j = true → b j = true) ∧ (∀ j, j < 3 → a (j + 1) = true → a j = true)
theorem goodS.build {b a : Nat → Bool} (h : goodS b a) (i : Nat) : goodS (updF b i true) a := by
  refine ⟨fun j hj ha => ?_, h.2⟩
  unfold updF
  split
  · rfl
  · exact h.1 j hj ha
theorem goodS.push {b a : Nat → Bool} (h : goodS b a) (i : Nat) (hb : b i = true) (hp : ∀ j, j + 1 = i → a j = true) : goodS b (updF a i true) := by
  refine ⟨fun j hj ha => ?_, fun j hj ha => ?_⟩
  · unfold updF at ha
    by_cases e : j = i
    · rw [e]; exact hb
    · rw [if_neg e] at ha; exact h.1 j hj ha
  · unfold updF at ha ⊢
    by_cases e : j = i
    · rw [if_pos e]
    · rw [if_neg e]
      by_cases e2 : j + 1 = i
      · exact hp j e2
      · rw [if_neg e2] at ha; exact h.2 j hj ha
/-- one step of whichever is ready -/
theorem step_of {P : Program} {md : Region.Mode} {ops : Array Oper} {Q : Exit → Act → World → Prop} {S : World → Prop} {fuel : Nat} {listed : Array Bool} {a : Act} {w : World}
    (hne : Region.ready md ops listed ≠ []) (h : ∀ i ∈ Region.ready md ops listed, ∃ o, ops[i]? = some o ∧ Region.wanted o (yielded ops a.tmps) = true ∧ ∀ K' : Act → World → Prop, Shut (∀ a w, S w → (S w → wpAnyH P md ops Q S fuel (listed.setIfInBounds i true) a w) → K' a w) → Oper.wp P o a w K' Q) : wpAnyH P md ops Q S (fuel + 1) listed a w := by
  refine wpAnyH_ready rfl hne fun i hi => ?_
  obtain ⟨o, ho, hw, hk⟩ := h i hi
  exact AllReadyH.cons ho (fun K hK => by rw [if_pos hw]; exact hk K hK) AllReadyH.nil i (by simp)
theorem lin_states {ops : Array Oper} {Q : Exit → Act → World → Prop} {S : World → Prop} {W : World} {X : Nat} {xo : Obj} (hS : ∀ w, S w ↔ w.heap[X]? = some xo)
    (mk : (Nat → Value) → (Nat → Value) → Act) (ys us ss : Nat → Nat) (u : Nat → Value) (l : Nat → List UInt8) (y : Nat → UInt8) (hle : ∀ j, j < 4 → (l j).length < 1000000000)
    (hob : ∀ j, j < 4 → ∃ o, ops[vec 3 8 13 24 j]? = some o ∧ (∀ z, Region.wanted o z = true) ∧ o.op = .buildSlice 28 1 #[(0, .tmp (ys j))] ∧ ∀ s p x, (mk s p).put o.dst x = mk (updF s j x) p)
    (hoa : ∀ j, j < 4 → ∃ o, ops[vec 4 9 14 25 j]? = some o ∧ (∀ z, Region.wanted o z = true) ∧ o.op = .call { callee := .builtin .append, args := #[.tmp (us j), .tmp (ss j)], argTypes := #[28, 28] } ∧ ∀ s p x, (mk s p).put o.dst x = mk s (updF p j x))
    (hss : ∀ j, j < 4 → ∀ s p, (mk s p).eval (.tmp (ss j)) = s j)
    (hy : ∀ j, j < 4 → ∀ s p, (mk s p).eval (.tmp (ys j)) = encU (y j)) (hu : ∀ j, j < 4 → ∀ s p, (mk s p).eval (.tmp (us j)) = u j)
    (hr : ∀ b0 b1 b2 b3 a0 a1 a2 a3 : Bool, (!a0 || b0) = true → (!a1 || (b1 && a0)) = true → (!a2 || (b2 && a1)) = true → (!a3 || (b3 && a2)) = true → (a3 = false) → okR b0 b1 b2 b3 a0 a1 a2 a3 (Region.ready .any ops (lsT b0 b1 b2 b3 a0 a1 a2 a3)) = true)
    (hend : ∀ s p w, S w → (∀ k, k < 4 → (p k).ownBlock ≠ some X) → Four W w (fun _ => true) (fun _ => true) p s l y → wpAnyH Try.prog .any ops Q S 4 (lsT true true true true true true true true) (mk s p) w) :
    ∀ (r : Nat) (b a : Nat → Bool) (s p : Nat → Value) (w : World), c4 b + c4 a = r → goodS b a → S w → X < w.heap.size → W.heap.size ≤ w.heap.size → (∀ k, k < 4 → (vRow a u p k).ownBlock ≠ some X) → Four W w b a (vRow a u p) s l y →
      wpAnyH Try.prog .any ops Q S (r + 4) (lsT (b 0) (b 1) (b 2) (b 3) (a 0) (a 1) (a 2) (a 3)) (mk s p) w := by
  intro r
  induction r with
  | zero =>
    intro b a s p w hc hg hSw hX hWw hxo hF
    have hb := c4_zero (b := b) (by omega)
    have ha := c4_zero (b := a) (by omega)
    rw [hb 0 (by omega), hb 1 (by omega), hb 2 (by omega), hb 3 (by omega), ha 0 (by omega), ha 1 (by omega), ha 2 (by omega), ha 3 (by omega)]
    have hv : ∀ k, k < 4 → vRow a u p k = p k := fun k hk => by unfold vRow; rw [if_pos (ha k hk)]
    refine hend s p w hSw (fun k hk => by rw [← hv k hk]; exact hxo k hk) ⟨fun j hj => ?_, fun j k hj hk hjk => ?_, fun j hj _ e => (by cases e), hF.below⟩
    · have := hF.rows j hj
      rw [hv j hj] at this
      have e : rowF l y a j = rowF l y (fun _ => true) j := by unfold rowF; rw [ha j hj]
      rwa [e] at this
    · have := hF.apart j k hj hk hjk
      rwa [hv j hj, hv k hk] at this
  | succ r ih =>
    intro b a s p w hc hg hSw hX hWw hxo hF
    by_cases ha3 : a 3 = true
    · exfalso
      have h2 := hg.2 2 (by omega) ha3
      have h1 := hg.2 1 (by omega) h2
      have h0 := hg.2 0 (by omega) h1
      have b3 := hg.1 3 (by omega) ha3
      have b2 := hg.1 2 (by omega) h2
      have b1 := hg.1 1 (by omega) h1
      have b0 := hg.1 0 (by omega) h0
      unfold c4 at hc
      simp [h0, h1, h2, ha3, b0, b1, b2, b3] at hc
    · have ha3' : a 3 = false := by simpa using ha3
      have hrr := hr (b 0) (b 1) (b 2) (b 3) (a 0) (a 1) (a 2) (a 3) (by have := hg.1 0 (by omega); revert this; cases a 0 <;> cases b 0 <;> simp)
        (by have h1 := hg.1 1 (by omega); have h2 := hg.2 0 (by omega); revert h1 h2; cases a 1 <;> cases b 1 <;> cases a 0 <;> simp)
        (by have h1 := hg.1 2 (by omega); have h2 := hg.2 1 (by omega); revert h1 h2; cases a 2 <;> cases b 2 <;> cases a 1 <;> simp)
        (by rw [ha3']; rfl) ha3'
      have build : ∀ i, i < 4 → b i = false → ∃ o, ops[vec 3 8 13 24 i]? = some o ∧ Region.wanted o (yielded ops (mk s p).tmps) = true ∧ ∀ K' : Act → World → Prop, Shut (∀ a' w', S w' → (S w' → wpAnyH Try.prog .any ops Q S (r + 4) (lsT (updF b i true 0) (updF b i true 1) (updF b i true 2) (updF b i true 3) (a 0) (a 1) (a 2) (a 3)) a' w') → K' a' w') → Oper.wp Try.prog o (mk s p) w K' Q := by
        intro i hi hbi
        obtain ⟨o, ho1, ho2, ho3, ho4⟩ := hob i hi
        refine ⟨o, ho1, ho2 _, fun K hK => ?_⟩
        refine wp_build_u8 _ ho3 (y i) (hy i hi s p) ?_
        have hSn : S (w.alloc (.cells #[encU (y i)] 5)) := (hS _).2 (by rw [heap_alloc_old w _ hX]; exact (hS w).1 hSw)
        refine hK.out _ _ hSn fun _ => ?_
        rw [ho4]
        exact ih (updF b i true) a _ p _ (by have := c4_upd b i hi hbi; omega) (hg.build i) hSn (by simp; omega) (by simp; omega) hxo (hF.build i hi hbi 1)
      have push : ∀ i, i < 4 → b i = true → a i = false → (∀ j, j + 1 = i → a j = true) → ∃ o, ops[vec 4 9 14 25 i]? = some o ∧ Region.wanted o (yielded ops (mk s p).tmps) = true ∧ ∀ K' : Act → World → Prop, Shut (∀ a' w', S w' → (S w' → wpAnyH Try.prog .any ops Q S (r + 4) (lsT (b 0) (b 1) (b 2) (b 3) (updF a i true 0) (updF a i true 1) (updF a i true 2) (updF a i true 3)) a' w') → K' a' w') → Oper.wp Try.prog o (mk s p) w K' Q := by
        intro i hi hbi hai hprev
        obtain ⟨o, ho1, ho2, hop, ho4⟩ := hoa i hi
        refine ⟨o, ho1, ho2 _, fun K hK => ?_⟩
        have hso := hss i hi
        obtain ⟨g, c, hsj, hcell, hglt, hgne⟩ := hF.built i hi hbi hai
        obtain ⟨i0, hi0, hz0, hz1, hz2⟩ := info_parts byteInfoF
        have hvi : vRow a u p i = u i := by unfold vRow; rw [if_neg (by rw [hai]; simp)]
        have hrow := hF.rows i hi
        have hrl : rowF l y a i = l i := by unfold rowF; rw [if_neg (by rw [hai]; simp)]
        rw [hrl, hvi] at hrow
        have hl9 := hle i hi
        refine wp_append_own_atF (.tmp (us i)) (.tmp (ss i)) 28 hop W.heap.size 5 i0 (.int .u8 0) 1 1 Try.underlying28 hi0 hz0 hz1 hz2 rfl (by decide) (u i) _ _ (hu i hi s p) hrow ⟨g, 0, none⟩ 1 c [encU (y i)] (by rw [hso, hsj]) rfl ?_ ?_ (by unfold maxLen; omega) (by omega) hWw ?_
        · intro j u' hj
          match j, hj with
          | 0, hj =>
            simp at hj; subst hj
            rw [← hcell]; congr 1
        · intro u' hu'
          simp at hu'; subst hu'; rfl
        · intro v' w' hown hgr hbl
          have hXi : (u i).ownBlock ≠ some X := by have := hxo i hi; rwa [hvi] at this
          have hSn : S w' := (hS _).2 (by rw [hgr.block X hX (fun e => hXi e.symm)]; exact (hS w).1 hSw)
          refine hK.out _ _ hSn fun _ => ?_
          rw [ho4]
          have hFn := hF.push i hi hai hown (by rw [hvi]; exact hgr) (by rw [hvi]; exact hbl)
          rw [vRow_upd] at hFn
          refine ih b (updF a i true) s _ _ (by have := c4_upd a i hi hai; omega) (hg.push i hbi hprev) hSn (Nat.lt_of_lt_of_le hX hgr.size) (Nat.le_trans hWw hgr.size) (fun k hk => ?_) hFn
          rw [← vRow_upd]
          unfold updF
          by_cases e : k = i
          · rw [if_pos e]
            rcases hbl with e5 | e5
            · rw [e5]; exact hXi
            · rw [e5]; intro e6; injection e6 with e6; omega
          · rw [if_neg e]; exact hxo k hk
      unfold okR at hrr
      rw [Bool.and_eq_true, List.all_eq_true] at hrr
      refine step_of (fun e => by rw [e] at hrr; simp at hrr) fun i hi => ?_
      have hx := hrr.2 i hi
      simp only [Bool.or_eq_true, Bool.and_eq_true, beq_iff_eq, Bool.not_eq_true'] at hx
      rcases hx with ((((((⟨rfl, h⟩ | ⟨rfl, h⟩) | ⟨rfl, h⟩) | ⟨rfl, h⟩) | ⟨⟨rfl, h⟩, h2⟩) | ⟨⟨⟨rfl, h⟩, h2⟩, h3⟩) | ⟨⟨⟨rfl, h⟩, h2⟩, h3⟩) | ⟨⟨⟨rfl, h⟩, h2⟩, h3⟩
      · exact build 0 (by omega) h
      · exact build 1 (by omega) h
      · exact build 2 (by omega) h
      · exact build 3 (by omega) h
      · exact push 0 (by omega) h h2 (fun j e => by omega)
      · exact push 1 (by omega) h h2 (fun j e => by rw [show j = 0 by omega]; exact h3)
      · exact push 2 (by omega) h h2 (fun j e => by rw [show j = 1 by omega]; exact h3)
      · exact push 3 (by omega) h h2 (fun j e => by rw [show j = 2 by omega]; exact h3)
theorem put_comm' (a : Act) (i j : Nat) (h : i ≠ j) (v u : Value) : (a.put (some i) v).put (some j) u = (a.put (some j) u).put (some i) v := by
  simp only [Act.put]
  rw [Array.setIfInBounds_comm _ _ h]
theorem put_same (a : Act) (i : Nat) (v u : Value) : (a.put (some i) v).put (some i) u = a.put (some i) u := by simp [Act.put]
theorem size_put (a : Act) (i : Nat) (v : Value) : (a.put (some i) v).tmps.size = a.tmps.size := by simp [Act.put]
theorem eval_put_ne (a : Act) (i j : Nat) (h : i ≠ j) (v : Value) : (a.put (some i) v).eval (.tmp j) = a.eval (.tmp j) := by
  simp only [Act.put, Act.eval, Array.getD_eq_getD_getElem?]
  rw [Array.getElem?_setIfInBounds_ne h]
theorem eval_put_eq (a : Act) (i : Nat) (h : i < a.tmps.size) (v : Value) : (a.put (some i) v).eval (.tmp i) = v := by
  simp [Act.put, Act.eval, Array.getD_eq_getD_getElem?, h]
theorem put_eval (a : Act) (i : Nat) (h : i < a.tmps.size) : a.put (some i) (a.eval (.tmp i)) = a := by
  cases a with
  | mk t d =>
    simp only [Act.put, Act.eval, Array.getD_eq_getD_getElem?]
    congr 1
    apply Array.ext
    · simp
    · intro j h1 h2
      rw [Array.getElem_setIfInBounds (by simpa using h1)]
      split
      · rename_i e; subst e; simp [h2]
      · rfl
def putAll (a : Act) (s p : Nat → Value) : Act := (((((((a.put (some 22) (s 0)).put (some 27) (s 1)).put (some 32) (s 2)).put (some 43) (s 3)).put (some 23) (p 0)).put (some 28) (p 1)).put (some 33) (p 2)).put (some 44) (p 3)
theorem putAll_s (a : Act) (s p : Nat → Value) (x : Value) : ∀ j, j < 4 → (putAll a s p).put (some (vec 22 27 32 43 j)) x = putAll a (updF s j x) p
  | 0, _ => by
    show (putAll a s p).put (some 22) x = _
    unfold putAll
    rw [put_comm' _ 44 22 (by omega), put_comm' _ 33 22 (by omega), put_comm' _ 28 22 (by omega), put_comm' _ 23 22 (by omega), put_comm' _ 43 22 (by omega), put_comm' _ 32 22 (by omega), put_comm' _ 27 22 (by omega), put_same]
    rfl
  | 1, _ => by
    show (putAll a s p).put (some 27) x = _
    unfold putAll
    rw [put_comm' _ 44 27 (by omega), put_comm' _ 33 27 (by omega), put_comm' _ 28 27 (by omega), put_comm' _ 23 27 (by omega), put_comm' _ 43 27 (by omega), put_comm' _ 32 27 (by omega), put_same]
    rfl
  | 2, _ => by
    show (putAll a s p).put (some 32) x = _
    unfold putAll
    rw [put_comm' _ 44 32 (by omega), put_comm' _ 33 32 (by omega), put_comm' _ 28 32 (by omega), put_comm' _ 23 32 (by omega), put_comm' _ 43 32 (by omega), put_same]
    rfl
  | 3, _ => by
    show (putAll a s p).put (some 43) x = _
    unfold putAll
    rw [put_comm' _ 44 43 (by omega), put_comm' _ 33 43 (by omega), put_comm' _ 28 43 (by omega), put_comm' _ 23 43 (by omega), put_same]
    rfl
theorem putAll_p (a : Act) (s p : Nat → Value) (x : Value) : ∀ j, j < 4 → (putAll a s p).put (some (vec 23 28 33 44 j)) x = putAll a s (updF p j x)
  | 0, _ => by
    show (putAll a s p).put (some 23) x = _
    unfold putAll
    rw [put_comm' _ 44 23 (by omega), put_comm' _ 33 23 (by omega), put_comm' _ 28 23 (by omega), put_same]
    rfl
  | 1, _ => by
    show (putAll a s p).put (some 28) x = _
    unfold putAll
    rw [put_comm' _ 44 28 (by omega), put_comm' _ 33 28 (by omega), put_same]
    rfl
  | 2, _ => by
    show (putAll a s p).put (some 33) x = _
    unfold putAll
    rw [put_comm' _ 44 33 (by omega), put_same]
    rfl
  | 3, _ => by
    show (putAll a s p).put (some 44) x = _
    unfold putAll
    rw [put_same]
    rfl
theorem putAll_eval (a : Act) (s p : Nat → Value) (t : Nat) (h : t ≠ 22 ∧ t ≠ 27 ∧ t ≠ 32 ∧ t ≠ 43 ∧ t ≠ 23 ∧ t ≠ 28 ∧ t ≠ 33 ∧ t ≠ 44) : (putAll a s p).eval (.tmp t) = a.eval (.tmp t) := by
  unfold putAll
  rw [eval_put_ne _ _ _ (by omega), eval_put_ne _ _ _ (by omega), eval_put_ne _ _ _ (by omega), eval_put_ne _ _ _ (by omega), eval_put_ne _ _ _ (by omega), eval_put_ne _ _ _ (by omega), eval_put_ne _ _ _ (by omega), eval_put_ne _ _ _ (by omega)]
theorem putAll_sv (a : Act) (hsz : 45 ≤ a.tmps.size) (s p : Nat → Value) : ∀ j, j < 4 → (putAll a s p).eval (.tmp (vec 22 27 32 43 j)) = s j
  | 0, _ => by
    show (putAll a s p).eval (.tmp 22) = _
    unfold putAll
    rw [eval_put_ne _ _ _ (by omega), eval_put_ne _ _ _ (by omega), eval_put_ne _ _ _ (by omega), eval_put_ne _ _ _ (by omega), eval_put_ne _ _ _ (by omega), eval_put_ne _ _ _ (by omega), eval_put_ne _ _ _ (by omega), eval_put_eq _ _ (by omega)]
  | 1, _ => by
    show (putAll a s p).eval (.tmp 27) = _
    unfold putAll
    rw [eval_put_ne _ _ _ (by omega), eval_put_ne _ _ _ (by omega), eval_put_ne _ _ _ (by omega), eval_put_ne _ _ _ (by omega), eval_put_ne _ _ _ (by omega), eval_put_ne _ _ _ (by omega), eval_put_eq _ _ (by rw [size_put]; omega)]
  | 2, _ => by
    show (putAll a s p).eval (.tmp 32) = _
    unfold putAll
    rw [eval_put_ne _ _ _ (by omega), eval_put_ne _ _ _ (by omega), eval_put_ne _ _ _ (by omega), eval_put_ne _ _ _ (by omega), eval_put_ne _ _ _ (by omega), eval_put_eq _ _ (by rw [size_put, size_put]; omega)]
  | 3, _ => by
    show (putAll a s p).eval (.tmp 43) = _
    unfold putAll
    rw [eval_put_ne _ _ _ (by omega), eval_put_ne _ _ _ (by omega), eval_put_ne _ _ _ (by omega), eval_put_ne _ _ _ (by omega), eval_put_eq _ _ (by rw [size_put, size_put, size_put]; omega)]
theorem putAll_id (a : Act) (hsz : 45 ≤ a.tmps.size) : putAll a (vec (a.eval (.tmp 22)) (a.eval (.tmp 27)) (a.eval (.tmp 32)) (a.eval (.tmp 43))) (vec (a.eval (.tmp 23)) (a.eval (.tmp 28)) (a.eval (.tmp 33)) (a.eval (.tmp 44))) = a := by
  show (((((((a.put (some 22) (a.eval (.tmp 22))).put (some 27) (a.eval (.tmp 27))).put (some 32) (a.eval (.tmp 32))).put (some 43) (a.eval (.tmp 43))).put (some 23) (a.eval (.tmp 23))).put (some 28) (a.eval (.tmp 28))).put (some 33) (a.eval (.tmp 33))).put (some 44) (a.eval (.tmp 44)) = a
  rw [put_eval a 22 (by omega), put_eval a 27 (by omega), put_eval a 32 (by omega), put_eval a 43 (by omega), put_eval a 23 (by omega), put_eval a 28 (by omega), put_eval a 33 (by omega), put_eval a 44 (by omega)]
theorem lin_go {ops : Array Oper} {Q : Exit → Act → World → Prop} {S : World → Prop} {fuel : Nat} {listed : Array Bool} {a : Act} {w W : World} {X : Nat} {xo : Obj} (hf : fuel = 12) (hl : listed = lsT false false false false false false false false) (hS : ∀ w, S w ↔ w.heap[X]? = some xo)
    (hsz : 45 ≤ a.tmps.size)
    (u : Nat → Value) (l : Nat → List UInt8) (y : Nat → UInt8) (hle : ∀ j, j < 4 → (l j).length < 1000000000)
    (hob : ∀ j, j < 4 → ∃ o, ops[vec 3 8 13 24 j]? = some o ∧ (∀ z, Region.wanted o z = true) ∧ o.op = .buildSlice 28 1 #[(0, .tmp (vec 21 26 31 42 j))] ∧ o.dst = some (vec 22 27 32 43 j))
    (hoa : ∀ j, j < 4 → ∃ o, ops[vec 4 9 14 25 j]? = some o ∧ (∀ z, Region.wanted o z = true) ∧ o.op = .call { callee := .builtin .append, args := #[.tmp (vec 19 24 29 34 j), .tmp (vec 22 27 32 43 j)], argTypes := #[28, 28] } ∧ o.dst = some (vec 23 28 33 44 j))
    (hy : a.eval (.tmp 21) = encU (y 0) ∧ a.eval (.tmp 26) = encU (y 1) ∧ a.eval (.tmp 31) = encU (y 2) ∧ a.eval (.tmp 42) = encU (y 3))
    (hu : a.eval (.tmp 19) = u 0 ∧ a.eval (.tmp 24) = u 1 ∧ a.eval (.tmp 29) = u 2 ∧ a.eval (.tmp 34) = u 3)
    (hr : ∀ b0 b1 b2 b3 a0 a1 a2 a3 : Bool, (!a0 || b0) = true → (!a1 || (b1 && a0)) = true → (!a2 || (b2 && a1)) = true → (!a3 || (b3 && a2)) = true → (a3 = false) → okR b0 b1 b2 b3 a0 a1 a2 a3 (Region.ready .any ops (lsT b0 b1 b2 b3 a0 a1 a2 a3)) = true)
    (hSw : S w) (hX : X < w.heap.size) (hWw : W.heap.size ≤ w.heap.size) (hxo : ∀ k, k < 4 → (u k).ownBlock ≠ some X) (hF : ∀ s, Four W w (fun _ => false) (fun _ => false) u s l y)
    (hend : ∀ s p w, S w → (∀ k, k < 4 → (p k).ownBlock ≠ some X) → Four W w (fun _ => true) (fun _ => true) p s l y → wpAnyH Try.prog .any ops Q S 4 (lsT true true true true true true true true) (putAll a s p) w) :
    wpAnyH Try.prog .any ops Q S fuel listed a w := by
  have hv : ∀ p0, vRow (fun _ => false) u p0 = u := fun p0 => by funext j; unfold vRow; rw [if_neg (by simp)]
  have key := lin_states (W := W) hS (putAll a) (vec 21 26 31 42) (vec 19 24 29 34) (vec 22 27 32 43) u l y hle
    (fun j hj => by obtain ⟨o, h1, h2, h3, h4⟩ := hob j hj; exact ⟨o, h1, h2, h3, fun s p x => by rw [h4]; exact putAll_s a s p x j hj⟩)
    (fun j hj => by obtain ⟨o, h1, h2, h3, h4⟩ := hoa j hj; exact ⟨o, h1, h2, h3, fun s p x => by rw [h4]; exact putAll_p a s p x j hj⟩)
    (fun j hj s p => putAll_sv a hsz s p j hj)
    (fun j hj s p => by
      match j, hj with
      | 0, _ => exact (putAll_eval a s p 21 (by omega)).trans hy.1
      | 1, _ => exact (putAll_eval a s p 26 (by omega)).trans hy.2.1
      | 2, _ => exact (putAll_eval a s p 31 (by omega)).trans hy.2.2.1
      | 3, _ => exact (putAll_eval a s p 42 (by omega)).trans hy.2.2.2)
    (fun j hj s p => by
      match j, hj with
      | 0, _ => exact (putAll_eval a s p 19 (by omega)).trans hu.1
      | 1, _ => exact (putAll_eval a s p 24 (by omega)).trans hu.2.1
      | 2, _ => exact (putAll_eval a s p 29 (by omega)).trans hu.2.2.1
      | 3, _ => exact (putAll_eval a s p 34 (by omega)).trans hu.2.2.2)
    hr hend 8 (fun _ => false) (fun _ => false) (vec (a.eval (.tmp 22)) (a.eval (.tmp 27)) (a.eval (.tmp 32)) (a.eval (.tmp 43))) (vec (a.eval (.tmp 23)) (a.eval (.tmp 28)) (a.eval (.tmp 33)) (a.eval (.tmp 44))) w rfl ⟨fun _ _ h => by (cases h), fun _ _ h => by (cases h)⟩ hSw hX hWw (by rw [hv]; exact hxo) (by rw [hv]; exact hF _)
  rw [putAll_id a hsz] at key
  rw [hf, hl]
  exact key
end Go.Proofs.Ytbamekfebfcleaa
