/- Texts of this claim's author, packed: ScrIter, StrsApp, StrsPush, ScrFr. Conditions: none. -/
import Derived.Test.YtfpofcfoeajkiaaGreatProg
import Derived.RangeFuncNested
import Derived.WalkKit
import Derived.Lib.Hide
import Derived.RangeFuncBox
import Derived.Test.YtfpofcfoeajkiaaGreatQR05
import Derived.Laws.AppendOwnNone
import Derived.Test.YtfpofcfoeajkiaaGreatQR04
import Derived.WalkMore
/- A range over a function whose iterator stores into its own captured box, with a way out of the loop. -/
namespace Go.Proofs.YtfpofcfoeajkiaaGreat
open Go.RowKit
set_option linter.unusedVariables false
/-- an iterator that hands out xs, if what the loop holds (J) abides its own steps (Tn) -/
def SeqTX {α : Type} (F : Fence) (n : Nat) (P : Program) (g : Nat) (lb : Array Value) (encs : α → Array Value) (Kp Tn : World → World → Prop) (xs : List α) (w : World) : Prop :=
  ∀ (l : Nat) (J Jx : Nat → World → Prop) (W : World), Below w.heap.size w W → (∀ i A B, J i A → Tn A B → J i B) →
    (∀ i x A, J i A → xs[i]? = some x → YieldAt F (n - 1) P l (encs x) A fun e B => (e = .returned (.bool true) ∧ J (i + 1) B ∧ Kp A B) ∨ (e = .returned (.bool false) ∧ Jx (i + 1) B)) →
    J 0 W → CallsIn F n P g (#[.func (.yield l) #[] #[]] ++ lb) W fun e W' => (∃ v, e = .returned v) ∧ (J xs.length W' ∨ ∃ i, i ≤ xs.length ∧ Jx i W')
theorem wpIn_rangeTX {F : Fence} {n : Nat} {P : Program} {α : Type} {g : Operand} {ps : Array Tmp} {assign body : Code} {Q : Exit → Act → World → Prop} {a : Act} {w : World}
    (hro : F.round = none) (h1 : 1 ≤ n) {gf : Nat} {lb : Array Value} (hg : a.eval g = .func (.func gf) #[] lb) (hFg : F.fn gf) (eg : ∀ args w, (callFunc gf args).run P w = .ok (.enter gf args) w)
    {encs : α → Array Value} {Kp Tn : World → World → Prop} {xs : List α} (hseq : SeqTX F (n - 1) P gf lb encs Kp Tn xs w)
    (hTn : ∀ A B, Tn A B → ∀ k o, w.heap.size ≤ k → A.heap[k]? = some o → B.heap[k]? = some o)
    (hK1 : ∀ A B l o', w.heap.size ≤ l → Kp (A.putObj l o') B → Kp A B) (hK2 : ∀ A B l o', w.heap.size ≤ l → Kp A B → Kp A (B.putObj l o'))
    (hps : ∀ x, (encs x).size = ps.size) (I Ix : Nat → World → Prop) (id0 : Nat)
    (hIp : ∀ i A l o o', I i A → w.heap.size ≤ l → A.heap[l]? = some o → o.isCells = false → I i (A.putObj l o')) (hIa : ∀ i A o, I i A → I i (A.alloc o)) (hIT : ∀ i A B, I i A → Tn A B → I i B)
    (hIxp : ∀ i A l o o', Ix i A → w.heap.size ≤ l → A.heap[l]? = some o → o.isCells = false → Ix i (A.putObj l o'))
    (h0 : I 0 w) (a₁ : α → Act)
    (hassign : ∀ (l : Nat) (x : α) (W : World) (K : Act → World → Prop), K (a₁ x) W →
      assign.wpIn (F.inRound l) (n - 1 - 1) P (Exit.then K (fun _ _ _ => False)) { tmps := (ps.zip (encs x)).foldl (fun t (p, v) => t.setIfInBounds p v) a.tmps, defers := [] } W)
    (hbody : ∀ (l i : Nat) (x : α) (W : World), w.heap.size ≤ l → I i W → xs[i]? = some x → body.wpIn (F.inRound l) (n - 1 - 1) P (fun e _ B => (e = .normal ∧ KeepsFrom w.heap.size W B ∧ Kp W B ∧ I (i + 1) B) ∨ (e = .exit id0 ∧ KeepsFrom w.heap.size W B ∧ Ix (i + 1) B)) (a₁ x) W)
    (hdone : ∀ (D : Nat) (W : World), w.heap.size ≤ D → I xs.length W → W.heap[D]? = some (.deferred (some [])) → Q .normal { a with defers := { target := .collected D, args := #[] } :: a.defers } W)
    (hstop : ∀ (D i : Nat) (W : World), w.heap.size ≤ D → i ≤ xs.length → Ix i W → W.heap[D]? = some (.deferred (some [])) → (Code.exit id0).wpIn F n P Q { a with defers := { target := .collected D, args := #[] } :: a.defers } W) :
    (Code.rangeFunc g ps assign body).wpIn F n P Q a w := by
  refine wpIn_rangeFunc fun fn hfn => ?_
  rw [hro]
  obtain ⟨R, hR⟩ : ∃ R : LoopState → Option Code → Loop, R = fun s p => { state := s, pending := p, fn, tmps := a.tmps, params := ps, assign, body, defers := w.heap.size } := ⟨_, rfl⟩
  have hW : (w.alloc (.deferred (some []))).heap.size = w.heap.size + 1 := by simp
  let W1 := (w.alloc (.deferred (some []))).alloc (.loop (R .ready none))
  have hl1 : W1.heap[w.heap.size + 1]? = some (.loop (R .ready none)) := by
    have := World.alloc_heap_new (w.alloc (.deferred (some []))) (.loop (R .ready none))
    rwa [hW] at this
  have hd1 : W1.heap[w.heap.size]? = some (.deferred (some [])) := (Below.heap_alloc _ _ _ (by rw [hW]; omega)).trans (World.alloc_heap_new w _)
  have hb1 : Below w.heap.size w W1 := ((Below.refl _ w).alloc (Nat.le_refl _) _).alloc (by rw [hW]; omega) _
  refine ⟨w.heap.size + 1, [{ target := .collected w.heap.size, args := #[] }], W1, { target := .fn (.func gf) lb, args := #[.func (.yield (w.heap.size + 1)) #[] #[]] }, W1, gf, #[.func (.yield (w.heap.size + 1)) #[] #[]] ++ lb, W1, ?_, ?_, ?_, ?_, fun _ => h1, ?_⟩
  · show _ = Result.ok _ ((w.alloc (.deferred (some []))).alloc (.loop (R .ready none)))
    rw [hR]; exact run_enterLoop_outer _ _ _ _ _
  · simp only [resolve, hg]
    simp [go_sem]
  · intro f' hf'; simp [Target.leads] at hf'; subst hf'; exact hFg
  · simp [invoke, go_sem, eg]
  · refine (hseq (w.heap.size + 1) (fun i A => I i A ∧ A.heap[w.heap.size + 1]? = some (.loop (R .ready none)) ∧ A.heap[w.heap.size]? = some (.deferred (some [])))
      (fun i A => Ix i A ∧ A.heap[w.heap.size + 1]? = some (.loop (R .done (some (.exit id0)))) ∧ A.heap[w.heap.size]? = some (.deferred (some []))) W1 hb1
      (fun i A B h ht => ⟨hIT i A B h.1 ht, hTn A B ht _ _ (by omega) h.2.1, hTn A B ht _ _ (Nat.le_refl _) h.2.2⟩) ?_ ⟨hIa _ _ _ (hIa _ _ _ h0), hl1, hd1⟩).mono ?_
    · rintro i x A ⟨hi, hl, hd⟩ hlen
      have hlt : w.heap.size + 1 < A.heap.size := (Array.getElem?_eq_some_iff.1 hl).1
      have hy := run_yield (P := P) (args := encs x) hl (by rw [hR]; exact hps x)
      rw [hR] at hy
      have hbg := run_beginRound (P := P) hl (by rw [hR])
      have hturn : { R .ready none with state := .busy } = R .busy none := by rw [hR]
      rw [hturn] at hbg
      have hl2 : (A.putObj (w.heap.size + 1) (.loop (R .busy none))).heap[w.heap.size + 1]? = some (.loop (R .busy none)) := World.putObj_heap_same hlt
      have hd2 : (A.putObj (w.heap.size + 1) (.loop (R .busy none))).heap[w.heap.size]? = some (.deferred (some [])) := (World.putObj_heap_other (by omega)).trans hd
      refine ⟨fn, _, assign, body, hy, roundIn_of_wpIn hfn (hassign _ x A _ ⟨_, hbg, wpIn_mono (hbody (w.heap.size + 1) i x _ (by omega) (hIp _ _ _ _ _ hi (by omega) hl rfl) hlen) ?_⟩)⟩
      rintro e a3 B hp
      rcases hp with ⟨rfl, hk, hkp, hi3⟩ | ⟨rfl, hk, hi3⟩
      · have hl3 := hk.same _ _ (by omega) hl2 rfl
        have hd3 := hk.same _ _ (Nat.le_refl _) hd2 rfl
        have hen := run_endRound (P := P) none hl3
        have hrec : { R .busy none with state := (if (none : Option Code).isNone then .ready else .done), pending := none } = R .ready none := by rw [hR]; rfl
        rw [hrec] at hen
        exact ⟨_, _, hen, .inl ⟨rfl, ⟨hIp _ _ _ _ _ hi3 (by omega) hl3 rfl, World.putObj_heap_same (Array.getElem?_eq_some_iff.1 hl3).1, (World.putObj_heap_other (by omega)).trans hd3⟩, hK2 _ _ _ _ (by omega) (hK1 _ _ _ _ (by omega) hkp)⟩⟩
      · have hl3 := hk.same _ _ (by omega) hl2 rfl
        have hd3 := hk.same _ _ (Nat.le_refl _) hd2 rfl
        have hen := run_endRound (P := P) (some (.exit id0)) hl3
        have hrec : { R .busy none with state := (if (some (Code.exit id0)).isNone then .ready else .done), pending := some (.exit id0) } = R .done (some (.exit id0)) := by rw [hR]; rfl
        rw [hrec] at hen
        exact ⟨_, _, hen, .inr ⟨rfl, hIxp _ _ _ _ _ hi3 (by omega) hl3 rfl, World.putObj_heap_same (Array.getElem?_eq_some_iff.1 hl3).1, (World.putObj_heap_other (by omega)).trans hd3⟩⟩
    · rintro e W2 ⟨⟨v, rfl⟩, hp⟩
      rcases hp with ⟨hi, hl, hd⟩ | ⟨i, hile, hi, hl, hd⟩
      · have hend := run_endLoop (P := P) hl (by rw [hR]; simp)
        rw [hR] at hend
        exact ⟨none, _, hend, hdone _ _ (Nat.le_refl _) (hIp _ _ _ _ _ hi (by omega) hl rfl) ((World.putObj_heap_other (by omega)).trans hd)⟩
      · have hend := run_endLoop (P := P) hl (by rw [hR]; simp)
        rw [hR] at hend
        exact ⟨some (.exit id0), _, hend, hstop _ _ _ (Nat.le_refl _) hile (hIxp _ _ _ _ _ hi (by omega) hl rfl) ((World.putObj_heap_other (by omega)).trans hd)⟩
end Go.Proofs.YtfpofcfoeajkiaaGreat
/- append of a list of texts, whole, onto a row of the call's own: the source nil or not. -/
namespace Go.Proofs.YtfpofcfoeajkiaaGreat
open Go.RowKit
set_option linter.unusedVariables false
/-- what may be appended whole: nil, or a slice at an address -/
def Src (w : World) (u : Value) (ys : List ByteArray) : Prop :=
  (u = .slice none 0 0 ∧ ys = []) ∨ ∃ b off c, u = .slice (some ⟨b, off, none⟩) ys.length c ∧ (ys ≠ [] → b < w.heap.size) ∧ ∀ j (hj : j < ys.length), w.cell? ⟨b, off + j, none⟩ = some (.string ys[j])
theorem Src.of_owns {w : World} {v : Value} {l : List ByteArray} {B : Nat} (h : w.ownsRow B 9 1 v l.length (l.map .string)) : Src w v l := by
  rcases h.2 with ⟨hv, h0⟩ | ⟨g, cap, cur, hv, hb, hg, hn, hm, hc, ht⟩
  · exact .inl ⟨hv, List.length_eq_zero_iff.1 h0⟩
  · refine .inr ⟨g, 0, cap, hv, fun _ => (Array.getElem?_eq_some_iff.1 hg).1, fun j hj => ?_⟩
    have := h.cells (g := g) (by rw [hv]; rfl) j (.string l[j]) (by simp [hj])
    rw [add_eq] at this
    exact this
theorem Src.of_sl {w : World} {A : Option Addr} {n c : Nat} {l : List ByteArray} (h : Sl w A n c 1 (l.flatMap EStr)) (hn : l.length = n) (h0 : A = none → c = 0) (hA : ∀ a, A = some a → a.spot = none) : Src w (.slice A n c) l := by
  subst hn
  cases A with
  | none =>
    have hc := h0 rfl
    have := h.le
    subst hc
    have hl : l.length = 0 := by omega
    exact .inl ⟨by rw [hl], List.length_eq_zero_iff.1 hl⟩
  | some a =>
    by_cases hl : 0 < l.length
    · obtain ⟨b, off, c, e, _, _, e2, e3⟩ := (StrsB.of_sl h rfl).at hl
      cases e
      exact .inr ⟨b, off, _, rfl, fun _ => e2, e3⟩
    · obtain ⟨b, off, sp⟩ := a
      have := hA _ rfl
      simp only at this; subst this
      exact .inr ⟨b, off, c, rfl, fun hne => absurd (List.length_pos_iff.2 hne) hl, fun j hj => absurd hj (by omega)⟩
theorem Src.below {w w' : World} {u : Value} {ys : List ByteArray} {B : Nat} (h : Src w u ys) (hb : Below B w w') (hB : w.heap.size ≤ B) : Src w' u ys := by
  rcases h with h | ⟨b, off, c, hu, hlt, hc⟩
  · exact .inl h
  · refine .inr ⟨b, off, c, hu, fun hne => Nat.lt_of_lt_of_le (hlt hne) hb.size, fun j hj => ?_⟩
    have hne : ys ≠ [] := by intro e; subst e; simp at hj
    exact (hb.cell (p := ⟨b, off + j, none⟩) (Nat.lt_of_lt_of_le (hlt hne) hB)).trans (hc j hj)
theorem Src.drewN {w : World} {u : Value} {ys : List ByteArray} (h : Src w u ys) (n : Nat) : Src (w.drewN n) u ys := h
theorem wp_append_src {w : World} {o : Oper} {a : Act} {K : Act → World → Prop} {Q : Exit → Act → World → Prop} (s x : Operand) (t : TypeId)
    (ho : o.op = .call { callee := .builtin .append, args := #[s, x], argTypes := #[t, t] }) (ht : Tryz.prog.underlying t = some (.slice 9))
    (base : Nat) (v : Value) (xs : List ByteArray) (hs : a.eval s = v) (hown : w.ownsRow base 9 1 v xs.length (xs.map .string))
    (u : Value) (ys : List ByteArray) (hx : a.eval x = u) (hu : Src w u ys) (hle : xs.length + ys.length ≤ 1000000000) (hbase : base ≤ w.heap.size)
    (h : ∀ v' w', w'.ownsRow base 9 1 v' (xs ++ ys).length ((xs ++ ys).map .string) → w.grownBy w' v.ownBlock → K (a.put o.dst v') w') : o.wp Tryz.prog a w K Q := by
  obtain ⟨i0, hi, hz0, hz1, hz2⟩ := info_parts strInfo
  rcases hu with ⟨rfl, rfl⟩ | ⟨b, off, c, rfl, _, hc⟩
  · have hrun := run_append_owned_none (P := Tryz.prog) (w := w) base t o.type 9 i0 1 ht hi v _ _ hown
    unfold Oper.wp
    simp [execOp, ho, resolve, invoke, builtin, hs, hx, hrun, Result.andThen]
    exact h _ _ (by simpa using hown) (World.grownBy.refl w _)
  · refine wp_append_own w s x t ho base 9 i0 (.string ByteArray.empty) 1 16 ht hi hz0 hz1 hz2 rfl (by decide) v _ _ hs hown ⟨b, off, none⟩ ys.length c (ys.map .string) hx (by simp) ?_ ?_ (by unfold maxLen; omega) (by omega) hbase ?_
    · intro j u' hj
      have hj' : j < ys.length := by
        have := (List.getElem?_eq_some_iff.1 hj).1
        simpa using this
      rw [add_eq, hc j hj']
      simp [hj'] at hj
      rw [← hj]
    · intro u' hu'
      simp at hu'
      obtain ⟨y, _, rfl⟩ := hu'
      rfl
    · intro v' w' h1 h2 _
      exact h v' w' (by simpa using h1) h2
theorem wpList_append_src {w : World} {ops : Array Oper} {rest : List Oper} {o : Oper} {a : Act} {Q : Exit → Act → World → Prop} (hgd : Region.wanted o (yielded ops a.tmps) = true) (s x : Operand) (t : TypeId)
    (ho : o.op = .call { callee := .builtin .append, args := #[s, x], argTypes := #[t, t] }) (ht : Tryz.prog.underlying t = some (.slice 9))
    (base : Nat) (v : Value) (xs : List ByteArray) (hs : a.eval s = v) (hown : w.ownsRow base 9 1 v xs.length (xs.map .string))
    (u : Value) (ys : List ByteArray) (hx : a.eval x = u) (hu : Src w u ys) (hle : xs.length + ys.length ≤ 1000000000) (hbase : base ≤ w.heap.size)
    (h : ∀ v' w', w'.ownsRow base 9 1 v' (xs ++ ys).length ((xs ++ ys).map .string) → w.grownBy w' v.ownBlock → wpList Tryz.prog ops Q rest (a.put o.dst v') w') : wpList Tryz.prog ops Q (o :: rest) a w :=
  wpList_step fun K hK => by
    rw [if_pos hgd]
    exact wp_append_src s x t ho ht base v xs hs hown u ys hx hu hle hbase fun v' w' h1 h2 => hK _ _ (h v' w' h1 h2)
/-- a slice without elements that was just laid -/
theorem owns_empty {w : World} {B : Nat} (hB : B ≤ w.heap.size) : (w.alloc (.cells #[] 9)).ownsRow B 9 1 (.slice (some ⟨w.heap.size, 0, none⟩) 0 0) 0 [] :=
  ⟨rfl, .inr ⟨w.heap.size, 0, #[], rfl, hB, (by show (w.heap.push _)[w.heap.size]? = _; simp), Nat.le_refl _, by unfold maxLen; omega, rfl, rfl⟩⟩
end Go.Proofs.YtfpofcfoeajkiaaGreat
/- append of one text onto a row of the call's own; of a whole list onto nil. -/
namespace Go.Proofs.YtfpofcfoeajkiaaGreat
open Go.RowKit
set_option linter.unusedVariables false
theorem StrsB.cells {w : World} {A : Option Addr} {n c : Nat} {l : List ByteArray} (h : StrsB w (.slice A n c) l) (hl : 0 < l.length) :
    ∃ b off, A = some ⟨b, off, none⟩ ∧ b < w.heap.size ∧ ∀ j (hj : j < l.length), w.cell? ⟨b, off + j, none⟩ = some (.string l[j]) := by
  obtain ⟨A', c', e, h2, h3, h4⟩ := h
  obtain ⟨b, off, e1, e2, e3⟩ := h4 hl
  cases e
  exact ⟨b, off, e1, e2, fun j hj => by rw [e3 j hj]; simp [hj]⟩
theorem wp_push_str {w : World} {o : Oper} {a : Act} {K : Act → World → Prop} {Q : Exit → Act → World → Prop} (s x : Operand) (t : TypeId)
    (ho : o.op = .call { callee := .builtin .append, args := #[s, x], argTypes := #[t, t] }) (ht : Tryz.prog.underlying t = some (.slice 9))
    (base : Nat) (v : Value) (xs : List ByteArray) (hs : a.eval s = v) (hown : w.ownsRow base 9 1 v xs.length (xs.map .string))
    (ad : Addr) (c : Nat) (y : ByteArray) (hx : a.eval x = .slice (some ad) 1 c) (hc : w.cell? ad = some (.string y)) (hle : xs.length + 1 ≤ 1000000000) (hbase : base ≤ w.heap.size)
    (h : ∀ v' w', w'.ownsRow base 9 1 v' (xs ++ [y]).length ((xs ++ [y]).map .string) → w.grownBy w' v.ownBlock → K (a.put o.dst v') w') : o.wp Tryz.prog a w K Q := by
  obtain ⟨i0, hi, hz0, hz1, hz2⟩ := info_parts strInfo
  refine wp_append_own w s x t ho base 9 i0 (.string ByteArray.empty) 1 16 ht hi hz0 hz1 hz2 rfl (by decide) v _ _ hs hown ad 1 c [.string y] hx rfl ?_ ?_ (by unfold maxLen; omega) (by omega) hbase ?_
  · intro j u' hj
    match j, hj with
    | 0, hj =>
      simp at hj; subst hj
      rw [← hc]; congr 1
  · intro u' hu'
    simp at hu'; subst hu'; rfl
  · intro v' w' h1 h2 _
    exact h v' w' (by simpa using h1) h2
theorem wpList_push_str {w : World} {ops : Array Oper} {rest : List Oper} {o : Oper} {a : Act} {Q : Exit → Act → World → Prop} (hgd : o.guard = none) (s x : Operand) (t : TypeId)
    (ho : o.op = .call { callee := .builtin .append, args := #[s, x], argTypes := #[t, t] }) (ht : Tryz.prog.underlying t = some (.slice 9))
    (base : Nat) (v : Value) (xs : List ByteArray) (hs : a.eval s = v) (hown : w.ownsRow base 9 1 v xs.length (xs.map .string))
    (ad : Addr) (c : Nat) (y : ByteArray) (hx : a.eval x = .slice (some ad) 1 c) (hc : w.cell? ad = some (.string y)) (hle : xs.length + 1 ≤ 1000000000) (hbase : base ≤ w.heap.size)
    (h : ∀ v' w', w'.ownsRow base 9 1 v' (xs ++ [y]).length ((xs ++ [y]).map .string) → w.grownBy w' v.ownBlock → wpList Tryz.prog ops Q rest (a.put o.dst v') w') : wpList Tryz.prog ops Q (o :: rest) a w :=
  wpList_plain hgd fun K hK => wp_push_str s x t ho ht base v xs hs hown ad c y hx hc hle hbase fun v' w' h1 h2 => hK _ _ (h v' w' h1 h2)
/-- a list of texts that may be appended whole: nil means nil -/
def StrsN (w : World) (v : Value) (l : List ByteArray) : Prop := StrsB w v l ∧ ∀ n c, v = .slice none n c → c = 0
theorem StrsN.below {w w' : World} {v : Value} {l : List ByteArray} {B : Nat} (h : StrsN w v l) (hb : Below B w w') (hB : w.heap.size ≤ B) : StrsN w' v l := ⟨h.1.below hb hB, h.2⟩
theorem StrsN.of_owns {w : World} {v : Value} {l : List ByteArray} {B : Nat} (h : w.ownsRow B 9 1 v l.length (l.map .string)) : StrsN w v l := by
  refine ⟨StrsB.of_owns h, fun n c e => ?_⟩
  rcases h.2 with ⟨hv, h0⟩ | ⟨g, cap, cur, hv, _⟩
  · rw [hv] at e; cases e; rfl
  · rw [hv] at e; cases e
theorem StrsN.of_sl {w : World} {A : Option Addr} {n c : Nat} {l : List ByteArray} (h : Sl w A n c 1 (l.flatMap EStr)) (hn : l.length = n) (h0 : A = none → c = 0) : StrsN w (.slice A n c) l :=
  ⟨StrsB.of_sl h hn, fun n' c' e => by cases e; exact h0 rfl⟩
theorem wp_append_strs {w : World} {o : Oper} {a : Act} {K : Act → World → Prop} {Q : Exit → Act → World → Prop} (s x : Operand) (t : TypeId)
    (ho : o.op = .call { callee := .builtin .append, args := #[s, x], argTypes := #[t, t] }) (ht : Tryz.prog.underlying t = some (.slice 9))
    (base : Nat) (v : Value) (xs : List ByteArray) (hs : a.eval s = v) (hown : w.ownsRow base 9 1 v xs.length (xs.map .string))
    (u : Value) (ys : List ByteArray) (hx : a.eval x = u) (hu : StrsN w u ys) (hle : xs.length + ys.length ≤ 1000000000) (hbase : base ≤ w.heap.size)
    (h : ∀ v' w', w'.ownsRow base 9 1 v' (xs ++ ys).length ((xs ++ ys).map .string) → w.grownBy w' v.ownBlock → K (a.put o.dst v') w') : o.wp Tryz.prog a w K Q := by
  obtain ⟨i0, hi, hz0, hz1, hz2⟩ := info_parts strInfo
  obtain ⟨⟨A, c, e, h2, h3, h4⟩, h5⟩ := hu
  subst e
  cases A with
  | none =>
    have hc := h5 _ _ rfl
    subst hc
    have hl : ys = [] := List.length_eq_zero_iff.1 (by omega)
    subst hl
    have hrun := run_append_owned_none (P := Tryz.prog) (w := w) base t o.type 9 i0 1 ht hi v _ _ hown
    unfold Oper.wp
    simp [execOp, ho, resolve, invoke, builtin, hs, hx, hrun, Result.andThen]
    exact h _ _ (by simpa using hown) (World.grownBy.refl w _)
  | some ad =>
    refine wp_append_own w s x t ho base 9 i0 (.string ByteArray.empty) 1 16 ht hi hz0 hz1 hz2 rfl (by decide) v _ _ hs hown ad ys.length c (ys.map .string) hx (by simp) ?_ ?_ (by unfold maxLen; omega) (by omega) hbase ?_
    · intro j u' hj
      have hj' : j < ys.length := by
        have := (List.getElem?_eq_some_iff.1 hj).1
        simpa using this
      obtain ⟨b, off, e1, e2, e3⟩ := h4 (by omega)
      cases e1
      rw [add_eq, e3 j hj', ← hj]
      simp
    · intro u' hu'
      simp at hu'
      obtain ⟨y, _, rfl⟩ := hu'
      rfl
    · intro v' w' h1 h2 _
      exact h v' w' (by simpa using h1) h2
theorem wpList_append_strs {w : World} {ops : Array Oper} {rest : List Oper} {o : Oper} {a : Act} {Q : Exit → Act → World → Prop} (hgd : o.guard = none) (s x : Operand) (t : TypeId)
    (ho : o.op = .call { callee := .builtin .append, args := #[s, x], argTypes := #[t, t] }) (ht : Tryz.prog.underlying t = some (.slice 9))
    (base : Nat) (v : Value) (xs : List ByteArray) (hs : a.eval s = v) (hown : w.ownsRow base 9 1 v xs.length (xs.map .string))
    (u : Value) (ys : List ByteArray) (hx : a.eval x = u) (hu : StrsN w u ys) (hle : xs.length + ys.length ≤ 1000000000) (hbase : base ≤ w.heap.size)
    (h : ∀ v' w', w'.ownsRow base 9 1 v' (xs ++ ys).length ((xs ++ ys).map .string) → w.grownBy w' v.ownBlock → wpList Tryz.prog ops Q rest (a.put o.dst v') w') : wpList Tryz.prog ops Q (o :: rest) a w :=
  wpList_plain hgd fun K hK => wp_append_strs s x t ho ht base v xs hs hown u ys hx hu hle hbase fun v' w' h1 h2 => hK _ _ (h v' w' h1 h2)
theorem own_grow {w0 w w' : World} {v : Value} {n : Nat} {xs : List Value} (hb : Below w0.heap.size w0 w) (hown : w.ownsRow w0.heap.size 9 1 v n xs) (hg : w.grownBy w' v.ownBlock) : Below w0.heap.size w0 w' :=
  hb.grown hg hb.size (fun k hk => (hown.lt k hk).1)
theorem own_grow_alloc {w0 w w' : World} {v : Value} {n : Nat} {xs : List Value} (o : Obj) (hb : Below w0.heap.size w0 w) (hown : w.ownsRow w0.heap.size 9 1 v n xs) (hg : (w.alloc o).grownBy w' v.ownBlock) : Below w0.heap.size w0 w' :=
  (hb.alloc hb.size o).grown hg (by have := hb.size; simp; omega) (fun k hk => (hown.lt k hk).1)
end Go.Proofs.YtfpofcfoeajkiaaGreat
/- The frames of bytes, those between passed over: the program's iterator, the document's row. -/
namespace Go.Proofs.YtfpofcfoeajkiaaGreat
open Go.RowKit Go.Shelf
attribute [local go_sem] Oper.semAt_some
set_option linter.unusedVariables false
set_option linter.unusedSimpArgs false
def frG : Nat → List UInt8 → List ByteArray
  | 0, _ => []
  | n + 1, s => if s = [] then [] else if (fOpen s).2.2 = 0 then ⟨(fOpen s).1.toArray⟩ :: frG n (s.drop (fOpen s).2.1) else frG n (s.drop 1)
def framesL (s : List UInt8) : List ByteArray := frG s.length s
theorem fOpen_leS (s : List UInt8) : ((fOpen s).2.2 = 0 → (fOpen s).2.1 ≤ s.length ∧ 5 ≤ (fOpen s).2.1) ∧ ((fOpen s).2.2 ≠ 0 → (fOpen s).2.1 = 0 ∧ (fOpen s).1 = []) := by
  unfold fOpen
  split
  · rename_i h; exact ⟨fun h' => absurd h' h, fun _ => ⟨rfl, rfl⟩⟩
  · rename_i h
    have h0 : (vTakeText s).2.2 = 0 := by omega
    split
    · exact ⟨fun h' => absurd h' (by simp), fun _ => ⟨rfl, rfl⟩⟩
    · split
      · exact ⟨fun h' => absurd h' (by simp), fun _ => ⟨rfl, rfl⟩⟩
      · rename_i h1 h2
        refine ⟨fun _ => ⟨by show (vTakeText s).2.1 + 4 ≤ _; omega, ?_⟩, fun h' => absurd rfl h'⟩
        have := (vTakeText_pos s h0)
        show 5 ≤ (vTakeText s).2.1 + 4
        omega
theorem fOpen_lenS (s : List UInt8) : (fOpen s).1.length ≤ s.length := by
  unfold fOpen
  split
  · simp
  · split
    · simp
    · split
      · simp
      · show (vTakeText s).1.length ≤ s.length
        unfold vTakeText
        split
        · simp
        · split
          · simp
          · split
            · simp
            · simp only [List.length_take, List.length_drop]; omega
theorem frG_fuel : ∀ (n m : Nat) (s : List UInt8), s.length ≤ n → s.length ≤ m → frG n s = frG m s
  | 0, 0, s, _, _ => rfl
  | 0, m + 1, s, h, _ => by
    have : s = [] := List.length_eq_zero_iff.1 (by omega)
    subst this; simp [frG]
  | n + 1, 0, s, _, h => by
    have : s = [] := List.length_eq_zero_iff.1 (by omega)
    subst this; simp [frG]
  | n + 1, m + 1, s, h1, h2 => by
    rw [frG, frG]
    by_cases e : s = []
    · rw [if_pos e, if_pos e]
    · rw [if_neg e, if_neg e]
      have hp : 0 < s.length := List.length_pos_iff.2 e
      by_cases h : (fOpen s).2.2 = 0
      · rw [if_pos h, if_pos h]
        obtain ⟨a, b⟩ := (fOpen_leS s).1 h
        rw [frG_fuel n m _ (by rw [List.length_drop]; omega) (by rw [List.length_drop]; omega)]
      · rw [if_neg h, if_neg h]
        rw [frG_fuel n m _ (by rw [List.length_drop]; omega) (by rw [List.length_drop]; omega)]
theorem framesL_nil : framesL [] = [] := rfl
theorem framesL_ok {s : List UInt8} (e : s ≠ []) (h : (fOpen s).2.2 = 0) : framesL s = ⟨(fOpen s).1.toArray⟩ :: framesL (s.drop (fOpen s).2.1) := by
  have hp : 0 < s.length := List.length_pos_iff.2 e
  obtain ⟨a, b⟩ := (fOpen_leS s).1 h
  obtain ⟨n, hn⟩ : ∃ n, s.length = n + 1 := ⟨s.length - 1, by omega⟩
  unfold framesL
  rw [hn, frG, if_neg e, if_pos h]
  congr 1
  exact frG_fuel _ _ _ (by rw [List.length_drop]; omega) (Nat.le_refl _)
theorem framesL_skip {s : List UInt8} (e : s ≠ []) (h : (fOpen s).2.2 ≠ 0) : framesL s = framesL (s.drop 1) := by
  have hp : 0 < s.length := List.length_pos_iff.2 e
  obtain ⟨n, hn⟩ : ∃ n, s.length = n + 1 := ⟨s.length - 1, by omega⟩
  unfold framesL
  rw [hn, frG, if_neg e, if_neg h]
  exact frG_fuel _ _ _ (by rw [List.length_drop]; omega) (Nat.le_refl _)
theorem extract_toS (s : ByteArray) (k : Nat) : (s.extract k s.size).data.toList = s.data.toList.drop k := by
  rw [Lib.extract_data]
  rw [List.take_of_length_le (by simp)]
theorem fr_size (s : List UInt8) : ∀ t ∈ framesL s, t.size ≤ s.length := by
  suffices h : ∀ (n : Nat) (s : List UInt8), ∀ t ∈ frG n s, t.size ≤ s.length from h _ s
  intro n
  induction n with
  | zero => intro s t h; cases h
  | succ n ih =>
    intro s t ht
    rw [frG] at ht
    by_cases e : s = []
    · rw [if_pos e] at ht; cases ht
    · rw [if_neg e] at ht
      by_cases h : (fOpen s).2.2 = 0
      · rw [if_pos h] at ht
        rcases List.mem_cons.1 ht with rfl | ht
        · show (fOpen s).1.toArray.size ≤ _
          rw [List.size_toArray]
          exact fOpen_lenS s
        · have := ih _ t ht
          rw [List.length_drop] at this; omega
      · rw [if_neg h] at ht
        have := ih _ t ht
        rw [List.length_drop] at this; omega
theorem pframes_any (s : ByteArray) (w : World) : Calls Tryz.prog 17 #[.string s] w fun e w' => e = .returned (.func (.func 40) #[] #[.pointer (some ⟨w.heap.size, 0, none⟩)]) ∧ w.alloc (.cells #[.string s] 9) = w' := by
  go_enter Tryz.func17, Tryz.ntmps17
  go_wp2
  go_ret
  exact ⟨rfl, rfl⟩
def KpB (Bn : Nat) (A B : World) : Prop := B.heap[Bn]? = A.heap[Bn]?
def TnS (Bn : Nat) (A B : World) : Prop := Below A.heap.size A B ∨ ∃ v, B = A.setCell ⟨Bn, 0, none⟩ v
def strLen (W : World) (B : Nat) : Nat := match W.cell? ⟨B, 0, none⟩ with
  | some (.string s) => s.size
  | _ => 0
theorem strLen_of {W : World} {B t : Nat} {s : ByteArray} (h : Boxed W B t (.string s)) : strLen W B = s.size := by unfold strLen; rw [h.cell]
theorem str_empty {r : ByteArray} (h : r.size = 0) : r = ⟨#[]⟩ := by
  apply ByteArray.ext
  apply Array.toList_inj.1
  exact List.length_eq_zero_iff.1 (by simpa using h)
theorem str_emp (r : ByteArray) (h : r.size ≠ 0) : r.toList.isEmpty = false ∧ (r.toList == ([] : List UInt8)) = false := by
  have h2 : ¬ r.toList = [] := by
    intro e
    rw [ByteArray.toList_eq] at e
    have : r.data.toList.length = r.size := by simp
    rw [e] at this
    exact h this.symm
  exact ⟨by simpa using h2, by simpa using h2⟩
set_option maxRecDepth 100000 in
set_option maxHeartbeats 4000000 in
theorem frames1_seq (n : Nat) (hn : 1 ≤ n) (Bn : Nat) (s : ByteArray) (hs : s.size ≤ 1000000000) (w : World) (hB : Boxed w Bn 9 (.string s)) :
    SeqTX Fence.wide n Tryz.prog 40 #[.pointer (some ⟨Bn, 0, none⟩)] (fun t : ByteArray => #[.string t]) (KpB Bn) (TnS Bn) (framesL s.data.toList) w := by
  intro l J Jx W hW hJ hY h0
  have hBW : Boxed W Bn 9 (.string s) := (hW.block Bn hB.lt).trans hB
  clear hW hB
  obtain ⟨L, hL⟩ : ∃ L, L = framesL s.data.toList := ⟨_, rfl⟩
  have HL := Lib.hid hL
  rw [← hL] at hY ⊢
  clear hL
  refine callsIn_of_wp Tryz.func40 rfl trivial ?_ rfl
  simp only [Tryz.ntmps40, List.size_toArray, List.length_cons, List.length_nil, Nat.reduceAdd, Nat.reduceSub, Array.replicate_succ, Array.replicate_zero, List.push_toArray, List.append_toArray, List.nil_append, List.cons_append]
  gi_wp2_with fail
  gi_loopw [] (fun wr => ∃ (r : ByteArray) (i : Nat), Hid (Boxed wr Bn 9 (.string r)) ∧ Hid (L.drop i = framesL r.data.toList ∧ i ≤ L.length) ∧ r.size ≤ s.size ∧ Hid (J i wr)) (fun wr => strLen wr Bn)
  case atStart => exact ⟨s, 0, hBW, ⟨by rw [List.drop_zero]; exact HL.out, Nat.zero_le _⟩, Nat.le_refl _, h0⟩
  case round =>
    obtain ⟨r, i, HB, HD, hrs, HJ⟩ := hrel
    have c0 := HB.out.cell
    have cf := HB.out.frozen
    have HM := Lib.hid (strLen_of HB.out)
    by_cases hr : r.size = 0
    · have hre := str_empty hr
      have HI : Hid (i = L.length) := by
        obtain ⟨h1, h2⟩ := HD.out
        rw [hre] at h1
        have := congrArg List.length h1
        rw [List.length_drop] at this
        unfold Hid
        have h3 : (framesL (⟨#[]⟩ : ByteArray).data.toList).length = 0 := rfl
        omega
      subst hre
      gi_wp2_with fail
      go_end0
      exact ⟨⟨_, rfl⟩, .inl (by rw [← HI.out]; exact HJ.out)⟩
    · obtain ⟨he1, he2⟩ := str_emp r hr
      have hrl : r.data.toList ≠ [] := by
        intro e
        have : r.data.toList.length = r.size := by simp
        rw [e] at this
        exact hr this.symm
      have HO := Lib.hid (fun W => open_any r (by omega) W)
      obtain ⟨hle, hle2⟩ := fOpen_leS r.data.toList
      have HOK := Lib.hid (framesL_ok hrl)
      have HSK := Lib.hid (framesL_skip hrl)
      have hlen : r.data.toList.length = r.size := by simp
      rw [hlen] at hle
      generalize fOpen r.data.toList = q at *
      obtain ⟨t, n', e'⟩ := q
      dsimp only at *
      clear hlen hrl
      by_cases he : e' = 0
      · subst he
        obtain ⟨hn1, hn2⟩ := hle rfl
        have HD2 := Lib.hid (HOK.out rfl)
        have HX : Hid (L[i]? = some (⟨t.toArray⟩ : ByteArray) ∧ L.drop (i + 1) = framesL (r.data.toList.drop n')) := by
          obtain ⟨h1, h2⟩ := HD.out
          rw [HD2.out] at h1
          have hil : i < L.length := by
            refine Decidable.byContradiction fun hh => ?_
            rw [List.drop_eq_nil_of_le (by omega)] at h1; cases h1
          rw [List.drop_eq_getElem_cons hil] at h1
          injection h1 with a1 a2
          exact ⟨by rw [List.getElem?_eq_getElem hil, a1], a2⟩
        clear hle hle2 HOK HSK HD2
        gi_wp2_with fail
        refine ⟨trivial, (callsIn_wide.2 (HO.out _)).mono ?_⟩
        rintro e W1 ⟨rfl, b1⟩
        have hJ1 := hJ i _ W1 HJ.out (.inl b1)
        have HB1 : Hid (Boxed W1 Bn 9 (.string r)) := (b1.block Bn HB.out.lt).trans HB.out
        obtain ⟨fn, tmps, assign, body, hy, hR⟩ := hY i ⟨t.toArray⟩ W1 hJ1 HX.out.1
        try dsimp only at hy
        have HRx := Lib.hid hR
        clear hR b1 hJ1 c0 cf HB HJ
        gi_wp2
        refine HRx.out.mono ?_
        rintro e W3 (⟨rfl, hJ3, hk3⟩ | ⟨rfl, hJx3⟩)
        · have HB3 : Hid (Boxed W3 Bn 9 (.string r)) := hk3.trans HB1.out
          have c3 := HB3.out.cell
          have f3 := HB3.out.frozen
          have hn3 : n' ≤ r.size := hn1
          have HJ4 := Lib.hid (hJ (i + 1) _ (W3.setCell ⟨Bn, 0, none⟩ (.string (r.extract n' r.size))) hJ3 (.inr ⟨_, rfl⟩))
          have HB4 := Lib.hid (HB3.out.set (.string (r.extract n' r.size)))
          have hsz4 : (r.extract n' r.size).size = r.size - n' := by rw [ByteArray.size_extract]; omega
          have HD4 : Hid (L.drop (i + 1) = framesL (r.extract n' r.size).data.toList ∧ i + 1 ≤ L.length) := by
            refine ⟨by rw [extract_toS]; exact HX.out.2, ?_⟩
            have := (List.getElem?_eq_some_iff.1 HX.out.1).1
            omega
          clear hJ3 hk3 HX HD HRx hy
          gi_wp2_with fail
          go_roundw
          case rel => exact ⟨_, i + 1, HB4, HD4, by omega, HJ4⟩
          case measure => rw [strLen_of HB4.out, HM.out]; omega
        · have HJx := Lib.hid hJx3
          have HIL : Hid (i + 1 ≤ L.length) := (List.getElem?_eq_some_iff.1 HX.out.1).1
          clear hJx3 hy HX HD
          gi_wp2
          refine bodyPost_ret (results_none rfl _ _ _) rfl ?_
          exact ⟨⟨_, rfl⟩, .inr ⟨_, HIL.out, HJx.out⟩⟩
      · have HD2 := Lib.hid (HSK.out he)
        obtain ⟨rfl, rfl⟩ := hle2 he
        have he' : ((e' : Int) != 0) = true := by simp; omega
        have h1r : 1 ≤ r.size := by omega
        have hsz4 : (r.extract 1 r.size).size = r.size - 1 := by rw [ByteArray.size_extract]; omega
        have HD4 : Hid (L.drop i = framesL (r.extract 1 r.size).data.toList ∧ i ≤ L.length) := ⟨by rw [extract_toS, ← HD2.out]; exact HD.out.1, HD.out.2⟩
        clear hle HOK HSK HD2 HD
        gi_wp2_with fail
        refine ⟨trivial, (callsIn_wide.2 (HO.out _)).mono ?_⟩
        rintro e W1 ⟨rfl, b1⟩
        have hJ1 := hJ i _ W1 HJ.out (.inl b1)
        have HB1 : Hid (Boxed W1 Bn 9 (.string r)) := (b1.block Bn HB.out.lt).trans HB.out
        have c1 := HB1.out.cell
        have f1 := HB1.out.frozen
        have HJ4 := Lib.hid (hJ i _ (W1.setCell ⟨Bn, 0, none⟩ (.string (r.extract 1 r.size))) hJ1 (.inr ⟨_, rfl⟩))
        have HB4 := Lib.hid (HB1.out.set (.string (r.extract 1 r.size)))
        clear b1 hJ1 c0 cf HB HJ
        gi_wp2_with fail
        go_roundw
        case rel => exact ⟨_, i, HB4, HD4, by omega, HJ4⟩
        case measure => rw [strLen_of HB4.out, HM.out]; omega
def vLen : Value → Nat
  | .string s => s.size
  | _ => 0
set_option maxRecDepth 20000 in
set_option maxHeartbeats 4000000 in
theorem rframes_any (s : ByteArray) (hs : s.size ≤ 1000000) (w : World) :
    Calls Tryz.prog 19 #[.string s] w fun e w' => ∃ v, e = .returned v ∧ w'.ownsRow w.heap.size 9 1 v (framesL s.data.toList).length ((framesL s.data.toList).map .string) ∧ Below w.heap.size w w' := by
  obtain ⟨L, hL⟩ : ∃ L, L = framesL s.data.toList := ⟨_, rfl⟩
  have HL := Lib.hid hL
  rw [← hL]
  clear hL
  go_enter Tryz.func19, Tryz.ntmps19
  go_wp2_with fail
  go_loopw [0, 3] (fun a o wr => ∃ (r : ByteArray) (i : Nat), a = .string r ∧ Hid (wr.ownsRow w.heap.size 9 1 o (L.take i).length ((L.take i).map .string)) ∧ Hid (L.drop i = framesL r.data.toList ∧ i ≤ L.length) ∧ (r.size ≤ s.size ∧ i + r.size ≤ s.size) ∧ Hid (Below w.heap.size w wr)) (fun a _ _ => vLen a)
  case atStart => exact ⟨s, 0, rfl, World.ownsRow_nil _ _ _ _, ⟨by rw [List.drop_zero]; exact HL.out, Nat.zero_le _⟩, ⟨Nat.le_refl _, by omega⟩, Below.refl _ _⟩
  case round =>
    obtain ⟨r, i, rfl, HO, HD, ⟨hrs, hir⟩, HB⟩ := hrel
    by_cases hr : r.size = 0
    · have hre := str_empty hr
      have HI : Hid (L.take i = L) := by
        obtain ⟨h1, h2⟩ := HD.out
        rw [hre] at h1
        have := congrArg List.length h1
        rw [List.length_drop] at this
        have h3 : (framesL (⟨#[]⟩ : ByteArray).data.toList).length = 0 := rfl
        exact List.take_of_length_le (by omega)
      subst hre
      rw [HI.out] at HO
      go_wp2_with fail
      go_ret
      exact ⟨_, rfl, HO.out, HB.out⟩
    · obtain ⟨he1, he2⟩ := str_emp r hr
      have hrl : r.data.toList ≠ [] := by
        intro e
        have : r.data.toList.length = r.size := by simp
        rw [e] at this
        exact hr this.symm
      have HOP := Lib.hid (fun W => refOpen_any r (by omega) W)
      obtain ⟨hle, hle2⟩ := fOpen_leS r.data.toList
      have HOK := Lib.hid (framesL_ok hrl)
      have HSK := Lib.hid (framesL_skip hrl)
      have hlen : r.data.toList.length = r.size := by simp
      rw [hlen] at hle
      generalize fOpen r.data.toList = q at *
      obtain ⟨t, n', e'⟩ := q
      dsimp only at *
      clear hlen hrl
      by_cases he : e' = 0
      · subst he
        obtain ⟨hn1, hn2⟩ := hle rfl
        have HD2 := Lib.hid (HOK.out rfl)
        have HX : Hid (L.take (i + 1) = L.take i ++ [(⟨t.toArray⟩ : ByteArray)] ∧ L.drop (i + 1) = framesL (r.data.toList.drop n') ∧ i + 1 ≤ L.length) := by
          obtain ⟨h1, h2⟩ := HD.out
          rw [HD2.out] at h1
          have hil : i < L.length := by
            refine Decidable.byContradiction fun hh => ?_
            rw [List.drop_eq_nil_of_le (by omega)] at h1; cases h1
          rw [List.drop_eq_getElem_cons hil] at h1
          injection h1 with a1 a2
          exact ⟨by rw [List.take_succ_eq_append_getElem hil, a1], a2, hil⟩
        have hlt : (L.take i).length ≤ i := by rw [List.length_take]; omega
        have hsz4 : (r.extract n' r.size).size = r.size - n' := by rw [ByteArray.size_extract]; omega
        have HD4 : Hid (L.drop (i + 1) = framesL (r.extract n' r.size).data.toList ∧ i + 1 ≤ L.length) := ⟨by rw [extract_toS]; exact HX.out.2.1, HX.out.2.2⟩
        generalize L.take i = out at *
        clear hle hle2 HOK HSK HD2 HD
        go_wp2_with fail
        refine (HOP.out _).mono ?_
        rintro e w1 ⟨rfl, b1⟩
        have HB1 := Lib.hid (HB.out.trans (b1.mono HB.out.size))
        have HO1 : Hid (w1.ownsRow w.heap.size 9 1 u3 out.length (out.map .string)) := HO.out.kept (row := none) ⟨b1.os, b1.tape, b1.output, b1.size, fun k hk _ => b1.block k hk⟩ (by
          by_cases e : u3.ownBlock = none
          · exact .inl e
          · exact .inr e)
        clear b1 HB HO
        go_wp2_with (at_builtin; refine wpList_push_str rfl _ _ _ rfl Tryz.underlying37 w.heap.size _ out rfl (HO1.out.alloc _) ⟨w1.heap.size, 0, none⟩ 1 (⟨t.toArray⟩ : ByteArray) rfl (by simp) (by omega) (by have := HB1.out.size; rw [World.size_alloc]; omega) ?_)
        intro v' w2 o2 g2
        have HB2 : Hid (Below w.heap.size w w2) := (HB1.out.alloc HB1.out.size _).grown g2 (by have := HB1.out.size; rw [World.size_alloc]; omega) (fun q hq => (HO1.out.lt q hq).1)
        have HO2 : Hid (w2.ownsRow w.heap.size 9 1 v' (L.take (i + 1)).length ((L.take (i + 1)).map .string)) := by unfold Hid; rw [HX.out.1]; simpa using o2
        clear o2 g2 HO1 HB1 HX
        go_wp2_with fail
        go_roundw
        case rel => exact ⟨_, i + 1, rfl, HO2, HD4, ⟨by omega, by omega⟩, HB2⟩
        case measure => simp only [vLen]; omega
      · have HD2 := Lib.hid (HSK.out he)
        obtain ⟨rfl, rfl⟩ := hle2 he
        have he' : ((e' : Int) != 0) = true := by simp; omega
        have h1r : 1 ≤ r.size := by omega
        have hsz4 : (r.extract 1 r.size).size = r.size - 1 := by rw [ByteArray.size_extract]; omega
        have HD4 : Hid (L.drop i = framesL (r.extract 1 r.size).data.toList ∧ i ≤ L.length) := ⟨by rw [extract_toS, ← HD2.out]; exact HD.out.1, HD.out.2⟩
        clear hle HOK HSK HD2 HD
        go_wp2_with fail
        refine (HOP.out _).mono ?_
        rintro e w1 ⟨rfl, b1⟩
        have HB1 := Lib.hid (HB.out.trans (b1.mono HB.out.size))
        have HO1 : Hid (w1.ownsRow w.heap.size 9 1 u3 (L.take i).length ((L.take i).map .string)) := HO.out.kept (row := none) ⟨b1.os, b1.tape, b1.output, b1.size, fun k hk _ => b1.block k hk⟩ (by
          by_cases e : u3.ownBlock = none
          · exact .inl e
          · exact .inr e)
        clear b1 HB HO
        go_wp2_with fail
        go_roundw
        case rel => exact ⟨_, i, rfl, HO1, HD4, ⟨by omega, by omega⟩, HB1⟩
        case measure => simp only [vLen]; omega
end Go.Proofs.YtfpofcfoeajkiaaGreat
