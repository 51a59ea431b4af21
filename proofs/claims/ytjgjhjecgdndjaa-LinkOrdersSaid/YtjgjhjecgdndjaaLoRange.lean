/- A range over a function whose iterator stores into memory of its own, without a way out; what the iterator leaves is told. -/
import Derived.Test.YtjgjhjecgdndjaaLinkSeq
import Derived.RangeFuncNested
import Derived.WalkKit
import Derived.Lib.Hide
import Derived.RangeFuncBox
namespace Go.Proofs.Ytjgjhjecgdndjaa
open Go.RowKit
set_option linter.unusedVariables false
/-- an iterator that hands out xs and leaves E, if what the loop holds (J) abides its own steps (Tn) -/
def SeqTY {α : Type} (F : Fence) (n : Nat) (P : Program) (g : Nat) (lb : Array Value) (encs : α → Array Value) (Kp Tn : World → World → Prop) (E : World → Prop) (xs : List α) (w : World) : Prop :=
  ∀ (l : Nat) (J : Nat → World → Prop) (W : World), Below w.heap.size w W → (∀ i A B, J i A → Tn A B → J i B) →
    (∀ i x A, J i A → xs[i]? = some x → YieldAt F (n - 1) P l (encs x) A fun e B => e = .returned (.bool true) ∧ J (i + 1) B ∧ Kp A B) →
    J 0 W → CallsIn F n P g (#[.func (.yield l) #[] #[]] ++ lb) W fun e W' => (∃ v, e = .returned v) ∧ J xs.length W' ∧ E W'
theorem wpIn_rangeTY {F : Fence} {n : Nat} {P : Program} {α : Type} {g : Operand} {ps : Array Tmp} {assign body : Code} {Q : Exit → Act → World → Prop} {a : Act} {w : World}
    (hro : F.round = none) (h1 : 1 ≤ n) {gf : Nat} {lb : Array Value} (hg : a.eval g = .func (.func gf) #[] lb) (hFg : F.fn gf) (eg : ∀ args w, (callFunc gf args).run P w = .ok (.enter gf args) w)
    {encs : α → Array Value} {Kp Tn : World → World → Prop} {E : World → Prop} {xs : List α} (hseq : SeqTY F (n - 1) P gf lb encs Kp Tn E xs w)
    (hTn : ∀ A B, Tn A B → ∀ k o, w.heap.size ≤ k → A.heap[k]? = some o → o.isCells = false → B.heap[k]? = some o)
    (hK1 : ∀ A B l o', w.heap.size ≤ l → (∀ o, A.heap[l]? = some o → o.isCells = false) → Kp (A.putObj l o') B → Kp A B) (hK2 : ∀ A B l o', w.heap.size ≤ l → (∀ o, B.heap[l]? = some o → o.isCells = false) → Kp A B → Kp A (B.putObj l o'))
    (hE : ∀ A l o o', w.heap.size ≤ l → A.heap[l]? = some o → o.isCells = false → E A → E (A.putObj l o'))
    (hps : ∀ x, (encs x).size = ps.size) (I : Nat → World → Prop)
    (hIp : ∀ i A l o o', I i A → w.heap.size ≤ l → A.heap[l]? = some o → o.isCells = false → I i (A.putObj l o')) (hIa : ∀ i A o, I i A → I i (A.alloc o)) (hIT : ∀ i A B, I i A → Tn A B → I i B)
    (h0 : I 0 w) (a₁ : α → Act)
    (hassign : ∀ (l : Nat) (x : α) (W : World) (K : Act → World → Prop), K (a₁ x) W →
      assign.wpIn (F.inRound l) (n - 1 - 1) P (Exit.then K (fun _ _ _ => False)) { tmps := (ps.zip (encs x)).foldl (fun t (p, v) => t.setIfInBounds p v) a.tmps, defers := [] } W)
    (hbody : ∀ (l i : Nat) (x : α) (W : World), w.heap.size ≤ l → I i W → xs[i]? = some x → body.wpIn (F.inRound l) (n - 1 - 1) P (fun e _ B => e = .normal ∧ KeepsFrom w.heap.size W B ∧ Kp W B ∧ I (i + 1) B) (a₁ x) W)
    (hdone : ∀ (D : Nat) (W : World), w.heap.size ≤ D → I xs.length W → E W → W.heap[D]? = some (.deferred (some [])) → Q .normal { a with defers := { target := .collected D, args := #[] } :: a.defers } W) :
    (Code.rangeFunc g ps assign body).wpIn F n P Q a w := by
  refine wpIn_rangeFunc fun fn hfn => ?_
  rw [hro]
  obtain ⟨R, hR⟩ : ∃ R : LoopState → Option Code → Loop, R = fun s p => { state := s, pending := p, fn, tmps := a.tmps, params := ps, assign, body, defers := w.heap.size } := ⟨_, rfl⟩
  have hW : (w.alloc (.deferred (some []))).heap.size = w.heap.size + 1 := by simp
  let W1 := (w.alloc (.deferred (some []))).alloc (.loop (R .ready none))
  have hl1 : W1.heap[w.heap.size + 1]? = some (.loop (R .ready none)) := by
    have := World.alloc_heap_new (w.alloc (.deferred (some []))) (.loop (R .ready none))
    rwa [hW] at this
  have hd1 : W1.heap[w.heap.size]? = some (.deferred (some [])) := (Below.heap_alloc _ _ _ (by rw [hW]; omega)).trans (World.alloc_heap_new w _)
  have hb1 : Below w.heap.size w W1 := ((Below.refl _ w).alloc (Nat.le_refl _) _).alloc (by rw [hW]; omega) _
  refine ⟨w.heap.size + 1, [{ target := .collected w.heap.size, args := #[] }], W1, { target := .fn (.func gf) lb, args := #[.func (.yield (w.heap.size + 1)) #[] #[]] }, W1, gf, #[.func (.yield (w.heap.size + 1)) #[] #[]] ++ lb, W1, ?_, ?_, ?_, ?_, fun _ => h1, ?_⟩
  · show _ = Result.ok _ ((w.alloc (.deferred (some []))).alloc (.loop (R .ready none)))
    rw [hR]; exact run_enterLoop_outer _ _ _ _ _
  · simp only [resolve, hg]
    simp [go_sem]
  · intro f' hf'; simp [Target.leads] at hf'; subst hf'; exact hFg
  · simp [invoke, go_sem, eg]
  · refine (hseq (w.heap.size + 1) (fun i A => I i A ∧ A.heap[w.heap.size + 1]? = some (.loop (R .ready none)) ∧ A.heap[w.heap.size]? = some (.deferred (some []))) W1 hb1
      (fun i A B h ht => ⟨hIT i A B h.1 ht, hTn A B ht _ _ (by omega) h.2.1 rfl, hTn A B ht _ _ (Nat.le_refl _) h.2.2 rfl⟩) ?_ ⟨hIa _ _ _ (hIa _ _ _ h0), hl1, hd1⟩).mono ?_
    · rintro i x A ⟨hi, hl, hd⟩ hlen
      have hlt : w.heap.size + 1 < A.heap.size := (Array.getElem?_eq_some_iff.1 hl).1
      have hy := run_yield (P := P) (args := encs x) hl (by rw [hR]; exact hps x)
      rw [hR] at hy
      have hbg := run_beginRound (P := P) hl (by rw [hR])
      have hturn : { R .ready none with state := .busy } = R .busy none := by rw [hR]
      rw [hturn] at hbg
      have hl2 : (A.putObj (w.heap.size + 1) (.loop (R .busy none))).heap[w.heap.size + 1]? = some (.loop (R .busy none)) := World.putObj_heap_same hlt
      have hd2 : (A.putObj (w.heap.size + 1) (.loop (R .busy none))).heap[w.heap.size]? = some (.deferred (some [])) := (World.putObj_heap_other (by omega)).trans hd
      refine ⟨fn, _, assign, body, hy, roundIn_of_wpIn hfn (hassign _ x A _ ⟨_, hbg, wpIn_mono (hbody (w.heap.size + 1) i x _ (by omega) (hIp _ _ _ _ _ hi (by omega) hl rfl) hlen) ?_⟩)⟩
      rintro e a3 B hp
      obtain ⟨rfl, hk, hkp, hi3⟩ := hp
      have hl3 := hk.same _ _ (by omega) hl2 rfl
      have hd3 := hk.same _ _ (Nat.le_refl _) hd2 rfl
      have hen := run_endRound (P := P) none hl3
      have hrec : { R .busy none with state := (if (none : Option Code).isNone then .ready else .done), pending := none } = R .ready none := by rw [hR]; rfl
      rw [hrec] at hen
      exact ⟨_, _, hen, rfl, ⟨hIp _ _ _ _ _ hi3 (by omega) hl3 rfl, World.putObj_heap_same (Array.getElem?_eq_some_iff.1 hl3).1, (World.putObj_heap_other (by omega)).trans hd3⟩, hK2 _ _ _ _ (by omega) (fun o ho => by rw [hl3] at ho; cases ho; rfl) (hK1 _ _ _ _ (by omega) (fun o ho => by rw [hl] at ho; cases ho; rfl) hkp)⟩
    · rintro e W2 ⟨⟨v, rfl⟩, ⟨hi, hl, hd⟩, hE2⟩
      have hend := run_endLoop (P := P) hl (by rw [hR]; simp)
      rw [hR] at hend
      exact ⟨none, _, hend, hdone _ _ (Nat.le_refl _) (hIp _ _ _ _ _ hi (by omega) hl rfl) (hE _ _ _ _ (by omega) hl rfl hE2) ((World.putObj_heap_other (by omega)).trans hd)⟩
end Go.Proofs.Ytjgjhjecgdndjaa
