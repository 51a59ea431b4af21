/- A range over a function whose iterator stores into boxes of its own (the library's laws know of an iterator that keeps all that was there): the loop's record is followed by hand; no early end. -/
import Derived.Test.YtlikmdmdmljiaaaDoorProg
import Derived.RangeFuncNested
import Derived.WalkKit
import Derived.Lib.Hide
namespace Go.Proofs.YtlikmdmdmljiaaaDoor
open Go.RowKit
set_option linter.unusedVariables false
/-- an iterator that hands out xs, if what the loop holds (J) abides its own stores (Tn) -/
def SeqT {α : Type} (F : Fence) (n : Nat) (P : Program) (g : Nat) (lb : Array Value) (encs : α → Array Value) (Kp Tn : World → World → Prop) (xs : List α) (w : World) : Prop :=
  ∀ (l : Nat) (J : List α → World → Prop) (W : World), Below w.heap.size w W → (∀ pre A B, J pre A → Tn A B → J pre B) →
    (∀ pre x A, J pre A → xs[pre.length]? = some x → YieldAt F (n - 1) P l (encs x) A fun e B => e = .returned (.bool true) ∧ J (pre ++ [x]) B ∧ Kp A B) →
    J [] W → CallsIn F n P g (#[.func (.yield l) #[] #[]] ++ lb) W fun e W' => (∃ v, e = .returned v) ∧ J xs W'
theorem wpIn_rangeT {F : Fence} {n : Nat} {P : Program} {α : Type} {g : Operand} {ps : Array Tmp} {assign body : Code} {Q : Exit → Act → World → Prop} {a : Act} {w : World}
    (hro : F.round = none) (h1 : 1 ≤ n) {gf : Nat} {lb : Array Value} (hg : a.eval g = .func (.func gf) #[] lb) (hFg : F.fn gf) (eg : ∀ args w, (callFunc gf args).run P w = .ok (.enter gf args) w)
    {encs : α → Array Value} {Kp Tn : World → World → Prop} {xs : List α} (hseq : SeqT F (n - 1) P gf lb encs Kp Tn xs w)
    (hTn : ∀ A B, Tn A B → ∀ k o, w.heap.size ≤ k → A.heap[k]? = some o → B.heap[k]? = some o)
    (hK1 : ∀ A B l o', w.heap.size ≤ l → Kp (A.putObj l o') B → Kp A B) (hK2 : ∀ A B l o', w.heap.size ≤ l → Kp A B → Kp A (B.putObj l o'))
    (hps : ∀ x, (encs x).size = ps.size) (I : List α → World → Prop)
    (hIp : ∀ pre A l o o', I pre A → w.heap.size ≤ l → A.heap[l]? = some o → o.isCells = false → I pre (A.putObj l o')) (hIa : ∀ pre A o, I pre A → I pre (A.alloc o)) (hIT : ∀ pre A B, I pre A → Tn A B → I pre B)
    (h0 : I [] w) (a₁ : α → Act)
    (hassign : ∀ (l : Nat) (x : α) (W : World) (K : Act → World → Prop), K (a₁ x) W →
      assign.wpIn (F.inRound l) (n - 1 - 1) P (Exit.then K (fun _ _ _ => False)) { tmps := (ps.zip (encs x)).foldl (fun t (p, v) => t.setIfInBounds p v) a.tmps, defers := [] } W)
    (hbody : ∀ (l : Nat) (pre : List α) (x : α) (W : World), w.heap.size ≤ l → I pre W → xs[pre.length]? = some x → body.wpIn (F.inRound l) (n - 1 - 1) P (fun e _ B => e = .normal ∧ KeepsFrom w.heap.size W B ∧ Kp W B ∧ I (pre ++ [x]) B) (a₁ x) W)
    (hdone : ∀ (D : Nat) (W : World), w.heap.size ≤ D → I xs W → W.heap[D]? = some (.deferred (some [])) → Q .normal { a with defers := { target := .collected D, args := #[] } :: a.defers } W) :
    (Code.rangeFunc g ps assign body).wpIn F n P Q a w := by
  refine wpIn_rangeFunc fun fn hfn => ?_
  rw [hro]
  -- the record at each state, and the block of deferred calls
  obtain ⟨R, hR⟩ : ∃ R : LoopState → Loop, R = fun s => { state := s, pending := none, fn, tmps := a.tmps, params := ps, assign, body, defers := w.heap.size } := ⟨_, rfl⟩
  have hfld : ∀ s, (R s).state = s ∧ (R s).pending = none ∧ (R s).params = ps ∧ (R s).tmps = a.tmps ∧ (R s).assign = assign ∧ (R s).body = body ∧ (R s).fn = fn := fun s => by rw [hR]; exact ⟨rfl, rfl, rfl, rfl, rfl, rfl, rfl⟩
  have hturn : ∀ s t, { R s with state := t } = R t := fun s t => by rw [hR]
  have hW : (w.alloc (.deferred (some []))).heap.size = w.heap.size + 1 := by simp
  let W1 := (w.alloc (.deferred (some []))).alloc (.loop (R .ready))
  have hl1 : W1.heap[w.heap.size + 1]? = some (.loop (R .ready)) := by
    have := World.alloc_heap_new (w.alloc (.deferred (some []))) (.loop (R .ready))
    rwa [hW] at this
  have hd1 : W1.heap[w.heap.size]? = some (.deferred (some [])) := (Below.heap_alloc _ _ _ (by rw [hW]; omega)).trans (World.alloc_heap_new w _)
  have hb1 : Below w.heap.size w W1 := ((Below.refl _ w).alloc (Nat.le_refl _) _).alloc (by rw [hW]; omega) _
  refine ⟨w.heap.size + 1, [{ target := .collected w.heap.size, args := #[] }], W1, { target := .fn (.func gf) lb, args := #[.func (.yield (w.heap.size + 1)) #[] #[]] }, W1, gf, #[.func (.yield (w.heap.size + 1)) #[] #[]] ++ lb, W1, ?_, ?_, ?_, ?_, fun _ => h1, ?_⟩
  · show _ = Result.ok _ ((w.alloc (.deferred (some []))).alloc (.loop (R .ready)))
    rw [hR]; exact run_enterLoop_outer _ _ _ _ _
  · simp only [resolve, hg]
    simp [go_sem]
  · intro f' hf'; simp [Target.leads] at hf'; subst hf'; exact hFg
  · simp [invoke, go_sem, eg]
  · refine (hseq (w.heap.size + 1) (fun pre A => I pre A ∧ A.heap[w.heap.size + 1]? = some (.loop (R .ready)) ∧ A.heap[w.heap.size]? = some (.deferred (some []))) W1 hb1
      (fun pre A B h ht => ⟨hIT pre A B h.1 ht, hTn A B ht _ _ (by omega) h.2.1, hTn A B ht _ _ (Nat.le_refl _) h.2.2⟩) ?_ ⟨hIa _ _ _ (hIa _ _ _ h0), hl1, hd1⟩).mono ?_
    · rintro pre x A ⟨hi, hl, hd⟩ hlen
      have hlt : w.heap.size + 1 < A.heap.size := (Array.getElem?_eq_some_iff.1 hl).1
      have hy := run_yield (P := P) (args := encs x) hl (by rw [(hfld .ready).2.2.1]; exact hps x)
      obtain ⟨f1, f2, f3, f4, f5, f6, f7⟩ := hfld .ready
      rw [f3, f4, f5, f6, f7] at hy
      have hbg := run_beginRound (P := P) hl f1
      rw [hturn] at hbg
      have hl2 : (A.putObj (w.heap.size + 1) (.loop (R .busy))).heap[w.heap.size + 1]? = some (.loop (R .busy)) := World.putObj_heap_same hlt
      have hd2 : (A.putObj (w.heap.size + 1) (.loop (R .busy))).heap[w.heap.size]? = some (.deferred (some [])) := (World.putObj_heap_other (by omega)).trans hd
      refine ⟨fn, _, assign, body, hy, roundIn_of_wpIn hfn (hassign _ x A _ ⟨_, hbg, wpIn_mono (hbody (w.heap.size + 1) pre x _ (by omega) (hIp _ _ _ _ _ hi (by omega) hl rfl) hlen) ?_⟩)⟩
      rintro e a3 B ⟨rfl, hk, hkp, hi3⟩
      have hl3 := hk.same _ _ (by omega) hl2 rfl
      have hd3 := hk.same _ _ (Nat.le_refl _) hd2 rfl
      have hen := run_endRound (P := P) none hl3
      have hrec : { R .busy with state := (if (none : Option Code).isNone then .ready else .done), pending := none } = R .ready := by rw [hR]; rfl
      rw [hrec] at hen
      exact ⟨_, _, hen, rfl, ⟨hIp _ _ _ _ _ hi3 (by omega) hl3 rfl, World.putObj_heap_same (Array.getElem?_eq_some_iff.1 hl3).1, (World.putObj_heap_other (by omega)).trans hd3⟩, hK2 _ _ _ _ (by omega) (hK1 _ _ _ _ (by omega) hkp)⟩
    · rintro e W2 ⟨⟨v, rfl⟩, hi, hl, hd⟩
      obtain ⟨f1, f2, _⟩ := hfld .ready
      have hend := run_endLoop (P := P) hl (by rw [f1]; simp)
      rw [f2] at hend
      exact ⟨none, _, hend, hdone _ _ (Nat.le_refl _) (hIp _ _ _ _ _ hi (by omega) hl rfl) ((World.putObj_heap_other (by omega)).trans hd)⟩
end Go.Proofs.YtlikmdmdmljiaaaDoor
