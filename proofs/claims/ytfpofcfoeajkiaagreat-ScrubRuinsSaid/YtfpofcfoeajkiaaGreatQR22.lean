/- Texts of this claim's author, packed: ScopeIn, ScrQuiet, ScrRead, ArgsW, ArgsX. Conditions: none. -/
import Derived.Test.YtfpofcfoeajkiaaGreatQR01
import Derived.Scope
import Derived.ControlIn
import Derived.Sort.QuietIn
import Derived.Test.YtfpofcfoeajkiaaGreatQR21
import Derived.WalkMore
import Derived.Shelf.RegionOpen
import Derived.SizedLaws
/- Plain: a scope within a fence, through which the run goes without a jump. -/
namespace Go.Proofs.YtfpofcfoeajkiaaGreat
variable {F : Fence} {n : Nat} {P : Program} {b : Frame} {a : Act} {k : List Item} {cs : List Frame} {w : World} {Q : Exit → Act → World → Prop}
theorem stepR_scope {c : Code} : step P (lone (b.atR a (.code (.scope c) :: k)) cs w) = .next (lone (b.atR a (.code c :: .inScope c :: k)) cs w) :=
  step_lone_go (by simp [stepG, stepG.exec, Frame.atR])
theorem stepR_inScope {c : Code} : step P (lone (b.atR a (.inScope c :: k)) cs w) = .next (lone (b.atR a k) cs w) :=
  step_lone_go (by simp [stepG, stepG.exec, Frame.atR])
theorem wpIn_scope {c : Code} (h : c.wpIn F n P (Exit.noGoto Q) a w) : (Code.scope c).wpIn F n P Q a w := by
  intro b k cs hro hb hr
  have h0 : (lone (b.atR a (.code (.scope c) :: k)) cs w).fenced P F := fenced_calm hb hr rfl
  obtain ⟨e, a₁, w₁, hq, harr⟩ := h b (.inScope c :: k) cs hro hb hr
  cases e with
  | normal => exact ⟨.normal, a₁, w₁, hq, .head h0 stepR_scope (StepsIn.trans harr (.one (fenced_calm hb hr rfl) stepR_inScope))⟩
  | exit id =>
    have hx : exitTo id (.inScope c :: k) = exitTo id k := by simp [exitTo]
    exact ⟨.exit id, a₁, w₁, hq, fun k' hk => .head h0 stepR_scope (harr.1 k' (by rw [hx]; exact hk)),
      fun hr' hk => let ⟨k₁, h1, h2⟩ := harr.2 hr' (by rw [hx]; exact hk); ⟨k₁, h1, .head h0 stepR_scope h2⟩⟩
  | goto l => exact hq.elim
  | ret => exact ⟨_, a₁, w₁, hq, .of_steps (.one h0 stepR_scope) harr⟩
  | panic ch => exact ⟨_, a₁, w₁, hq, .of_steps (.one h0 stepR_scope) harr⟩
  | outgrown => exact ⟨_, a₁, w₁, hq, .of_steps (.one h0 stepR_scope) harr⟩
end Go.Proofs.YtfpofcfoeajkiaaGreat
/- A quiet region that draws its order, within a round of a range over a function: no operation of it is a defer. -/
namespace Go.Proofs.YtfpofcfoeajkiaaGreat
section
variable {F : Fence} {n : Nat} {P : Program} {ops : Array Oper} {md : Region.Mode} {C : World → Prop}
def noDefer (ops : Array Oper) : Bool := ops.all fun o => match o.op with | .defer _ => false | _ => true
theorem noDefer_spec {ops : Array Oper} (h : noDefer ops = true) (i : Nat) (o : Oper) (ho : ops[i]? = some o) : ∀ c, o.op ≠ .defer c := by
  intro c hc
  unfold noDefer at h
  obtain ⟨hi, he⟩ := Array.getElem?_eq_some_iff.1 ho
  have := (Array.all_eq_true.1 h) i hi
  rw [he, hc] at this
  cases this
theorem oper_wpIn_of_quiet {o : Oper} {a : Act} {K : Act → Prop} {K' : Act → World → Prop} {Q' : Exit → Act → World → Prop} {w : World} (hnd : ∀ c, o.op ≠ .defer c) (hw : C w) (h : ∀ a w', C w' → K a → K' a w')
    (ha : o.askedIn F P a C) (hh : o.quietIn F n P a C K) : o.wpIn F n P a w K' Q' := by
  obtain ⟨v, h1, h2⟩ := hh
  have h3 := h1 w hw
  unfold Oper.quietAtIn at h3
  unfold Oper.wpIn
  refine ⟨ha w hw, ?_⟩
  rw [Oper.semAt_eq _ _ _ hnd]
  generalize (execOp a.eval o).run P w = r at *
  cases r with
  | ok x w' =>
    cases x <;> simp only [Oper.quietUponIn] at h3 <;> simp only [Oper.uponIn]
    case value u =>
      obtain ⟨e1, e2⟩ := h3
      rw [e1, e2]
      exact h _ _ hw h2
    case skip =>
      obtain ⟨e1, e2⟩ := h3
      rw [e1, ← e2]
      exact h _ _ hw h2
    case enter f args =>
      obtain ⟨e1, hd, hc⟩ := h3
      rw [e1]
      exact ⟨hd, hc.mono fun e w'' ⟨he, hw''⟩ => by subst he; exact h _ _ hw'' h2⟩
  | halt x w' => simp only [Oper.quietUponIn] at h3
theorem wpOpIn_of_qOpInR {i : Nat} {a : Act} {K : Act → Prop} {K' : Act → World → Prop} {Q' : Exit → Act → World → Prop} {w : World} (hnd : noDefer ops = true) (hC : C w) (h : ∀ a w', C w' → K a → K' a w')
    (hh : qOpIn F n P ops C i K a) : wpOpIn F n P ops Q' i K' a w := by
  unfold qOpIn at hh
  unfold wpOpIn
  split
  · rename_i ho; simp only [ho] at hh; exact h _ _ hC hh
  · rename_i o ho
    simp only [ho] at hh
    obtain ⟨ha, hh⟩ := hh
    split
    · rename_i hw; simp only [hw, if_true] at hh; exact oper_wpIn_of_quiet (noDefer_spec hnd i o ho) hC h ha hh
    · rename_i hw; simp only [hw] at hh; exact ⟨ha w hC, h _ _ hC hh⟩
theorem wpAnyIn_of_quietR {Q : Act → Prop} {Q' : Exit → Act → World → Prop} (hnd : noDefer ops = true) (hQ : ∀ a w, C w → Q a → Q' .normal a w) : ∀ (fuel : Nat) (listed : Array Bool) (a : Act) (w : World), C w →
    wpAnyQIn F n P md ops C Q fuel listed a → wpAnyIn F n P md ops Q' fuel listed a w
  | 0, _, _, _, hw, h => ⟨h.1, hQ _ _ hw h.2⟩
  | fuel + 1, _, _, _, hw, h => ⟨fun h0 => hQ _ _ hw (h.1 h0), fun i hi => wpOpIn_of_qOpInR hnd hw (fun a' w' hw' => wpAnyIn_of_quietR hnd hQ fuel _ a' w' hw') (h.2 i hi)⟩
theorem wpIn_region_quietR {id : Nat} {Q : Exit → Act → World → Prop} {a : Act} {w : World} (hnd : noDefer ops = true) (hm : P.follows .mixedOrders = true) (hB : Region.lexB .any ops = true) (hC : C { w with drawn := w.drawn + 1 })
    (h : wpQuietIn F n P ops C (fun a' => ∀ w', C w' → Q .normal a' w') ops.toList a) : (Code.region id ops true).wpIn F n P Q a w := by
  simp only [Region.lexB, Bool.and_eq_true] at hB
  refine wpIn_region_any hm (wpAnyIn_of_quietR (Q := fun a' => ∀ w', C w' → Q .normal a' w') hnd (fun _ w' hw' h => h w' hw') _ _ _ _ hC ?_)
  have := wpAnyQIn_lex (F := F) (n := n) (C := C) (md := .any) hB.1 ops.toList 0 (Array.replicate ops.size false) a (by simp) (by simpa using hB.2) h
  simpa using this
/-- as wpIn_region_quiet_lit, for a fence with a round -/
theorem wpIn_region_quietR_lit {id : Nat} {Q : Exit → Act → World → Prop} {a : Act} {w : World} {l : List Oper} (hnd : noDefer l.toArray = true) (hm : P.follows .mixedOrders = true) (hB : Region.lexB .any l.toArray = true)
    (h : wpQuietIn F n P l.toArray (fun w' => ∃ n, w' = w.drewN n) (fun a' => ∀ w', (∃ n, w' = w.drewN n) → Q .normal a' w') l a) : (Code.region id l.toArray true).wpIn F n P Q a w :=
  wpIn_region_quietR (C := fun w' => ∃ n, w' = w.drewN n) hnd hm hB ⟨1, rfl⟩ (by simpa using h)
end
end Go.Proofs.YtfpofcfoeajkiaaGreat
/- scrub.Read: its walk. -/
namespace Go.Proofs.YtfpofcfoeajkiaaGreat
open Go.RowKit Go.Shelf
attribute [local go_sem] Oper.semAt_some
set_option linter.unusedVariables false
set_option linter.unusedSimpArgs false
theorem FinM.kept {B0 F M : Nat} {st : FS} {W W' : World} (h : FinM B0 F M st W) (hF : W'.heap[F]? = W.heap[F]?) (hM : W'.heap[M]? = W.heap[M]?) (hg : ∀ g, B0 ≤ g → (∃ cur, W.heap[g]? = some (.cells cur 46 (0, 0))) → W'.heap[g]? = W.heap[g]?) : FinM B0 F M st W' := by
  match st, h with
  | none, ⟨K, P, Z, A, n, c, h1, h2⟩ => exact ⟨K, P, Z, A, n, c, hF.trans h1, h2.same hM⟩
  | some (a, b, c, l, dn), ⟨g, cap, h0, h1, h2, h3, h4, h5, h6, h7, h8, h9, h10⟩ => exact ⟨g, cap, h0, hF.trans h1, h2.same (hg g h0 h2.blk), h3, h4, h5, h6, h7.same hM, h8, h9, h10⟩
theorem take_fin (B0 F M : Nat) (st : FS) (t : ByteArray) (ht : t.size ≤ 1000000) (w : World) (h : FinM B0 F M st w) (hFM : F ≠ M) (hB : B0 ≤ w.heap.size) :
    Calls Tryz.prog 18 #[.pointer (some ⟨F, 0, none⟩), .string t] w fun e w' => (∃ v, e = .returned v) ∧ FinM B0 F M (stepF st t) w' ∧ ChgF B0 F M w w' := by
  match st, h with
  | none, h => exact take_none B0 F M t ht w h hFM hB
  | some (a, b, c, l, dn), h => exact take_some B0 F M a b c l dn t ht w h hFM hB
/-- what holds in scrub.Read behind a frame -/
structure RdI (w : World) (st : FS) (W : World) : Prop where
  fin : FinM (w.heap.size + 5) (w.heap.size + 2) (w.heap.size + 1) st W
  ptr : W.heap[w.heap.size + 3]? = some (.cells #[.pointer (some ⟨w.heap.size + 2, 0, none⟩)] 47 (0, 0))
  res : W.heap[w.heap.size]? = some (.cells #[.int .i64 0, .int .i64 0, .int .i64 0, .slice none 0 0] 24 (0, 0))
  low : Below w.heap.size w W
  size : w.heap.size + 5 ≤ W.heap.size
theorem RdI.kept {w : World} {st : FS} {W W' : World} (h : RdI w st W) (hk : ∀ k, k < w.heap.size + 4 → W'.heap[k]? = W.heap[k]?) (hg : ∀ g, w.heap.size + 5 ≤ g → (∃ cur, W.heap[g]? = some (.cells cur 46 (0, 0))) → W'.heap[g]? = W.heap[g]?) (hs : W.heap.size ≤ W'.heap.size) (ho : W'.os = W.os ∧ W'.tape = W.tape ∧ W'.output = W.output) : RdI w st W' :=
  ⟨h.fin.kept (hk _ (by omega)) (hk _ (by omega)) hg, (hk _ (by omega)).trans h.ptr, (hk _ (by omega)).trans h.res, ⟨ho.1.trans h.low.os, ho.2.1.trans h.low.tape, ho.2.2.trans h.low.output, Nat.le_trans h.low.size hs, fun k hk' => (hk k (by omega)).trans (h.low.block k hk')⟩, Nat.le_trans h.size hs⟩
theorem RdI.below {w : World} {st : FS} {W W' : World} (h : RdI w st W) (hb : Below W.heap.size W W') : RdI w st W' :=
  h.kept (fun k hk => hb.block k (by have := h.size; omega)) (fun g _ hg => by obtain ⟨cur, hc⟩ := hg; exact hb.block g (Array.getElem?_eq_some_iff.1 hc).1) hb.size ⟨hb.os, hb.tape, hb.output⟩
theorem RdI.tn {w : World} {st : FS} {W W' : World} (h : RdI w st W) (ht : TnS (w.heap.size + 4) W W') : RdI w st W' := by
  rcases ht with hb | ⟨v, rfl⟩
  · exact h.below hb
  · exact h.kept (fun k hk => Below.heap_setCell _ _ _ _ (by dsimp only; omega)) (fun g hg _ => Below.heap_setCell _ _ _ _ (by dsimp only; omega)) (by rw [World.size_setCell]; exact Nat.le_refl _) ⟨rfl, rfl, rfl⟩
theorem RdI.put {w : World} {st : FS} {W : World} (h : RdI w st W) {l : Nat} (hl : w.heap.size + 5 ≤ l) {o o' : Obj} (ho : W.heap[l]? = some o) (hc : o.isCells = false) : RdI w st (W.putObj l o') :=
  h.kept (fun k hk => World.putObj_heap_other (by omega)) (fun g hg hcu => by
    obtain ⟨cur, hcu⟩ := hcu
    exact World.putObj_heap_other (fun e => by subst e; rw [ho] at hcu; cases hcu; cases hc)) (by rw [World.putObj_size]; exact Nat.le_refl _) ⟨rfl, rfl, rfl⟩
theorem RdI.alloc {w : World} {st : FS} {W : World} (h : RdI w st W) (o : Obj) : RdI w st (W.alloc o) := h.below ((Below.refl _ _).alloc (Nat.le_refl _) o)
theorem RdI.take {w : World} {st st' : FS} {W W' : World} (h : RdI w st W) (hf : FinM (w.heap.size + 5) (w.heap.size + 2) (w.heap.size + 1) st' W') (hc : ChgF (w.heap.size + 5) (w.heap.size + 2) (w.heap.size + 1) W W') : RdI w st' W' := by
  have hk : ∀ k, k < w.heap.size + 5 → k ≠ w.heap.size + 2 → k ≠ w.heap.size + 1 → W'.heap[k]? = W.heap[k]? := fun k hk h1 h2 => by
    have hlt : k < W.heap.size := by have := h.size; omega
    have := hc.same k W.heap[k] (Array.getElem?_eq_getElem hlt) h1 h2 (fun h3 => by omega)
    rw [this, Array.getElem?_eq_getElem hlt]
  exact ⟨hf, (hk _ (by omega) (by omega) (by omega)).trans h.ptr, (hk _ (by omega) (by omega) (by omega)).trans h.res, ⟨hc.os.trans h.low.os, hc.tape.trans h.low.tape, hc.output.trans h.low.output, Nat.le_trans h.low.size hc.size, fun k hk' => (hk k (by omega) (by omega) (by omega)).trans (h.low.block k hk')⟩, Nat.le_trans h.size hc.size⟩
/-- all shards are there -/
def allD (st : FS) : Prop := ∃ a b c l dn, st = some (a, b, c, l, dn) ∧ ∀ i, i < l.length → dn i = true
theorem takeS_all {l : List Shd} {dn : Nat → Bool} (h : ∀ i, i < l.length → dn i = true) (t : ByteArray) : takeS l dn t = (l, dn) := by
  unfold takeS
  split
  · rfl
  · rename_i x hx
    have hlt := (List.getElem?_eq_some_iff.1 hx).1
    rw [if_neg (fun hh => by rw [h _ hlt] at hh; cases hh.2.1)]
theorem allD_step {st : FS} (h : allD st) (t : ByteArray) : stepF st t = st := by
  obtain ⟨a, b, c, l, dn, rfl, hd⟩ := h
  unfold stepF
  dsimp only
  rw [takeS_all hd]
theorem allD_fold {st : FS} (h : allD st) : ∀ L : List ByteArray, L.foldl stepF st = st
  | [] => rfl
  | t :: L => by rw [List.foldl_cons, allD_step h, allD_fold h L]
def readS (L : List ByteArray) : FS := L.foldl stepF none
theorem readS_take (L : List ByteArray) (i : Nat) (x : ByteArray) (h : L[i]? = some x) : readS (L.take (i + 1)) = stepF (readS (L.take i)) x := by
  have hlt := (List.getElem?_eq_some_iff.1 h).1
  have e : L[i] = x := (List.getElem?_eq_some_iff.1 h).2
  unfold readS
  rw [List.take_succ_eq_append_getElem hlt, List.foldl_append, e]
  rfl
theorem readS_all (L : List ByteArray) (i : Nat) (h : allD (readS (L.take i))) : readS (L.take i) = readS L := by
  have : readS L = (L.drop i).foldl stepF (readS (L.take i)) := by
    unfold readS
    rw [← List.foldl_append, List.take_append_drop]
  rw [this, allD_fold h]
def ReadPost (B : Nat) (o : FS) (e : Ending) (w' : World) : Prop :=
  (o = none → e = .returned (.tuple #[.agg #[.int .i64 0, .int .i64 0, .int .i64 0, .slice none 0 0], .int .i64 5])) ∧
  (∀ a b c l dn, o = some (a, b, c, l, dn) → ∃ g cap, e = .returned (.tuple #[.agg #[.int .i64 (a : Nat), .int .i64 (b : Nat), .int .i64 (c : Nat), .slice (some ⟨g, 0, none⟩) l.length cap], .int .i64 0]) ∧ RowW w' g l ∧ l.length ≤ cap ∧ cap ≤ maxLen ∧ B ≤ g)
theorem cells4 {W : World} {F : Nat} {a b c d : Value} {ty : Nat} (h : W.heap[F]? = some (.cells #[a, b, c, d] ty (0, 0))) :
    W.cell? ⟨F, 0, none⟩ = some a ∧ W.cell? ⟨F, 1, none⟩ = some b ∧ W.cell? ⟨F, 2, none⟩ = some c ∧ W.cell? ⟨F, 3, none⟩ = some d ∧ ∀ j, W.frozen? ⟨F, j, none⟩ = false := by
  refine ⟨?_, ?_, ?_, ?_, fun j => ?_⟩
  · unfold World.cell?; rw [h]; rfl
  · unfold World.cell?; rw [h]; rfl
  · unfold World.cell?; rw [h]; rfl
  · unfold World.cell?; rw [h]; rfl
  · unfold World.frozen?; rw [h]; simp [go_sem]
theorem setq {w : World} {b : Nat} {x0 x1 x2 x3 : Value} {t : Nat} (h : w.heap[b]? = some (.cells #[x0, x1, x2, x3] t (0, 0))) (u : Value) :
    (w.setCell ⟨b, 0, none⟩ u).heap[b]? = some (.cells #[u, x1, x2, x3] t (0, 0)) ∧ (w.setCell ⟨b, 1, none⟩ u).heap[b]? = some (.cells #[x0, u, x2, x3] t (0, 0)) ∧ (w.setCell ⟨b, 2, none⟩ u).heap[b]? = some (.cells #[x0, x1, u, x3] t (0, 0)) ∧ (w.setCell ⟨b, 3, none⟩ u).heap[b]? = some (.cells #[x0, x1, x2, u] t (0, 0)) := by
  obtain ⟨hlt, hk⟩ := Array.getElem?_eq_some_iff.1 h
  refine ⟨?_, ?_, ?_, ?_⟩ <;> (show (w.heap.modify b _)[b]? = _; rw [Array.getElem?_eq_getElem (by rw [Array.size_modify]; exact hlt), Array.getElem_modify_self, hk]; rfl)
theorem putl {W : World} {D k : Nat} {o : Obj} {x : Option Obj} (hk : k ≠ D) (h : W.heap[k]? = x) : (W.putObj D o).heap[k]? = x := (World.putObj_heap_other hk).trans h
theorem puto (W : World) (D : Nat) (o : Obj) : (W.putObj D o).os = W.os ∧ (W.putObj D o).tape = W.tape ∧ (W.putObj D o).output = W.output := ⟨rfl, rfl, rfl⟩
structure Set4 (W W' : World) (F D : Nat) (u0 u1 u2 u3 : Value) : Prop where
  at' : ∃ ty, W'.heap[F]? = some (.cells #[u0, u1, u2, u3] ty (0, 0))
  same : ∀ k, k ≠ F → k ≠ D → W'.heap[k]? = W.heap[k]?
  size : W'.heap.size = W.heap.size
  os : W'.os = W.os
  tape : W'.tape = W.tape
  output : W'.output = W.output
theorem set4_at {W : World} {F D : Nat} {a b c d : Value} {ty : Nat} (h : W.heap[F]? = some (.cells #[a, b, c, d] ty (0, 0))) (u0 u1 u2 u3 : Value) (o : Obj) (hD : D ≠ F) :
    Set4 W ((((((W.setCell ⟨F, 0, none⟩ u0).setCell ⟨F, 1, none⟩ u1).setCell ⟨F, 2, none⟩ u2).setCell ⟨F, 3, none⟩ u3)).putObj D o) F D u0 u1 u2 u3 := by
  have s3 := (setq ((setq ((setq ((setq h u0).1) u1).2.1) u2).2.2.1) u3).2.2.2
  have hb := ((((Below.refl 0 W).setCell (p := ⟨F, 0, none⟩) (Nat.zero_le _) u0).setCell (p := ⟨F, 1, none⟩) (Nat.zero_le _) u1).setCell (p := ⟨F, 2, none⟩) (Nat.zero_le _) u2).setCell (p := ⟨F, 3, none⟩) (Nat.zero_le _) u3
  refine ⟨⟨ty, putl (Ne.symm hD) s3⟩, fun k hk1 hk2 => ?_, ?_, (puto _ _ _).1.trans hb.os, (puto _ _ _).2.1.trans hb.tape, (puto _ _ _).2.2.trans hb.output⟩
  · rw [World.putObj_heap_other hk2, Below.heap_setCell _ _ _ _ hk1, Below.heap_setCell _ _ _ _ hk1, Below.heap_setCell _ _ _ _ hk1, Below.heap_setCell _ _ _ _ hk1]
  · rw [World.putObj_size]; simp
theorem set4_def {W : World} {F D : Nat} (u0 u1 u2 u3 : Value) {o : Obj} (h : W.heap[D]? = some o) (hD : D ≠ F) :
    ((((W.setCell ⟨F, 0, none⟩ u0).setCell ⟨F, 1, none⟩ u1).setCell ⟨F, 2, none⟩ u2).setCell ⟨F, 3, none⟩ u3).heap[D]? = some o := by
  rw [Below.heap_setCell _ _ _ _ hD, Below.heap_setCell _ _ _ _ hD, Below.heap_setCell _ _ _ _ hD, Below.heap_setCell _ _ _ _ hD, h]
theorem Set4.cells {W W' : World} {F D : Nat} {u0 u1 u2 u3 : Value} (h : Set4 W W' F D u0 u1 u2 u3) : W'.cell? ⟨F, 0, none⟩ = some u0 ∧ W'.cell? ⟨F, 1, none⟩ = some u1 ∧ W'.cell? ⟨F, 2, none⟩ = some u2 ∧ W'.cell? ⟨F, 3, none⟩ = some u3 := by
  obtain ⟨ty, h⟩ := h.at'
  obtain ⟨a, b, c, d, _⟩ := cells4 h
  exact ⟨a, b, c, d⟩
theorem Set4.low {w W W' : World} {D : Nat} {u0 u1 u2 u3 : Value} (h : Set4 W W' w.heap.size D u0 u1 u2 u3) (hb : Below w.heap.size w W) (hD : w.heap.size ≤ D) : Below w.heap.size w W' :=
  ⟨h.os.trans hb.os, h.tape.trans hb.tape, h.output.trans hb.output, by rw [h.size]; exact hb.size, fun k hk => (h.same k (by omega) (by omega)).trans (hb.block k hk)⟩
set_option maxRecDepth 100000 in
set_option maxHeartbeats 4000000 in
theorem read_in (s : ByteArray) (hs : s.size ≤ 1000000) (w : World) :
    CallsIn Fence.wide 10 Tryz.prog 7 #[.string s] w fun e w' => ReadPost w.heap.size (readS (framesL s.data.toList)) e w' ∧ Below w.heap.size w w' := by
  have hro : Fence.wide.round = none := rfl
  have hmm := @run_makeMap Tryz.prog
  refine callsIn_of_wp_marks Tryz.func7 rfl trivial ?_ hro
  simp only [Tryz.ntmps7, List.size_toArray, List.length_cons, List.length_nil, Nat.reduceAdd, Nat.reduceSub, Array.replicate_succ, Array.replicate_zero, List.push_toArray, List.append_toArray, List.nil_append, List.cons_append]
  gi_wp2_with fail
  refine wpIn_scope ?_
  gi_wp2_with fail
  refine wpIn_label ?_
  gi_wp2_with fail
  refine ⟨trivial, (callsIn_wide.2 (pframes_any _ _)).mono ?_⟩
  rintro e w' ⟨rfl, rfl⟩
  gi_wp2_with fail
  obtain ⟨W0, hW0⟩ : ∃ W0, (((((w.alloc (.cells #[.int .i64 0, .int .i64 0, .int .i64 0, .slice none 0 0] 24)).alloc (.map #[] 0)).alloc (.cells #[.int .i64 0, .int .i64 0, .int .i64 0, .slice none 0 0, .bool false, .map (some (w.heap.size + 1))] 50)).alloc (.cells #[.pointer (some ⟨w.heap.size + 1 + 1, 0, none⟩)] 47)).alloc (.cells #[.string s] 9)) = W0 := ⟨_, rfl⟩
  have hq : W0.heap.size = w.heap.size + 5 := by rw [← hW0]; simp
  have hg0 : W0.heap[w.heap.size]? = some (.cells #[.int .i64 0, .int .i64 0, .int .i64 0, .slice none 0 0] 24 (0, 0)) := by
    rw [← hW0]
    rw [Below.heap_alloc _ _ _ (by simp <;> omega), Below.heap_alloc _ _ _ (by simp <;> omega), Below.heap_alloc _ _ _ (by simp <;> omega), Below.heap_alloc _ _ _ (by simp)]
    exact World.alloc_heap_new w _
  have hg1 : W0.heap[w.heap.size + 1]? = some (.map #[] 0) := by
    rw [← hW0]
    rw [Below.heap_alloc _ _ _ (by simp <;> omega), Below.heap_alloc _ _ _ (by simp <;> omega), Below.heap_alloc _ _ _ (by simp)]
    have h := World.alloc_heap_new (w.alloc (.cells #[.int .i64 0, .int .i64 0, .int .i64 0, .slice none 0 0] 24)) (.map #[] 0)
    rwa [World.size_alloc] at h
  have hg2 : W0.heap[w.heap.size + 2]? = some (.cells #[.int .i64 0, .int .i64 0, .int .i64 0, .slice none 0 0, .bool false, .map (some (w.heap.size + 1))] 50 (0, 0)) := by
    rw [← hW0]
    rw [Below.heap_alloc _ _ _ (by simp <;> omega), Below.heap_alloc _ _ _ (by simp)]
    have h := World.alloc_heap_new ((w.alloc (.cells #[.int .i64 0, .int .i64 0, .int .i64 0, .slice none 0 0] 24)).alloc (.map #[] 0)) (.cells #[.int .i64 0, .int .i64 0, .int .i64 0, .slice none 0 0, .bool false, .map (some (w.heap.size + 1))] 50)
    rwa [World.size_alloc, World.size_alloc] at h
  have hg3 : W0.heap[w.heap.size + 3]? = some (.cells #[.pointer (some ⟨w.heap.size + 2, 0, none⟩)] 47 (0, 0)) := by
    rw [← hW0]
    rw [Below.heap_alloc _ _ _ (by simp)]
    have h := World.alloc_heap_new (((w.alloc (.cells #[.int .i64 0, .int .i64 0, .int .i64 0, .slice none 0 0] 24)).alloc (.map #[] 0)).alloc (.cells #[.int .i64 0, .int .i64 0, .int .i64 0, .slice none 0 0, .bool false, .map (some (w.heap.size + 1))] 50)) (.cells #[.pointer (some ⟨w.heap.size + 1 + 1, 0, none⟩)] 47)
    rwa [World.size_alloc, World.size_alloc, World.size_alloc] at h
  have hg4 : Boxed W0 (w.heap.size + 4) 9 (.string s) := by
    rw [← hW0]
    have h := World.alloc_heap_new ((((w.alloc (.cells #[.int .i64 0, .int .i64 0, .int .i64 0, .slice none 0 0] 24)).alloc (.map #[] 0)).alloc (.cells #[.int .i64 0, .int .i64 0, .int .i64 0, .slice none 0 0, .bool false, .map (some (w.heap.size + 1))] 50)).alloc (.cells #[.pointer (some ⟨w.heap.size + 1 + 1, 0, none⟩)] 47)) (.cells #[.string s] 9)
    rwa [World.size_alloc, World.size_alloc, World.size_alloc, World.size_alloc] at h
  have hlow : Below w.heap.size w W0 := by rw [← hW0]; exact (((((Below.refl _ w).alloc (Nat.le_refl _) _).alloc (by simp) _).alloc (by simp; omega) _).alloc (by simp; omega) _).alloc (by simp; omega) _
  have hset : SetI W0 (w.heap.size + 1) 0 (fun _ => false) := by
    have h := SetI.made (w.alloc (.cells #[.int .i64 0, .int .i64 0, .int .i64 0, .slice none 0 0] 24))
    rw [World.size_alloc] at h
    refine h.same (hg1.trans ?_)
    have h2 := World.alloc_heap_new (w.alloc (.cells #[.int .i64 0, .int .i64 0, .int .i64 0, .slice none 0 0] 24)) (.map #[] 0)
    rw [World.size_alloc] at h2
    exact h2.symm
  have hI0 : RdI w none W0 := ⟨⟨0, 0, 0, none, 0, 0, hg2, hset⟩, hg3, hg0, hlow, by omega⟩
  rw [hW0]
  clear hW0 hg0 hg1 hg2 hg3 hlow hset
  obtain ⟨L, hL⟩ : ∃ L, L = framesL s.data.toList := ⟨_, rfl⟩
  have HL := Lib.hid hL
  have HLS : Hid (∀ t ∈ L, t.size ≤ 1000000) := fun t htm => by
    have := fr_size s.data.toList t (by rw [← hL]; exact htm)
    have h2 : s.data.toList.length = s.size := by simp
    omega
  have hseq := frames1_seq (10 - 1) (by decide) (w.heap.size + 4) s (by omega) W0 hg4
  rw [← hL] at hseq
  clear hL
  refine wpIn_rangeTX hro (by decide) (gf := 40) (lb := #[.pointer (some ⟨w.heap.size + 4, 0, none⟩)]) rfl trivial (enters_of Tryz.func40 (by kernel_rfl) rfl) hseq
    (fun V W ht k o hk h => by
      rcases ht with hb | ⟨v, rfl⟩
      · exact (hb.block k (Array.getElem?_eq_some_iff.1 h).1).trans h
      · exact (Below.heap_setCell _ _ _ _ (by dsimp only; omega)).trans h)
    (fun V W l o' hl h => (h : _ = _).trans (World.putObj_heap_other (by omega)))
    (fun V W l o' hl h => (World.putObj_heap_other (by omega)).trans h)
    (fun _ => rfl) (fun i W => RdI w (readS (L.take i)) W) (fun i W => RdI w (readS (L.take i)) W ∧ allD (readS (L.take i))) 0
    (fun i V l o o' h hl ho hc => h.put (by omega) ho hc) (fun i V o h => h.alloc o) (fun i V W h ht => h.tn ht)
    (fun i V l o o' h hl ho hc => ⟨h.1.put (by omega) ho hc, h.2⟩)
    hI0
    ?a1 ?assign ?body ?done ?stop
  case a1 => exact fun x => { tmps := #[.string s, undef, .pointer (some ⟨w.heap.size, 0, none⟩), .int .i64 0, .pointer (some ⟨w.heap.size + 1 + 1 + 1, 0, none⟩), .string x, .map (some (w.heap.size + 1)), .agg #[.int .i64 0, .int .i64 0, .int .i64 0, .slice none 0 0, .bool false, .map (some (w.heap.size + 1))], .pointer (some ⟨w.heap.size + 1 + 1, 0, none⟩), .string s, .func (.func 40) #[] #[.pointer (some ⟨w.heap.size + 1 + 1 + 1 + 1, 0, none⟩)], .string x, undef, undef, undef, undef, undef, undef, undef, undef, undef, undef, undef, undef, undef, undef, undef, undef, undef, undef, undef, undef, undef, undef, undef, undef, undef, undef, undef, undef, undef, undef, undef], defers := [] }
  case assign =>
    intro l x W K hK
    gi_wp2
    exact hK
  case body =>
    intro l i x W hlW hI hx
    have hxs := HLS.out x (List.mem_of_getElem? hx)
    have HT := Lib.hid (take_fin (w.heap.size + 5) (w.heap.size + 2) (w.heap.size + 1) (readS (L.take i)) x hxs W hI.fin (by omega) hI.size)
    have HRD := Lib.hid (readS_take L i x hx)
    have HI := Lib.hid hI
    have p0 : W.cell? ⟨w.heap.size + 3, 0, none⟩ = some (.pointer (some ⟨w.heap.size + 2, 0, none⟩)) := by unfold World.cell?; rw [hI.ptr]; rfl
    clear hx hI hseq hg4 hI0
    gi_wp2_with fail
    refine ⟨trivial, (callsIn_wide.2 HT.out).mono ?_⟩
    rintro e W1 ⟨⟨v, rfl⟩, hf, hc⟩
    have hI1 := HI.out.take hf hc
    rw [← HRD.out] at hf hI1
    have HI1 := Lib.hid hI1
    have p1 : W1.cell? ⟨w.heap.size + 3, 0, none⟩ = some (.pointer (some ⟨w.heap.size + 2, 0, none⟩)) := by unfold World.cell?; rw [hI1.ptr]; rfl
    have HKF : Hid (∀ m, KeepsFrom (w.heap.size + 5) W (W1.drewN m)) := fun m => ⟨hc.size, fun k o hk ho hco => hc.same k o ho (by omega) (by omega) (fun _ cur fl e => by subst e; cases hco)⟩
    have HKP : Hid (KpB (w.heap.size + 4) W W1) := by
      have hlt : w.heap.size + 4 < W.heap.size := by have := HI.out.size; omega
      have := hc.same (w.heap.size + 4) W.heap[w.heap.size + 4] (Array.getElem?_eq_getElem hlt) (by omega) (by omega) (fun h => by omega)
      unfold Hid KpB
      rw [this, Array.getElem?_eq_getElem hlt]
    clear hc HI HT HRD p0 hI1
    obtain ⟨st, hst⟩ : ∃ st, readS (L.take (i + 1)) = st := ⟨_, rfl⟩
    rw [hst] at hf
    have HST := Lib.hid hst
    clear hst
    match st, HST, hf with
    | none, HST, ⟨K, P, Z, A, n, c, hb, hm⟩ =>
      obtain ⟨_, _, _, _, k4, _, _⟩ := cells6 hb
      clear hb hm
      gi_wp2_with fail
      refine wpIn_region_quietR_lit (by kernel_rfl) (by kernel_rfl) (by kernel_rfl) ?_
      repeat (gi_big_quiet_step (fail))
      refine wpQuietIn_nil ?_
      intro _ hw'
      obtain ⟨nq, hw''⟩ := hw'
      subst hw''
      gi_wp2_with fail
      exact ⟨HKF.out _, HKP.out, HI1.out.below (Below.drewN (Below.refl _ _) _)⟩
    | some (a, b, c, l', dn), HST, ⟨g, cap, h0, hb, hr, hcl, hcm, h5, h6, hset, h8, h9, h10⟩ =>
      obtain ⟨_, _, _, k3, k4, k5, _⟩ := cells6 hb
      have hlen := fun m ty => (hset.same (w' := W1.drewN m) rfl).len ty
      have hle := cntD_le dn l'.length
      have HALL := Lib.hid (fun h => (cntD_all (dn := dn) (n := l'.length) h))
      clear hb hr hset h8
      generalize cntD dn l'.length = cn at *
      by_cases he : cn = l'.length
      · have he1 : ((cn : Int) == (l'.length : Int)) = true := by simp [he]
        have HD := Lib.hid (HALL.out he)
        clear he HALL
        gi_wp2_with fail
        refine wpIn_region_quietR_lit (by kernel_rfl) (by kernel_rfl) (by kernel_rfl) ?_
        repeat (gi_big_quiet_step (fail))
        refine wpQuietIn_nil ?_
        intro _ hw'
        obtain ⟨nq, hw''⟩ := hw'
        subst hw''
        gi_wp2_with fail
        exact ⟨HKF.out _, HI1.out.below (Below.drewN (Below.refl _ _) _), by rw [HST.out]; exact ⟨a, b, c, l', dn, rfl, HD.out⟩⟩
      · have he1 : ((cn : Int) == (l'.length : Int)) = false := by simp; omega
        clear he HALL
        gi_wp2_with fail
        refine wpIn_region_quietR_lit (by kernel_rfl) (by kernel_rfl) (by kernel_rfl) ?_
        repeat (gi_big_quiet_step (fail))
        refine wpQuietIn_nil ?_
        intro _ hw'
        obtain ⟨nq, hw''⟩ := hw'
        subst hw''
        gi_wp2_with fail
        exact ⟨HKF.out _, HKP.out, HI1.out.below (Below.drewN (Below.refl _ _) _)⟩
  case done =>
    intro D W hD hI hKD
    obtain ⟨st, hst⟩ : ∃ st, readS (framesL s.data.toList) = st := ⟨_, rfl⟩
    rw [List.take_length, HL.out, hst] at hI
    have HST := Lib.hid hst
    have HK := Lib.hid hKD
    have HI := Lib.hid hI
    have hfin := hI.fin
    have p0 : W.cell? ⟨w.heap.size + 3, 0, none⟩ = some (.pointer (some ⟨w.heap.size + 2, 0, none⟩)) := by unfold World.cell?; rw [hI.ptr]; rfl
    obtain ⟨r0, r1, r2, r3, rf⟩ := cells4 hI.res
    clear hst hKD hI hseq hg4 hI0
    match st, HST, hfin, HI with
    | none, HST, ⟨K, P, Z, A, n, c, hb, hm⟩, HI =>
      obtain ⟨_, _, _, _, k4, _, _⟩ := cells6 hb
      clear hb hm
      gi_wp2_with fail
      refine ⟨by simp, .inl ⟨_, _, rfl, run_takeDeferred (set4_def _ _ _ _ HK.out (by omega)), ?_⟩⟩
      have h4 := set4_at HI.out.res (.int .i64 0) (.int .i64 0) (.int .i64 0) (.slice none 0 0) (.deferred none) (D := D) (by omega)
      obtain ⟨e0, e1, e2, e3⟩ := h4.cells
      refine ⟨.tuple #[.agg #[.int .i64 0, .int .i64 0, .int .i64 0, .slice none 0 0], .int .i64 5], ?_, ⟨fun _ => rfl, fun _ _ _ _ _ h => ?_⟩, h4.low HI.out.low (by omega)⟩
      · simp [results, Tryz.f7, go_sem, e0, e1, e2, e3]
      · rw [HST.out] at h; cases h
    | some (a, b, c, l', dn), HST, ⟨g, cap, h0, hb, hr, hcl, hcm, h5, h6, hset, h8, h9, h10⟩, HI =>
      obtain ⟨k0, k1, k2, k3, k4, k5, _⟩ := cells6 hb
      clear hb hset h8
      gi_wp2_with fail
      refine ⟨by simp, .inl ⟨_, _, rfl, run_takeDeferred (set4_def _ _ _ _ HK.out (by omega)), ?_⟩⟩
      have h4 := set4_at HI.out.res (.int .i64 (a : Nat)) (.int .i64 (b : Nat)) (.int .i64 (c : Nat)) (.slice (some ⟨g, 0, none⟩) l'.length cap) (.deferred none) (D := D) (by omega)
      obtain ⟨e0, e1, e2, e3⟩ := h4.cells
      refine ⟨.tuple #[.agg #[.int .i64 (a : Nat), .int .i64 (b : Nat), .int .i64 (c : Nat), .slice (some ⟨g, 0, none⟩) l'.length cap], .int .i64 0], ?_, ⟨fun h => ?_, fun a' b' c' l2 dn' h => ?_⟩, h4.low HI.out.low (by omega)⟩
      · simp [results, Tryz.f7, go_sem, e0, e1, e2, e3]
      · rw [HST.out] at h; cases h
      · rw [HST.out] at h
        cases h
        have hgD : g ≠ D := fun h => by
          obtain ⟨_, h1⟩ := hr.blk
          subst h
          rw [HK.out] at h1
          cases h1
        exact ⟨g, cap, rfl, hr.same (h4.same g (by omega) hgD), hcl, hcm, by omega⟩
  case stop =>
    rintro D i W hD hi ⟨hI, hall⟩ hKD
    obtain ⟨st, hst⟩ : ∃ st, readS (framesL s.data.toList) = st := ⟨_, rfl⟩
    rw [readS_all _ _ hall, HL.out, hst] at hI
    have HST := Lib.hid hst
    have HK := Lib.hid hKD
    have HI := Lib.hid hI
    have hfin := hI.fin
    have p0 : W.cell? ⟨w.heap.size + 3, 0, none⟩ = some (.pointer (some ⟨w.heap.size + 2, 0, none⟩)) := by unfold World.cell?; rw [hI.ptr]; rfl
    obtain ⟨r0, r1, r2, r3, rf⟩ := cells4 hI.res
    clear hst hKD hI hseq hg4 hI0
    match st, HST, hfin, HI with
    | none, HST, ⟨K, P, Z, A, n, c, hb, hm⟩, HI =>
      obtain ⟨_, _, _, _, k4, _, _⟩ := cells6 hb
      clear hb hm
      gi_wp2_with fail
      refine ⟨by simp, .inl ⟨_, _, rfl, run_takeDeferred (set4_def _ _ _ _ HK.out (by omega)), ?_⟩⟩
      have h4 := set4_at HI.out.res (.int .i64 0) (.int .i64 0) (.int .i64 0) (.slice none 0 0) (.deferred none) (D := D) (by omega)
      obtain ⟨e0, e1, e2, e3⟩ := h4.cells
      refine ⟨.tuple #[.agg #[.int .i64 0, .int .i64 0, .int .i64 0, .slice none 0 0], .int .i64 5], ?_, ⟨fun _ => rfl, fun _ _ _ _ _ h => ?_⟩, h4.low HI.out.low (by omega)⟩
      · simp [results, Tryz.f7, go_sem, e0, e1, e2, e3]
      · rw [HST.out] at h; cases h
    | some (a, b, c, l', dn), HST, ⟨g, cap, h0, hb, hr, hcl, hcm, h5, h6, hset, h8, h9, h10⟩, HI =>
      obtain ⟨k0, k1, k2, k3, k4, k5, _⟩ := cells6 hb
      clear hb hset h8
      gi_wp2_with fail
      refine ⟨by simp, .inl ⟨_, _, rfl, run_takeDeferred (set4_def _ _ _ _ HK.out (by omega)), ?_⟩⟩
      have h4 := set4_at HI.out.res (.int .i64 (a : Nat)) (.int .i64 (b : Nat)) (.int .i64 (c : Nat)) (.slice (some ⟨g, 0, none⟩) l'.length cap) (.deferred none) (D := D) (by omega)
      obtain ⟨e0, e1, e2, e3⟩ := h4.cells
      refine ⟨.tuple #[.agg #[.int .i64 (a : Nat), .int .i64 (b : Nat), .int .i64 (c : Nat), .slice (some ⟨g, 0, none⟩) l'.length cap], .int .i64 0], ?_, ⟨fun h => ?_, fun a' b' c' l2 dn' h => ?_⟩, h4.low HI.out.low (by omega)⟩
      · simp [results, Tryz.f7, go_sem, e0, e1, e2, e3]
      · rw [HST.out] at h; cases h
      · rw [HST.out] at h
        cases h
        have hgD : g ≠ D := fun h => by
          obtain ⟨_, h1⟩ := hr.blk
          subst h
          rw [HK.out] at h1
          cases h1
        exact ⟨g, cap, rfl, hr.same (h4.same g (by omega) hgD), hcl, hcm, by omega⟩
theorem pread_any (s : ByteArray) (hs : s.size ≤ 1000000) (w : World) :
    Calls Tryz.prog 7 #[.string s] w fun e w' => ReadPost w.heap.size (readS (framesL s.data.toList)) e w' ∧ Below w.heap.size w w' := callsIn_wide.1 (read_in s hs w)
end Go.Proofs.YtfpofcfoeajkiaaGreat
/- Plain: as Args and Structs, with the bound on all texts that an argument reaches. -/
namespace Go.Proofs.YtfpofcfoeajkiaaGreat
open Go.ChangeShapes Go.WideShapes Go.ChangeAt Go.RowKit Go.Deep
section
variable {H : Type} {enc : TypeId × Value → H} {P : Program} {w : World}
theorem weightsAll_mem {e : TypeId} {d : DataW H} : ∀ {ds : List (DataW H)}, d ∈ ds → ∀ n ∈ d.weights P e, n ∈ DataW.weightsAll P e ds
  | d0 :: ds, h, n, hn => by
    simp only [DataW.weightsAll, List.mem_append]
    rcases List.mem_cons.1 h with rfl | h
    · exact .inl hn
    · exact .inr (weightsAll_mem h n hn)
def OpensW {α : Type} (enc : TypeId × Value → H) (P : Program) (w : World) (t : TypeId) (E : α → List Value) (Q : α → Prop) : Prop :=
  ∀ (fuel : Nat) (cs : List Value) (y : DataW H × List MemPlace), DataW.trod enc P w 0 (fun _ => true) true fuel t cs = some y → (∀ n ∈ y.1.weights P t, n ≤ reachBytes) → ∃ x, cs = E x ∧ Q x
theorem opensW_string {t : TypeId} (ht : P.underlying t = some .string) : OpensW enc P w t EStr (fun s => s.size ≤ 140737488351232) := by
  intro fuel cs y h hW
  obtain ⟨s, rfl, rfl, hs⟩ := DataW.trod_string ht h
  refine ⟨s, rfl, ?_⟩
  have := hW s.data.toList.length (by simp [DataW.weights])
  rw [Array.length_toList] at this
  exact this
theorem opensW_struct2 {α0 α1 : Type} {E0 : α0 → List Value} {E1 : α1 → List Value} {Q0 : α0 → Prop} {Q1 : α1 → Prop} {t : TypeId} {f0 f1 : Field}
    (ht : P.underlying t = some (.struct #[f0, f1])) (hc : [P.cellsOf t, f0.offset, P.cellsOf f0.type, f1.offset, P.cellsOf f1.type] = [2, 0, 1, 1, 1])
    (o0 : OpensW enc P w f0.type E0 Q0) (o1 : OpensW enc P w f1.type E1 Q1) : OpensW enc P w t (ES2 E0 E1) (fun x => Q0 x.1 ∧ Q1 x.2) := by
  intro fuel cs y h hW
  simp only [List.cons.injEq, and_true] at hc
  obtain ⟨c0, c1, c2, c3, c4⟩ := hc
  obtain ⟨xs, n, _, rfl, hl, hlen, hf⟩ := DataW.trod_struct ht h
  match xs, hlen with
  | [y0, y1], _ =>
    have h0 := hf 0 f0 rfl
    have h1 := hf 1 f1 rfl
    rw [c0] at hl
    rw [c1, c2] at h0
    rw [c3, c4] at h1
    have hw0 : ∀ n ∈ y0.1.weights P f0.type, n ≤ reachBytes := fun n hn => hW n (by
      simp only [DataW.weights, ht, List.map_cons, List.map_nil, DataW.weightsEach, List.mem_append]
      exact .inl hn)
    have hw1 : ∀ n ∈ y1.1.weights P f1.type, n ≤ reachBytes := fun n hn => hW n (by
      simp only [DataW.weights, ht, List.map_cons, List.map_nil, DataW.weightsEach, List.mem_append]
      exact .inr (.inl hn))
    match cs, hl with
    | [a0, a1], _ =>
      obtain ⟨x0, e0, q0⟩ := o0 n _ _ h0 hw0
      obtain ⟨x1, e1, q1⟩ := o1 n _ _ h1 hw1
      refine ⟨(x0, x1), ?_, q0, q1⟩
      show [a0, a1] = E0 x0 ++ E1 x1
      rw [← e0, ← e1]
      rfl
theorem opensW_slice {α : Type} {t e : TypeId} {k : Nat} {E : α → List Value} {Q : α → Prop} (ht : P.underlying t = some (.slice e)) (hk : P.cellsOf e = k) (hk0 : 0 < k) (he : OpensW enc P w e E Q) :
    OpensW enc P w t (ESl (α := α)) (fun x => Sl w x.1 x.2.1 x.2.2.1 k (x.2.2.2.flatMap E) ∧ x.2.2.2.length = x.2.1 ∧ (x.1 = none → x.2.2.1 = 0) ∧ ∀ y ∈ x.2.2.2, Q y) := by
  intro fuel cs y h hW
  rcases open_slice ht h with ⟨rfl, rfl⟩ | ⟨a, len, cap, m, n, D, Pl, rfl, _, hl, hm, hmm, rfl, hx⟩
  · exact ⟨(none, 0, 0, []), rfl, ⟨by simp, by simp, by unfold maxLen; simp, fun h => absurd h (by simp)⟩, rfl, fun _ => rfl, by simp⟩
  · obtain rfl : m = cap := by simpa using hmm
    rw [hk] at hx
    -- the cells, as one list
    by_cases h0 : len = 0
    · subst h0
      exact ⟨(some a, 0, m, []), rfl, ⟨by simp, by simp, hm, fun h => absurd h (by simp)⟩, rfl, fun h => by simp at h, by simp⟩
    obtain ⟨c0, hc0, _⟩ := hx 0 (by omega)
    obtain ⟨_, hl0, hcell0⟩ := World.cells?_some hc0
    have hs0 : w.cell? (a.add 0) = c0[0]? := by
      have h2 := hcell0 0 hk0
      rw [Deep.add_add] at h2; simpa using h2
    have hsome : w.cell? (a.add 0) = some (c0[0]'(by omega)) := by rw [hs0]; exact List.getElem?_eq_getElem _
    have hspot : a.spot = none := by
      have := World.cell?_spot hsome
      simpa [Addr.add] using this
    obtain ⟨b, off, sp⟩ := a
    simp only at hspot; subst hspot
    have hb : b < w.heap.size := by
      rcases Nat.lt_or_ge b w.heap.size with h | h
      · exact h
      · simp [Addr.add, World.cell?, Array.getElem?_eq_none h] at hsome
    have each : ∀ i, i < len → ∃ x, (∃ cs', cs' = E x ∧ cs'.length = k ∧ ∀ j, j < k → w.cell? ⟨b, off + (i * k + j), none⟩ = cs'[j]?) ∧ Q x := fun i hi => by
      obtain ⟨cs', h1, h2⟩ := hx i (by omega)
      obtain ⟨x, hx1, hx2⟩ := he _ _ _ h2 (fun q hq => hW q (by
        simp only [DataW.weights, ht]
        exact List.mem_cons_of_mem _ (List.mem_append_left _ (weightsAll_mem (List.mem_map.2 ⟨i, List.mem_range.2 hi, rfl⟩) q hq))))
      obtain ⟨_, hlen, hcell⟩ := World.cells?_some h1
      refine ⟨x, ⟨cs', hx1, hlen, fun j hj => ?_⟩, hx2⟩
      have := hcell j hj
      rwa [Deep.add_add, add_eq] at this
    have build : ∀ n, n ≤ len → ∃ xs : List α, xs.length = n ∧ (xs.flatMap E).length = n * k ∧ (∀ j, j < n * k → w.cell? ⟨b, off + j, none⟩ = (xs.flatMap E)[j]?) ∧ ∀ x ∈ xs, Q x := by
      intro n
      induction n with
      | zero => intro _; exact ⟨[], rfl, by simp, by simp, by simp⟩
      | succ n ih =>
        intro hn
        obtain ⟨xs, h1, h2, h3, h4⟩ := ih (by omega)
        obtain ⟨x, ⟨cs', hc1, hc2, hc3⟩, hq⟩ := each n (by omega)
        subst hc1
        refine ⟨xs ++ [x], by simp [h1], by simp only [List.flatMap_append, List.length_append, h2]; simp [hc2, Nat.succ_mul], ?_, ?_⟩
        · intro j hj
          rw [List.flatMap_append]
          by_cases hjn : j < n * k
          · rw [List.getElem?_append_left (by omega)]; exact h3 j hjn
          · rw [List.getElem?_append_right (by omega), h2]
            have := hc3 (j - n * k) (by rw [Nat.succ_mul] at hj; omega)
            rw [show n * k + (j - n * k) = j by omega] at this
            simpa using this
        · intro y hy
          rcases List.mem_append.1 hy with hy | hy
          · exact h4 y hy
          · simp at hy; subst hy; exact hq
    obtain ⟨xs, h1, h2, h3, h4⟩ := build len (Nat.le_refl _)
    exact ⟨(some ⟨b, off, none⟩, len, m, xs), rfl, ⟨h2, hl, hm, fun _ => ⟨b, off, rfl, hb, h3⟩⟩, h1, fun h => by simp at h, h4⟩

theorem sizedW {ts : List TypeId} {ds : List (DataW H)} (h : (DataW.weightsEach P ts ds).all (· ≤ reachBytes) = true) {j : Nat} {t : TypeId} {d : DataW H} (ht : ts[j]? = some t) (hd : ds[j]? = some d) : ∀ n ∈ d.weights P t, n ≤ reachBytes := fun n hn => by
  simpa using List.all_eq_true.1 h _ (DataW.weights_mem_each ht hd n hn)
theorem top1W {α : Type} {t : TypeId} {v : Value} {d : DataW H} {p : List MemPlace} {E : α → List Value} {Q : α → Prop} (ho : OpensW enc P w t E Q) (h : DataW.Trod enc P w 0 (fun _ => true) true t v d p) (hv : ∀ cs, v ≠ .agg cs) (hW : ∀ n ∈ d.weights P t, n ≤ reachBytes) :
    ∃ x, [v] = E x ∧ Q x := by
  obtain ⟨fuel, hf⟩ := h
  have e : v.cells.toList = [v] := by
    cases v <;> first | rfl | exact absurd rfl (hv _)
  rw [e] at hf
  exact ho _ _ _ hf hW
end
end Go.Proofs.YtfpofcfoeajkiaaGreat
/- Plain: as ArgsW, with the slices' own lengths within the reach. -/
namespace Go.Proofs.YtfpofcfoeajkiaaGreat
open Go.ChangeShapes Go.WideShapes Go.ChangeAt Go.RowKit Go.Deep
section
variable {H : Type} {enc : TypeId × Value → H} {P : Program} {w : World}
theorem opensW_of {α : Type} {t : TypeId} {E : α → List Value} {Q : α → Prop} (o : Opens enc P w t E Q) : OpensW enc P w t E Q := fun fuel cs y h _ => o fuel cs y h
theorem slice_reach {t e : TypeId} (ht : P.underlying t = some (.slice e)) (hb : 1 ≤ P.bytesOf e) {fuel : Nat} {A : Option Addr} {n c : Nat} {y : DataW H × List MemPlace}
    (h : DataW.trod enc P w 0 (fun _ => true) true fuel t [.slice A n c] = some y) (hW : ∀ k ∈ y.1.weights P t, k ≤ reachBytes) : n ≤ 140737488351232 := by
  rcases open_slice ht h with ⟨h1, rfl⟩ | ⟨a, len, cap, m, k, D, Pl, h1, _, hl, hm, hmm, rfl, hx⟩
  · simp only [List.cons.injEq, Value.slice.injEq, and_true] at h1
    omega
  · simp only [List.cons.injEq, Value.slice.injEq, and_true] at h1
    obtain ⟨_, rfl, rfl⟩ := h1
    have := hW _ (by simp only [DataW.weights, ht]; exact List.mem_cons_self ..)
    simp only [List.length_map, List.length_range, reachBytes] at this
    have h2 := Nat.le_mul_of_pos_right (n + 0) hb
    have h3 : n * 1 ≤ (n + (m - n)) * P.bytesOf e := Nat.mul_le_mul (by omega) hb
    first | omega | (simp at this; omega)
theorem opensX_slice {α : Type} {t e : TypeId} {k : Nat} {E : α → List Value} {Q : α → Prop} (ht : P.underlying t = some (.slice e)) (hb : 1 ≤ P.bytesOf e) (hk : P.cellsOf e = k) (hk0 : 0 < k) (he : OpensW enc P w e E Q) :
    OpensW enc P w t (ESl (α := α)) (fun x => (Sl w x.1 x.2.1 x.2.2.1 k (x.2.2.2.flatMap E) ∧ x.2.2.2.length = x.2.1 ∧ (x.1 = none → x.2.2.1 = 0) ∧ ∀ y ∈ x.2.2.2, Q y) ∧ x.2.1 ≤ 140737488351232) := by
  intro fuel cs y h hW
  obtain ⟨x, rfl, hq⟩ := opensW_slice ht hk hk0 he fuel cs y h hW
  exact ⟨x, rfl, hq, slice_reach ht hb h hW⟩
theorem topAW {α : Type} {t : TypeId} {v : Value} {cs : Array Value} {d : DataW H} {p : List MemPlace} {E : α → List Value} {Q : α → Prop} (ho : OpensW enc P w t E Q) (h : DataW.Trod enc P w 0 (fun _ => true) true t v d p) (hv : v = .agg cs) (hW : ∀ n ∈ d.weights P t, n ≤ reachBytes) :
    ∃ x, v = .agg (E x).toArray ∧ Q x := by
  obtain ⟨fuel, hf⟩ := h
  subst hv
  obtain ⟨x, hx, hq⟩ := ho _ _ _ hf hW
  refine ⟨x, ?_, hq⟩
  rw [← hx]; simp [Value.cells]
end
end Go.Proofs.YtfpofcfoeajkiaaGreat
