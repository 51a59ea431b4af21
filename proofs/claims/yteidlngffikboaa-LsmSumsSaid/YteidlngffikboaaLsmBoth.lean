/- lsm.both: its iterator's contract (printed by gen-lsm-both.py). -/
import Derived.Test.YteidlngffikboaaProg
import Derived.RangeFuncNested
import Derived.WalkKit
import Derived.Lib.Hide
import Derived.Test.YteidlngffikboaaVarintIter
import Derived.Test.YteidlngffikboaaLsmR1
import Derived.RangeFuncBox
import Derived.Sort.QuietIn
namespace Go.Proofs.Yteidlngffikboaa
open Go.RowKit
set_option linter.unusedVariables false
/-- an iterator that hands out xs, if what the loop holds (J) abides its own stores (Tn) -/
def SeqT {α : Type} (F : Fence) (n : Nat) (P : Program) (g : Nat) (lb : Array Value) (encs : α → Array Value) (Kp Tn : World → World → Prop) (xs : List α) (w : World) : Prop :=
  ∀ (l : Nat) (J : List α → World → Prop) (W : World), Below w.heap.size w W → (∀ pre A B, J pre A → Tn A B → J pre B) →
    (∀ pre x A, J pre A → xs[pre.length]? = some x → YieldAt F (n - 1) P l (encs x) A fun e B => e = .returned (.bool true) ∧ J (pre ++ [x]) B ∧ Kp A B) →
    J [] W → CallsIn F n P g (#[.func (.yield l) #[] #[]] ++ lb) W fun e W' => (∃ v, e = .returned v) ∧ J xs W'
theorem wpIn_rangeT {F : Fence} {n : Nat} {P : Program} {α : Type} {g : Operand} {ps : Array Tmp} {assign body : Code} {Q : Exit → Act → World → Prop} {a : Act} {w : World}
    (hro : F.round = none) (h1 : 1 ≤ n) {gf : Nat} {lb : Array Value} (hg : a.eval g = .func (.func gf) #[] lb) (hFg : F.fn gf) (eg : ∀ args w, (callFunc gf args).run P w = .ok (.enter gf args) w)
    {encs : α → Array Value} {Kp Tn : World → World → Prop} {xs : List α} (hseq : SeqT F (n - 1) P gf lb encs Kp Tn xs w)
    (hTn : ∀ A B, Tn A B → ∀ k o, w.heap.size ≤ k → A.heap[k]? = some o → B.heap[k]? = some o)
    (hK1 : ∀ A B l o', w.heap.size ≤ l → Kp (A.putObj l o') B → Kp A B) (hK2 : ∀ A B l o', w.heap.size ≤ l → Kp A B → Kp A (B.putObj l o'))
    (hps : ∀ x, (encs x).size = ps.size) (I : List α → World → Prop)
    (hIp : ∀ pre A l o o', I pre A → w.heap.size ≤ l → A.heap[l]? = some o → o.isCells = false → I pre (A.putObj l o')) (hIa : ∀ pre A o, I pre A → I pre (A.alloc o)) (hIT : ∀ pre A B, I pre A → Tn A B → I pre B)
    (h0 : I [] w) (a₁ : α → Act)
    (hassign : ∀ (l : Nat) (x : α) (W : World) (K : Act → World → Prop), K (a₁ x) W →
      assign.wpIn (F.inRound l) (n - 1 - 1) P (Exit.then K (fun _ _ _ => False)) { tmps := (ps.zip (encs x)).foldl (fun t (p, v) => t.setIfInBounds p v) a.tmps, defers := [] } W)
    (hbody : ∀ (l : Nat) (pre : List α) (x : α) (W : World), w.heap.size ≤ l → I pre W → xs[pre.length]? = some x → body.wpIn (F.inRound l) (n - 1 - 1) P (fun e _ B => e = .normal ∧ KeepsFrom w.heap.size W B ∧ Kp W B ∧ I (pre ++ [x]) B) (a₁ x) W)
    (hdone : ∀ (D : Nat) (W : World), w.heap.size ≤ D → I xs W → W.heap[D]? = some (.deferred (some [])) → Q .normal { a with defers := { target := .collected D, args := #[] } :: a.defers } W) :
    (Code.rangeFunc g ps assign body).wpIn F n P Q a w := by
  refine wpIn_rangeFunc fun fn hfn => ?_
  rw [hro]
  -- the record at each state, and the block of deferred calls
  obtain ⟨R, hR⟩ : ∃ R : LoopState → Loop, R = fun s => { state := s, pending := none, fn, tmps := a.tmps, params := ps, assign, body, defers := w.heap.size } := ⟨_, rfl⟩
  have hfld : ∀ s, (R s).state = s ∧ (R s).pending = none ∧ (R s).params = ps ∧ (R s).tmps = a.tmps ∧ (R s).assign = assign ∧ (R s).body = body ∧ (R s).fn = fn := fun s => by rw [hR]; exact ⟨rfl, rfl, rfl, rfl, rfl, rfl, rfl⟩
  have hturn : ∀ s t, { R s with state := t } = R t := fun s t => by rw [hR]
  have hW : (w.alloc (.deferred (some []))).heap.size = w.heap.size + 1 := by simp
  let W1 := (w.alloc (.deferred (some []))).alloc (.loop (R .ready))
  have hl1 : W1.heap[w.heap.size + 1]? = some (.loop (R .ready)) := by
    have := World.alloc_heap_new (w.alloc (.deferred (some []))) (.loop (R .ready))
    rwa [hW] at this
  have hd1 : W1.heap[w.heap.size]? = some (.deferred (some [])) := (Below.heap_alloc _ _ _ (by rw [hW]; omega)).trans (World.alloc_heap_new w _)
  have hb1 : Below w.heap.size w W1 := ((Below.refl _ w).alloc (Nat.le_refl _) _).alloc (by rw [hW]; omega) _
  refine ⟨w.heap.size + 1, [{ target := .collected w.heap.size, args := #[] }], W1, { target := .fn (.func gf) lb, args := #[.func (.yield (w.heap.size + 1)) #[] #[]] }, W1, gf, #[.func (.yield (w.heap.size + 1)) #[] #[]] ++ lb, W1, ?_, ?_, ?_, ?_, fun _ => h1, ?_⟩
  · show _ = Result.ok _ ((w.alloc (.deferred (some []))).alloc (.loop (R .ready)))
    rw [hR]; exact run_enterLoop_outer _ _ _ _ _
  · simp only [resolve, hg]
    simp [go_sem]
  · intro f' hf'; simp [Target.leads] at hf'; subst hf'; exact hFg
  · simp [invoke, go_sem, eg]
  · refine (hseq (w.heap.size + 1) (fun pre A => I pre A ∧ A.heap[w.heap.size + 1]? = some (.loop (R .ready)) ∧ A.heap[w.heap.size]? = some (.deferred (some []))) W1 hb1
      (fun pre A B h ht => ⟨hIT pre A B h.1 ht, hTn A B ht _ _ (by omega) h.2.1, hTn A B ht _ _ (Nat.le_refl _) h.2.2⟩) ?_ ⟨hIa _ _ _ (hIa _ _ _ h0), hl1, hd1⟩).mono ?_
    · rintro pre x A ⟨hi, hl, hd⟩ hlen
      have hlt : w.heap.size + 1 < A.heap.size := (Array.getElem?_eq_some_iff.1 hl).1
      have hy := run_yield (P := P) (args := encs x) hl (by rw [(hfld .ready).2.2.1]; exact hps x)
      obtain ⟨f1, f2, f3, f4, f5, f6, f7⟩ := hfld .ready
      rw [f3, f4, f5, f6, f7] at hy
      have hbg := run_beginRound (P := P) hl f1
      rw [hturn] at hbg
      have hl2 : (A.putObj (w.heap.size + 1) (.loop (R .busy))).heap[w.heap.size + 1]? = some (.loop (R .busy)) := World.putObj_heap_same hlt
      have hd2 : (A.putObj (w.heap.size + 1) (.loop (R .busy))).heap[w.heap.size]? = some (.deferred (some [])) := (World.putObj_heap_other (by omega)).trans hd
      refine ⟨fn, _, assign, body, hy, roundIn_of_wpIn hfn (hassign _ x A _ ⟨_, hbg, wpIn_mono (hbody (w.heap.size + 1) pre x _ (by omega) (hIp _ _ _ _ _ hi (by omega) hl rfl) hlen) ?_⟩)⟩
      rintro e a3 B ⟨rfl, hk, hkp, hi3⟩
      have hl3 := hk.same _ _ (by omega) hl2 rfl
      have hd3 := hk.same _ _ (Nat.le_refl _) hd2 rfl
      have hen := run_endRound (P := P) none hl3
      have hrec : { R .busy with state := (if (none : Option Code).isNone then .ready else .done), pending := none } = R .ready := by rw [hR]; rfl
      rw [hrec] at hen
      exact ⟨_, _, hen, rfl, ⟨hIp _ _ _ _ _ hi3 (by omega) hl3 rfl, World.putObj_heap_same (Array.getElem?_eq_some_iff.1 hl3).1, (World.putObj_heap_other (by omega)).trans hd3⟩, hK2 _ _ _ _ (by omega) (hK1 _ _ _ _ (by omega) hkp)⟩
    · rintro e W2 ⟨⟨v, rfl⟩, hi, hl, hd⟩
      obtain ⟨f1, f2, _⟩ := hfld .ready
      have hend := run_endLoop (P := P) hl (by rw [f1]; simp)
      rw [f2] at hend
      exact ⟨none, _, hend, hdone _ _ (Nat.le_refl _) (hIp _ _ _ _ _ hi (by omega) hl rfl) ((World.putObj_heap_other (by omega)).trans hd)⟩
end Go.Proofs.Yteidlngffikboaa

/- Here ends the text IterT; here begins LsmBoth. -/
namespace Go.Proofs.Yteidlngffikboaa
open Go.RowKit Go.Shelf
attribute [local go_sem] Oper.semAt_some
set_option linter.unusedVariables false
set_option linter.unusedSimpArgs false
theorem both_any (A A' : Option Addr) (n c n' c' : Nat) (w : World) : Calls Try.prog 71 #[.slice A n c, .slice A' n' c'] w fun e w' => e = .returned (.func (.func 92) #[] #[.pointer (some ⟨w.heap.size, 0, none⟩), .pointer (some ⟨w.heap.size + 1, 0, none⟩)]) ∧ (w.alloc (.cells #[.slice A n c] 22)).alloc (.cells #[.slice A' n' c'] 22) = w' := by
  go_enter Try.func71, Try.ntmps71
  go_wp2
  go_ret
  exact ⟨rfl, rfl⟩
def cEnc (x : Cnt) : Array Value := #[.string x.1, .int .i64 x.2]
/-- below B all is as it was, but for one block -/
def KpX (B X : Nat) (V W : World) : Prop := ∀ k, k < B → k ≠ X → W.heap[k]? = V.heap[k]?
/-- a store into one of two boxes, or a draw -/
def TnB (Ba Bb : Nat) (V W : World) : Prop := (∃ m, W = V.drewN m) ∨ (∃ v, W = V.setCell ⟨Ba, 0, none⟩ v) ∨ (∃ v, W = V.setCell ⟨Bb, 0, none⟩ v)
structure BothS (wb : World) (Ba Bb : Nat) (va vb : Value) (xs ys : List Cnt) (W : World) : Prop where
  a : Boxed W Ba 22 va
  b : Boxed W Bb 22 vb
  ra : CntB wb va xs
  rb : CntB wb vb ys
  low : Below wb.heap.size wb W
theorem BothS.drewN {wb : World} {Ba Bb : Nat} {va vb : Value} {xs ys : List Cnt} {W : World} (h : BothS wb Ba Bb va vb xs ys W) (m : Nat) : BothS wb Ba Bb va vb xs ys (W.drewN m) :=
  ⟨h.a, h.b, h.ra, h.rb, h.low.trans ((Below.drewN (Below.refl _ W) m).mono h.low.size)⟩
theorem BothS.setA {wb : World} {Ba Bb : Nat} {va vb : Value} {xs ys : List Cnt} {W : World} (h : BothS wb Ba Bb va vb xs ys W) (hne : Ba ≠ Bb) (hB : wb.heap.size ≤ Ba) {v : Value} {zs : List Cnt} (hv : CntB wb v zs) : BothS wb Ba Bb v vb zs ys (W.setCell ⟨Ba, 0, none⟩ v) :=
  ⟨h.a.set v, h.b.other (fun e => hne e.symm) v, hv, h.rb, h.low.setCell (p := ⟨Ba, 0, none⟩) hB v⟩
theorem BothS.setB {wb : World} {Ba Bb : Nat} {va vb : Value} {xs ys : List Cnt} {W : World} (h : BothS wb Ba Bb va vb xs ys W) (hne : Ba ≠ Bb) (hB : wb.heap.size ≤ Bb) {v : Value} {zs : List Cnt} (hv : CntB wb v zs) : BothS wb Ba Bb va v xs zs (W.setCell ⟨Bb, 0, none⟩ v) :=
  ⟨h.a.other hne v, h.b.set v, h.ra, hv, h.low.setCell (p := ⟨Bb, 0, none⟩) hB v⟩
theorem BothS.kept {wb : World} {Ba Bb B X : Nat} {va vb : Value} {xs ys : List Cnt} {W W' : World} (h : BothS wb Ba Bb va vb xs ys W) (hk : KpX B X W W') (ha : Ba < B) (hb : Bb < B) (hxa : Ba ≠ X) (hxb : Bb ≠ X) (hx : wb.heap.size ≤ X) (hwb : Below wb.heap.size wb W') : BothS wb Ba Bb va vb xs ys W' :=
  ⟨(hk Ba ha hxa).trans h.a, (hk Bb hb hxb).trans h.b, h.ra, h.rb, hwb⟩
theorem CntB.cons {w : World} {v : Value} {x : Cnt} {xs : List Cnt} (h : CntB w v (x :: xs)) :
    ∃ b off c, v = .slice (some ⟨b, off, none⟩) (xs.length + 1) c ∧ xs.length + 1 ≤ c ∧ c ≤ maxLen ∧ b < w.heap.size ∧ w.cell? ⟨b, off, none⟩ = some (.string x.1) ∧ w.cell? ⟨b, off + 1, none⟩ = some (.int .i64 x.2) ∧ CntB w (.slice (some ⟨b, off + 2, none⟩) xs.length (c - 1)) xs := by
  obtain ⟨A, c, rfl, h2, h3, h4⟩ := h
  obtain ⟨b, off, rfl, e2, e3⟩ := h4 (by simp)
  obtain ⟨c0, c1⟩ := e3 0 (by simp)
  refine ⟨b, off, c, rfl, h2, h3, e2, by simpa using c0, by simpa using c1, _, _, rfl, by simp at h2; omega, by omega, fun hl => ⟨b, off + 2, rfl, e2, fun i hi => ?_⟩⟩
  obtain ⟨d0, d1⟩ := e3 (i + 1) (by simpa using hi)
  rw [show off + 2 + i * 2 = off + (i + 1) * 2 by omega]
  exact ⟨d0, d1⟩
theorem CntB.tail0 {w : World} {b off : Nat} {l : List Cnt} (h : l = []) : CntB w (.slice (some ⟨b, off, none⟩) l.length 0) l := by
  subst h
  exact ⟨_, 0, rfl, by simp, by unfold maxLen; omega, fun h => by simp at h⟩
theorem CntB.nilS {w : World} {v : Value} (h : CntB w v []) : ∃ A c, v = .slice A 0 c := by
  obtain ⟨A, c, h1, _⟩ := h
  exact ⟨A, c, h1⟩
theorem bothL_lt {x y : Cnt} (xs ys : List Cnt) (h : bl x.1 y.1 = true) : bothL (x :: xs) (y :: ys) = x :: bothL xs (y :: ys) := by rw [bothL, if_pos h]
theorem bothL_gt {x y : Cnt} (xs ys : List Cnt) (h : ¬ bl x.1 y.1 = true) (h' : bl y.1 x.1 = true) : bothL (x :: xs) (y :: ys) = y :: bothL (x :: xs) ys := by rw [bothL, if_neg h, if_pos h']
theorem bothL_eq {x y : Cnt} (xs ys : List Cnt) (h : ¬ bl x.1 y.1 = true) (h' : ¬ bl y.1 x.1 = true) : bothL (x :: xs) (y :: ys) = (x.1, x.2 + y.2) :: bothL xs ys := by rw [bothL, if_neg h, if_neg h']
def cellLen (W : World) (B : Nat) : Nat := match W.cell? ⟨B, 0, none⟩ with
  | some (.slice _ n _) => n
  | _ => 0
theorem cellLen_of {W : World} {B t : Nat} {A : Option Addr} {n c : Nat} (h : Boxed W B t (.slice A n c)) : cellLen W B = n := by unfold cellLen; rw [h.cell]
theorem cellLen_row {wb : World} {Ba Bb : Nat} {va vb : Value} {xs ys : List Cnt} {W : World} (h : BothS wb Ba Bb va vb xs ys W) : cellLen W Ba + cellLen W Bb = xs.length + ys.length := by
  obtain ⟨A, c, e, _⟩ := h.ra.shape
  obtain ⟨A', c', e', _⟩ := h.rb.shape
  have h1 := h.a
  have h2 := h.b
  rw [e] at h1
  rw [e'] at h2
  rw [cellLen_of h1, cellLen_of h2]
theorem bl_le {x y : ByteArray} (h : bl x y = true) : Op.bytesLess x.toList y.toList = true ∧ Op.bytesLess y.toList x.toList = false ∧ (y.toList == x.toList) = false ∧ (x.toList == y.toList) = false := by
  have h2 : bl y x = false := bl_asymm h
  refine ⟨by rw [ByteArray.toList_eq, ByteArray.toList_eq]; exact h, by rw [ByteArray.toList_eq, ByteArray.toList_eq]; exact h2, str_eq_f fun e => ?_, str_eq_f fun e => ?_⟩ <;> (rw [e, bl_irrefl] at h; cases h)
set_option maxRecDepth 100000 in
set_option maxHeartbeats 8000000 in
theorem both1_seq (n : Nat) (hn : 1 ≤ n) (wb : World) (Ba Bb X : Nat) (va vb : Value) (la lb : List Cnt) (w : World) (hS : BothS wb Ba Bb va vb la lb w) (hne : Ba ≠ Bb) (hxa : Ba ≠ X) (hxb : Bb ≠ X) (hma : wb.heap.size ≤ Ba) (hmb : wb.heap.size ≤ Bb) (hmx : wb.heap.size ≤ X) (hl : la.length + lb.length ≤ 1000000)
    (hba : ∀ x ∈ la, -bnd ≤ x.2 ∧ x.2 ≤ bnd) (hbb : ∀ x ∈ lb, -bnd ≤ x.2 ∧ x.2 ≤ bnd) :
    SeqT Fence.wide n Try.prog 92 #[.pointer (some ⟨Ba, 0, none⟩), .pointer (some ⟨Bb, 0, none⟩)] cEnc (fun V W => KpX w.heap.size X V W ∧ (Below wb.heap.size wb V → Below wb.heap.size wb W)) (TnB Ba Bb) (bothL la lb) w := fun l J W hW hT hY h0 => by
  have hBa : Ba < w.heap.size := hS.a.lt
  have hBb : Bb < w.heap.size := hS.b.lt
  have HS0 : Hid (BothS wb Ba Bb va vb la lb W) := ⟨(hW.block Ba hBa).trans hS.a, (hW.block Bb hBb).trans hS.b, hS.ra, hS.rb, hS.low.trans (hW.mono hS.low.size)⟩
  have HY := Lib.hid hY
  have HT := Lib.hid hT
  have HBA := Lib.hid hba
  have HBB := Lib.hid hbb
  have HNE := Lib.hid hne
  have HXA := Lib.hid hxa
  have HXB := Lib.hid hxb
  have H0 := Lib.hid h0
  have HLL := Lib.hid hl
  clear hS hY hT hba hbb hne hxa hxb h0 hW hl
  refine callsIn_of_wp Try.func92 rfl trivial ?_ rfl
  simp only [Try.ntmps92, List.size_toArray, List.length_cons, List.length_nil, Nat.reduceAdd, Nat.reduceSub, Array.replicate_succ, Array.replicate_zero, List.push_toArray, List.append_toArray, List.nil_append, List.cons_append]
  gi_wp2_with fail
  gi_loopw [] (fun wr => ∃ (pre xs ys : List Cnt) (ua ub : Value), Hid (J pre wr) ∧ Hid (BothS wb Ba Bb ua ub xs ys wr) ∧ Hid (bothL la lb = pre ++ bothL xs ys) ∧ Hid (xs.length + ys.length ≤ 1000000) ∧ Hid (∀ x ∈ xs, -bnd ≤ x.2 ∧ x.2 ≤ bnd) ∧ Hid (∀ x ∈ ys, -bnd ≤ x.2 ∧ x.2 ≤ bnd)) (fun wr => cellLen wr Ba + cellLen wr Bb)
  case atStart => exact ⟨[], la, lb, va, vb, H0, HS0, Lib.hid rfl, HLL, HBA, HBB⟩
  case round =>
    obtain ⟨pre, xs, ys, ua, ub, HJ, HS, HE, HLN, HA, HB⟩ := hrel
    have HME := Lib.hid (cellLen_row HS.out)
    rcases xs with _ | ⟨x, xs⟩
    · obtain ⟨A, c, rfl⟩ := HS.out.ra.nilS
      have a0 := HS.out.a.cell
      have f0 := HS.out.a.frozen
      rcases ys with _ | ⟨y, ys⟩
      · obtain ⟨A', c', rfl⟩ := HS.out.rb.nilS
        have b0 := HS.out.b.cell
        have HV : Hid (bothL la lb = pre) := by unfold Hid; rw [HE.out, bothL_nil, List.append_nil]
        gi_wp2
        go_end0
        exact ⟨⟨_, rfl⟩, by rw [HV.out]; exact HJ.out⟩
      · obtain ⟨gy, oy, cy, rfl, k1y, k2y, k3y, k4y, k5y, k6y⟩ := HS.out.rb.cons
        have b0 := HS.out.b.cell
        have bf := HS.out.b.frozen
        have HRy := Lib.hid k6y
        have hcy : cy ≤ 9223372036854775807 := by unfold maxLen at k2y; omega
        have m0y := (HS.out.low.cell (p := ⟨gy, oy, none⟩) k3y).trans k4y
        have m1y := (HS.out.low.cell (p := ⟨gy, oy + 1, none⟩) k3y).trans k5y
        have q1y : ((ys.length : Int) + 1 == 0) = false := by rw [beq_eq_false_iff_ne]; omega
        have q2y : decide ((0 : Int) < (ys.length : Int) + 1) = true := by rw [decide_eq_true_iff]; omega
        have q3y : (0 : Int) < (ys.length : Int) + 1 := by omega
        have HXy := Lib.hid (HB.out y (by simp))
        have Ky0 := Lib.hid k4y
        have Ky1 := Lib.hid k5y
        clear k6y k4y k5y k2y
        by_cases oney : cy = 1
        · subst oney
          have hysy : ys = [] := by rw [← List.length_eq_zero_iff]; omega
          subst hysy
          clear HRy
          have HRy : Hid (CntB wb (.slice (some ⟨gy, oy, none⟩) 0 0) []) := CntB.tail0 rfl
          have HV : Hid (bothL la lb = (pre ++ [y]) ++ bothL [] []) := by unfold Hid; rw [HE.out]; rw [bothL_nil', bothL_nil']; try simp
          have hy2 := HXy.out
          unfold bnd at hy2
          gi_wp2_with fail
          gi_quiet (fail)
          rename_i nq
          have HSq1 := Lib.hid (HS.out.drewN nq)
          have HJq1 := Lib.hid (HT.out _ _ _ HJ.out (.inl ⟨nq, rfl⟩))
          clear HJ
          generalize wr.drewN nq = w1 at *
          clear a0 b0 m0y m1y
          have a0 := HSq1.out.a.cell
          have b0 := HSq1.out.b.cell
          have af := HSq1.out.a.frozen
          have bf := HSq1.out.b.frozen
          have m0y := (HSq1.out.low.cell (p := ⟨gy, oy, none⟩) k3y).trans Ky0.out
          have m1y := (HSq1.out.low.cell (p := ⟨gy, oy + 1, none⟩) k3y).trans Ky1.out
          gi_wp2_with fail
          gi_quiet (fail)
          rename_i nq
          have HSq2 := Lib.hid (HSq1.out.drewN nq)
          have HJq2 := Lib.hid (HT.out _ _ _ HJq1.out (.inl ⟨nq, rfl⟩))
          clear HJq1
          generalize w1.drewN nq = w2 at *
          clear a0 b0 m0y m1y
          have a0 := HSq2.out.a.cell
          have b0 := HSq2.out.b.cell
          have af := HSq2.out.a.frozen
          have bf := HSq2.out.b.frozen
          have m0y := (HSq2.out.low.cell (p := ⟨gy, oy, none⟩) k3y).trans Ky0.out
          have m1y := (HSq2.out.low.cell (p := ⟨gy, oy + 1, none⟩) k3y).trans Ky1.out
          clear af bf
          have af := HSq2.out.a.frozen
          have bf := HSq2.out.b.frozen
          have HSy := Lib.hid ((HSq2.out).setB HNE.out hmb HRy.out)
          have HJy := Lib.hid (HT.out _ _ _ (HJq2.out) (.inr (.inr ⟨.slice (some ⟨gy, oy, none⟩) 0 0, rfl⟩)))
          obtain ⟨fn, tmps, assign, body, hy, hR⟩ := HY.out pre (y) _ (HJy.out) (by rw [HV.out]; simp)
          have HR := Lib.hid hR
          clear hR
          dsimp only [cEnc] at hy
          gi_wp2
          refine HR.out.mono ?_
          rintro e W3 ⟨rfl, hJ3, hk3, hk4⟩
          have HS3 := Lib.hid ((HSy.out).kept hk3 hBa hBb HXA.out HXB.out hmx (hk4 (HSy.out).low))
          have HJ3 := Lib.hid hJ3
          have HM3 := Lib.hid (cellLen_row HS3.out)
          clear hJ3 hk3 hk4 HR hy
          gi_wp2
          go_roundw
          case rel => exact ⟨_, _, _, _, _, HJ3, HS3, HV, by have := HLN.out; unfold Hid; simp only [List.length_cons, List.length_nil] at this ⊢; omega, fun z hz => HA.out z (by first | exact hz | exact List.mem_cons_of_mem _ hz | simp at hz), fun z hz => HB.out z (by first | exact hz | exact List.mem_cons_of_mem _ hz | simp at hz)⟩
          case measure => have h1 := HME.out; have h2 := HM3.out; simp at h1 h2 ⊢; omega
        · have HV : Hid (bothL la lb = (pre ++ [y]) ++ bothL [] ys) := by unfold Hid; rw [HE.out]; rw [bothL_nil', bothL_nil']; try simp
          have hy2 := HXy.out
          unfold bnd at hy2
          gi_wp2_with fail
          gi_quiet (fail)
          rename_i nq
          have HSq1 := Lib.hid (HS.out.drewN nq)
          have HJq1 := Lib.hid (HT.out _ _ _ HJ.out (.inl ⟨nq, rfl⟩))
          clear HJ
          generalize wr.drewN nq = w1 at *
          clear a0 b0 m0y m1y
          have a0 := HSq1.out.a.cell
          have b0 := HSq1.out.b.cell
          have af := HSq1.out.a.frozen
          have bf := HSq1.out.b.frozen
          have m0y := (HSq1.out.low.cell (p := ⟨gy, oy, none⟩) k3y).trans Ky0.out
          have m1y := (HSq1.out.low.cell (p := ⟨gy, oy + 1, none⟩) k3y).trans Ky1.out
          gi_wp2_with fail
          gi_quiet (fail)
          rename_i nq
          have HSq2 := Lib.hid (HSq1.out.drewN nq)
          have HJq2 := Lib.hid (HT.out _ _ _ HJq1.out (.inl ⟨nq, rfl⟩))
          clear HJq1
          generalize w1.drewN nq = w2 at *
          clear a0 b0 m0y m1y
          have a0 := HSq2.out.a.cell
          have b0 := HSq2.out.b.cell
          have af := HSq2.out.a.frozen
          have bf := HSq2.out.b.frozen
          have m0y := (HSq2.out.low.cell (p := ⟨gy, oy, none⟩) k3y).trans Ky0.out
          have m1y := (HSq2.out.low.cell (p := ⟨gy, oy + 1, none⟩) k3y).trans Ky1.out
          clear af bf
          have af := HSq2.out.a.frozen
          have bf := HSq2.out.b.frozen
          have HSy := Lib.hid ((HSq2.out).setB HNE.out hmb HRy.out)
          have HJy := Lib.hid (HT.out _ _ _ (HJq2.out) (.inr (.inr ⟨.slice (some ⟨gy, oy + 2, none⟩) ys.length (cy - 1), rfl⟩)))
          obtain ⟨fn, tmps, assign, body, hy, hR⟩ := HY.out pre (y) _ (HJy.out) (by rw [HV.out]; simp)
          have HR := Lib.hid hR
          clear hR
          dsimp only [cEnc] at hy
          gi_wp2
          refine HR.out.mono ?_
          rintro e W3 ⟨rfl, hJ3, hk3, hk4⟩
          have HS3 := Lib.hid ((HSy.out).kept hk3 hBa hBb HXA.out HXB.out hmx (hk4 (HSy.out).low))
          have HJ3 := Lib.hid hJ3
          have HM3 := Lib.hid (cellLen_row HS3.out)
          clear hJ3 hk3 hk4 HR hy
          gi_wp2
          go_roundw
          case rel => exact ⟨_, _, _, _, _, HJ3, HS3, HV, by have := HLN.out; unfold Hid; simp only [List.length_cons, List.length_nil] at this ⊢; omega, fun z hz => HA.out z (by first | exact hz | exact List.mem_cons_of_mem _ hz | simp at hz), fun z hz => HB.out z (by first | exact hz | exact List.mem_cons_of_mem _ hz | simp at hz)⟩
          case measure => have h1 := HME.out; have h2 := HM3.out; simp at h1 h2 ⊢; omega
    · obtain ⟨gx, ox, cx, rfl, k1x, k2x, k3x, k4x, k5x, k6x⟩ := HS.out.ra.cons
      have a0 := HS.out.a.cell
      have af := HS.out.a.frozen
      have HRx := Lib.hid k6x
      have hcx : cx ≤ 9223372036854775807 := by unfold maxLen at k2x; omega
      have m0x := (HS.out.low.cell (p := ⟨gx, ox, none⟩) k3x).trans k4x
      have m1x := (HS.out.low.cell (p := ⟨gx, ox + 1, none⟩) k3x).trans k5x
      have q1x : ((xs.length : Int) + 1 == 0) = false := by rw [beq_eq_false_iff_ne]; omega
      have q2x : decide ((0 : Int) < (xs.length : Int) + 1) = true := by rw [decide_eq_true_iff]; omega
      have q3x : (0 : Int) < (xs.length : Int) + 1 := by omega
      have HXx := Lib.hid (HA.out x (by simp))
      have Kx0 := Lib.hid k4x
      have Kx1 := Lib.hid k5x
      clear k6x k4x k5x k2x
      rcases ys with _ | ⟨y, ys⟩
      · obtain ⟨A', c', rfl⟩ := HS.out.rb.nilS
        have b0 := HS.out.b.cell
        have f0 := HS.out.b.frozen
        by_cases onex : cx = 1
        · subst onex
          have hysx : xs = [] := by rw [← List.length_eq_zero_iff]; omega
          subst hysx
          clear HRx
          have HRx : Hid (CntB wb (.slice (some ⟨gx, ox, none⟩) 0 0) []) := CntB.tail0 rfl
          have HV : Hid (bothL la lb = (pre ++ [x]) ++ bothL [] []) := by unfold Hid; rw [HE.out]; rw [bothL_nil, bothL_nil]; try simp
          have hx2 := HXx.out
          unfold bnd at hx2
          gi_wp2_with fail
          gi_quiet (fail)
          rename_i nq
          have HSq1 := Lib.hid (HS.out.drewN nq)
          have HJq1 := Lib.hid (HT.out _ _ _ HJ.out (.inl ⟨nq, rfl⟩))
          clear HJ
          generalize wr.drewN nq = w1 at *
          clear a0 b0 m0x m1x
          have a0 := HSq1.out.a.cell
          have b0 := HSq1.out.b.cell
          have af := HSq1.out.a.frozen
          have bf := HSq1.out.b.frozen
          have m0x := (HSq1.out.low.cell (p := ⟨gx, ox, none⟩) k3x).trans Kx0.out
          have m1x := (HSq1.out.low.cell (p := ⟨gx, ox + 1, none⟩) k3x).trans Kx1.out
          gi_wp2_with fail
          gi_quiet (fail)
          rename_i nq
          have HSq2 := Lib.hid (HSq1.out.drewN nq)
          have HJq2 := Lib.hid (HT.out _ _ _ HJq1.out (.inl ⟨nq, rfl⟩))
          clear HJq1
          generalize w1.drewN nq = w2 at *
          clear a0 b0 m0x m1x
          have a0 := HSq2.out.a.cell
          have b0 := HSq2.out.b.cell
          have af := HSq2.out.a.frozen
          have bf := HSq2.out.b.frozen
          have m0x := (HSq2.out.low.cell (p := ⟨gx, ox, none⟩) k3x).trans Kx0.out
          have m1x := (HSq2.out.low.cell (p := ⟨gx, ox + 1, none⟩) k3x).trans Kx1.out
          gi_wp2_with fail
          gi_quiet (fail)
          rename_i nq
          have HSq3 := Lib.hid (HSq2.out.drewN nq)
          have HJq3 := Lib.hid (HT.out _ _ _ HJq2.out (.inl ⟨nq, rfl⟩))
          clear HJq2
          generalize w2.drewN nq = w3 at *
          clear a0 b0 m0x m1x
          have a0 := HSq3.out.a.cell
          have b0 := HSq3.out.b.cell
          have af := HSq3.out.a.frozen
          have bf := HSq3.out.b.frozen
          have m0x := (HSq3.out.low.cell (p := ⟨gx, ox, none⟩) k3x).trans Kx0.out
          have m1x := (HSq3.out.low.cell (p := ⟨gx, ox + 1, none⟩) k3x).trans Kx1.out
          clear af bf
          have af := HSq3.out.a.frozen
          have bf := HSq3.out.b.frozen
          have HSx := Lib.hid ((HSq3.out).setA HNE.out hma HRx.out)
          have HJx := Lib.hid (HT.out _ _ _ (HJq3.out) (.inr (.inl ⟨.slice (some ⟨gx, ox, none⟩) 0 0, rfl⟩)))
          obtain ⟨fn, tmps, assign, body, hy, hR⟩ := HY.out pre (x) _ (HJx.out) (by rw [HV.out]; simp)
          have HR := Lib.hid hR
          clear hR
          dsimp only [cEnc] at hy
          gi_wp2
          refine HR.out.mono ?_
          rintro e W3 ⟨rfl, hJ3, hk3, hk4⟩
          have HS3 := Lib.hid ((HSx.out).kept hk3 hBa hBb HXA.out HXB.out hmx (hk4 (HSx.out).low))
          have HJ3 := Lib.hid hJ3
          have HM3 := Lib.hid (cellLen_row HS3.out)
          clear hJ3 hk3 hk4 HR hy
          gi_wp2
          go_roundw
          case rel => exact ⟨_, _, _, _, _, HJ3, HS3, HV, by have := HLN.out; unfold Hid; simp only [List.length_cons, List.length_nil] at this ⊢; omega, fun z hz => HA.out z (by first | exact hz | exact List.mem_cons_of_mem _ hz | simp at hz), fun z hz => HB.out z (by first | exact hz | exact List.mem_cons_of_mem _ hz | simp at hz)⟩
          case measure => have h1 := HME.out; have h2 := HM3.out; simp at h1 h2 ⊢; omega
        · have HV : Hid (bothL la lb = (pre ++ [x]) ++ bothL xs []) := by unfold Hid; rw [HE.out]; rw [bothL_nil, bothL_nil]; try simp
          have hx2 := HXx.out
          unfold bnd at hx2
          gi_wp2_with fail
          gi_quiet (fail)
          rename_i nq
          have HSq1 := Lib.hid (HS.out.drewN nq)
          have HJq1 := Lib.hid (HT.out _ _ _ HJ.out (.inl ⟨nq, rfl⟩))
          clear HJ
          generalize wr.drewN nq = w1 at *
          clear a0 b0 m0x m1x
          have a0 := HSq1.out.a.cell
          have b0 := HSq1.out.b.cell
          have af := HSq1.out.a.frozen
          have bf := HSq1.out.b.frozen
          have m0x := (HSq1.out.low.cell (p := ⟨gx, ox, none⟩) k3x).trans Kx0.out
          have m1x := (HSq1.out.low.cell (p := ⟨gx, ox + 1, none⟩) k3x).trans Kx1.out
          gi_wp2_with fail
          gi_quiet (fail)
          rename_i nq
          have HSq2 := Lib.hid (HSq1.out.drewN nq)
          have HJq2 := Lib.hid (HT.out _ _ _ HJq1.out (.inl ⟨nq, rfl⟩))
          clear HJq1
          generalize w1.drewN nq = w2 at *
          clear a0 b0 m0x m1x
          have a0 := HSq2.out.a.cell
          have b0 := HSq2.out.b.cell
          have af := HSq2.out.a.frozen
          have bf := HSq2.out.b.frozen
          have m0x := (HSq2.out.low.cell (p := ⟨gx, ox, none⟩) k3x).trans Kx0.out
          have m1x := (HSq2.out.low.cell (p := ⟨gx, ox + 1, none⟩) k3x).trans Kx1.out
          gi_wp2_with fail
          gi_quiet (fail)
          rename_i nq
          have HSq3 := Lib.hid (HSq2.out.drewN nq)
          have HJq3 := Lib.hid (HT.out _ _ _ HJq2.out (.inl ⟨nq, rfl⟩))
          clear HJq2
          generalize w2.drewN nq = w3 at *
          clear a0 b0 m0x m1x
          have a0 := HSq3.out.a.cell
          have b0 := HSq3.out.b.cell
          have af := HSq3.out.a.frozen
          have bf := HSq3.out.b.frozen
          have m0x := (HSq3.out.low.cell (p := ⟨gx, ox, none⟩) k3x).trans Kx0.out
          have m1x := (HSq3.out.low.cell (p := ⟨gx, ox + 1, none⟩) k3x).trans Kx1.out
          clear af bf
          have af := HSq3.out.a.frozen
          have bf := HSq3.out.b.frozen
          have HSx := Lib.hid ((HSq3.out).setA HNE.out hma HRx.out)
          have HJx := Lib.hid (HT.out _ _ _ (HJq3.out) (.inr (.inl ⟨.slice (some ⟨gx, ox + 2, none⟩) xs.length (cx - 1), rfl⟩)))
          obtain ⟨fn, tmps, assign, body, hy, hR⟩ := HY.out pre (x) _ (HJx.out) (by rw [HV.out]; simp)
          have HR := Lib.hid hR
          clear hR
          dsimp only [cEnc] at hy
          gi_wp2
          refine HR.out.mono ?_
          rintro e W3 ⟨rfl, hJ3, hk3, hk4⟩
          have HS3 := Lib.hid ((HSx.out).kept hk3 hBa hBb HXA.out HXB.out hmx (hk4 (HSx.out).low))
          have HJ3 := Lib.hid hJ3
          have HM3 := Lib.hid (cellLen_row HS3.out)
          clear hJ3 hk3 hk4 HR hy
          gi_wp2
          go_roundw
          case rel => exact ⟨_, _, _, _, _, HJ3, HS3, HV, by have := HLN.out; unfold Hid; simp only [List.length_cons, List.length_nil] at this ⊢; omega, fun z hz => HA.out z (by first | exact hz | exact List.mem_cons_of_mem _ hz | simp at hz), fun z hz => HB.out z (by first | exact hz | exact List.mem_cons_of_mem _ hz | simp at hz)⟩
          case measure => have h1 := HME.out; have h2 := HM3.out; simp at h1 h2 ⊢; omega
      · obtain ⟨gy, oy, cy, rfl, k1y, k2y, k3y, k4y, k5y, k6y⟩ := HS.out.rb.cons
        have b0 := HS.out.b.cell
        have bf := HS.out.b.frozen
        have HRy := Lib.hid k6y
        have hcy : cy ≤ 9223372036854775807 := by unfold maxLen at k2y; omega
        have m0y := (HS.out.low.cell (p := ⟨gy, oy, none⟩) k3y).trans k4y
        have m1y := (HS.out.low.cell (p := ⟨gy, oy + 1, none⟩) k3y).trans k5y
        have q1y : ((ys.length : Int) + 1 == 0) = false := by rw [beq_eq_false_iff_ne]; omega
        have q2y : decide ((0 : Int) < (ys.length : Int) + 1) = true := by rw [decide_eq_true_iff]; omega
        have q3y : (0 : Int) < (ys.length : Int) + 1 := by omega
        have HXy := Lib.hid (HB.out y (by simp))
        have Ky0 := Lib.hid k4y
        have Ky1 := Lib.hid k5y
        clear k6y k4y k5y k2y
        by_cases hxy : bl x.1 y.1 = true
        · obtain ⟨p1, p2, p3, p4⟩ := bl_le hxy
          have HXY := Lib.hid hxy
          clear hxy
          by_cases onex : cx = 1
          · subst onex
            have hysx : xs = [] := by rw [← List.length_eq_zero_iff]; omega
            subst hysx
            clear HRx
            have HRx : Hid (CntB wb (.slice (some ⟨gx, ox, none⟩) 0 0) []) := CntB.tail0 rfl
            have HV : Hid (bothL la lb = (pre ++ [x]) ++ bothL [] (y :: ys)) := by unfold Hid; rw [HE.out]; rw [bothL_lt _ _ HXY.out]; simp
            have hlx : 1 ≤ 1000000 := by have := HLN.out; simp only [List.length_cons, List.length_nil] at this; omega
            have hly : ys.length ≤ 1000000 := by have := HLN.out; simp only [List.length_cons, List.length_nil] at this; omega
            have qs : decide ((0 : Int) < (1 + ((ys.length : Int) + 1))) = true := by rw [decide_eq_true_iff]; omega
            have qs2 : (0 : Int) < (1 + ((ys.length : Int) + 1)) := by omega
            have hx2 := HXx.out
            unfold bnd at hx2
            gi_wp2_with fail
            gi_quiet (fail)
            rename_i nq
            have HSq1 := Lib.hid (HS.out.drewN nq)
            have HJq1 := Lib.hid (HT.out _ _ _ HJ.out (.inl ⟨nq, rfl⟩))
            clear HJ
            generalize wr.drewN nq = w1 at *
            clear a0 b0 m0x m1x m0y m1y
            have a0 := HSq1.out.a.cell
            have b0 := HSq1.out.b.cell
            have af := HSq1.out.a.frozen
            have bf := HSq1.out.b.frozen
            have m0x := (HSq1.out.low.cell (p := ⟨gx, ox, none⟩) k3x).trans Kx0.out
            have m1x := (HSq1.out.low.cell (p := ⟨gx, ox + 1, none⟩) k3x).trans Kx1.out
            have m0y := (HSq1.out.low.cell (p := ⟨gy, oy, none⟩) k3y).trans Ky0.out
            have m1y := (HSq1.out.low.cell (p := ⟨gy, oy + 1, none⟩) k3y).trans Ky1.out
            gi_wp2_with fail
            gi_quiet (fail)
            rename_i nq
            have HSq2 := Lib.hid (HSq1.out.drewN nq)
            have HJq2 := Lib.hid (HT.out _ _ _ HJq1.out (.inl ⟨nq, rfl⟩))
            clear HJq1
            generalize w1.drewN nq = w2 at *
            clear a0 b0 m0x m1x m0y m1y
            have a0 := HSq2.out.a.cell
            have b0 := HSq2.out.b.cell
            have af := HSq2.out.a.frozen
            have bf := HSq2.out.b.frozen
            have m0x := (HSq2.out.low.cell (p := ⟨gx, ox, none⟩) k3x).trans Kx0.out
            have m1x := (HSq2.out.low.cell (p := ⟨gx, ox + 1, none⟩) k3x).trans Kx1.out
            have m0y := (HSq2.out.low.cell (p := ⟨gy, oy, none⟩) k3y).trans Ky0.out
            have m1y := (HSq2.out.low.cell (p := ⟨gy, oy + 1, none⟩) k3y).trans Ky1.out
            gi_wp2_with fail
            gi_quiet (fail)
            rename_i nq
            have HSq3 := Lib.hid (HSq2.out.drewN nq)
            have HJq3 := Lib.hid (HT.out _ _ _ HJq2.out (.inl ⟨nq, rfl⟩))
            clear HJq2
            generalize w2.drewN nq = w3 at *
            clear a0 b0 m0x m1x m0y m1y
            have a0 := HSq3.out.a.cell
            have b0 := HSq3.out.b.cell
            have af := HSq3.out.a.frozen
            have bf := HSq3.out.b.frozen
            have m0x := (HSq3.out.low.cell (p := ⟨gx, ox, none⟩) k3x).trans Kx0.out
            have m1x := (HSq3.out.low.cell (p := ⟨gx, ox + 1, none⟩) k3x).trans Kx1.out
            have m0y := (HSq3.out.low.cell (p := ⟨gy, oy, none⟩) k3y).trans Ky0.out
            have m1y := (HSq3.out.low.cell (p := ⟨gy, oy + 1, none⟩) k3y).trans Ky1.out
            clear af bf
            have af := HSq3.out.a.frozen
            have bf := HSq3.out.b.frozen
            have HSx := Lib.hid ((HSq3.out).setA HNE.out hma HRx.out)
            have HJx := Lib.hid (HT.out _ _ _ (HJq3.out) (.inr (.inl ⟨.slice (some ⟨gx, ox, none⟩) 0 0, rfl⟩)))
            obtain ⟨fn, tmps, assign, body, hy, hR⟩ := HY.out pre (x) _ (HJx.out) (by rw [HV.out]; simp)
            have HR := Lib.hid hR
            clear hR
            dsimp only [cEnc] at hy
            gi_wp2
            refine HR.out.mono ?_
            rintro e W3 ⟨rfl, hJ3, hk3, hk4⟩
            have HS3 := Lib.hid ((HSx.out).kept hk3 hBa hBb HXA.out HXB.out hmx (hk4 (HSx.out).low))
            have HJ3 := Lib.hid hJ3
            have HM3 := Lib.hid (cellLen_row HS3.out)
            clear hJ3 hk3 hk4 HR hy
            gi_wp2
            go_roundw
            case rel => exact ⟨_, _, _, _, _, HJ3, HS3, HV, by have := HLN.out; unfold Hid; simp only [List.length_cons, List.length_nil] at this ⊢; omega, fun z hz => HA.out z (by first | exact hz | exact List.mem_cons_of_mem _ hz | simp at hz), fun z hz => HB.out z (by first | exact hz | exact List.mem_cons_of_mem _ hz | simp at hz)⟩
            case measure => have h1 := HME.out; have h2 := HM3.out; simp at h1 h2 ⊢; omega
          · have HV : Hid (bothL la lb = (pre ++ [x]) ++ bothL xs (y :: ys)) := by unfold Hid; rw [HE.out]; rw [bothL_lt _ _ HXY.out]; simp
            have hlx : xs.length ≤ 1000000 := by have := HLN.out; simp only [List.length_cons, List.length_nil] at this; omega
            have hly : ys.length ≤ 1000000 := by have := HLN.out; simp only [List.length_cons, List.length_nil] at this; omega
            have qs : decide ((0 : Int) < (((xs.length : Int) + 1) + ((ys.length : Int) + 1))) = true := by rw [decide_eq_true_iff]; omega
            have qs2 : (0 : Int) < (((xs.length : Int) + 1) + ((ys.length : Int) + 1)) := by omega
            have hx2 := HXx.out
            unfold bnd at hx2
            gi_wp2_with fail
            gi_quiet (fail)
            rename_i nq
            have HSq1 := Lib.hid (HS.out.drewN nq)
            have HJq1 := Lib.hid (HT.out _ _ _ HJ.out (.inl ⟨nq, rfl⟩))
            clear HJ
            generalize wr.drewN nq = w1 at *
            clear a0 b0 m0x m1x m0y m1y
            have a0 := HSq1.out.a.cell
            have b0 := HSq1.out.b.cell
            have af := HSq1.out.a.frozen
            have bf := HSq1.out.b.frozen
            have m0x := (HSq1.out.low.cell (p := ⟨gx, ox, none⟩) k3x).trans Kx0.out
            have m1x := (HSq1.out.low.cell (p := ⟨gx, ox + 1, none⟩) k3x).trans Kx1.out
            have m0y := (HSq1.out.low.cell (p := ⟨gy, oy, none⟩) k3y).trans Ky0.out
            have m1y := (HSq1.out.low.cell (p := ⟨gy, oy + 1, none⟩) k3y).trans Ky1.out
            gi_wp2_with fail
            gi_quiet (fail)
            rename_i nq
            have HSq2 := Lib.hid (HSq1.out.drewN nq)
            have HJq2 := Lib.hid (HT.out _ _ _ HJq1.out (.inl ⟨nq, rfl⟩))
            clear HJq1
            generalize w1.drewN nq = w2 at *
            clear a0 b0 m0x m1x m0y m1y
            have a0 := HSq2.out.a.cell
            have b0 := HSq2.out.b.cell
            have af := HSq2.out.a.frozen
            have bf := HSq2.out.b.frozen
            have m0x := (HSq2.out.low.cell (p := ⟨gx, ox, none⟩) k3x).trans Kx0.out
            have m1x := (HSq2.out.low.cell (p := ⟨gx, ox + 1, none⟩) k3x).trans Kx1.out
            have m0y := (HSq2.out.low.cell (p := ⟨gy, oy, none⟩) k3y).trans Ky0.out
            have m1y := (HSq2.out.low.cell (p := ⟨gy, oy + 1, none⟩) k3y).trans Ky1.out
            gi_wp2_with fail
            gi_quiet (fail)
            rename_i nq
            have HSq3 := Lib.hid (HSq2.out.drewN nq)
            have HJq3 := Lib.hid (HT.out _ _ _ HJq2.out (.inl ⟨nq, rfl⟩))
            clear HJq2
            generalize w2.drewN nq = w3 at *
            clear a0 b0 m0x m1x m0y m1y
            have a0 := HSq3.out.a.cell
            have b0 := HSq3.out.b.cell
            have af := HSq3.out.a.frozen
            have bf := HSq3.out.b.frozen
            have m0x := (HSq3.out.low.cell (p := ⟨gx, ox, none⟩) k3x).trans Kx0.out
            have m1x := (HSq3.out.low.cell (p := ⟨gx, ox + 1, none⟩) k3x).trans Kx1.out
            have m0y := (HSq3.out.low.cell (p := ⟨gy, oy, none⟩) k3y).trans Ky0.out
            have m1y := (HSq3.out.low.cell (p := ⟨gy, oy + 1, none⟩) k3y).trans Ky1.out
            clear af bf
            have af := HSq3.out.a.frozen
            have bf := HSq3.out.b.frozen
            have HSx := Lib.hid ((HSq3.out).setA HNE.out hma HRx.out)
            have HJx := Lib.hid (HT.out _ _ _ (HJq3.out) (.inr (.inl ⟨.slice (some ⟨gx, ox + 2, none⟩) xs.length (cx - 1), rfl⟩)))
            obtain ⟨fn, tmps, assign, body, hy, hR⟩ := HY.out pre (x) _ (HJx.out) (by rw [HV.out]; simp)
            have HR := Lib.hid hR
            clear hR
            dsimp only [cEnc] at hy
            gi_wp2
            refine HR.out.mono ?_
            rintro e W3 ⟨rfl, hJ3, hk3, hk4⟩
            have HS3 := Lib.hid ((HSx.out).kept hk3 hBa hBb HXA.out HXB.out hmx (hk4 (HSx.out).low))
            have HJ3 := Lib.hid hJ3
            have HM3 := Lib.hid (cellLen_row HS3.out)
            clear hJ3 hk3 hk4 HR hy
            gi_wp2
            go_roundw
            case rel => exact ⟨_, _, _, _, _, HJ3, HS3, HV, by have := HLN.out; unfold Hid; simp only [List.length_cons, List.length_nil] at this ⊢; omega, fun z hz => HA.out z (by first | exact hz | exact List.mem_cons_of_mem _ hz | simp at hz), fun z hz => HB.out z (by first | exact hz | exact List.mem_cons_of_mem _ hz | simp at hz)⟩
            case measure => have h1 := HME.out; have h2 := HM3.out; simp at h1 h2 ⊢; omega
        · by_cases hyx : bl y.1 x.1 = true
          · obtain ⟨p1, p2, p3, p4⟩ := bl_le hyx
            have HXY := Lib.hid hxy
            have HYX := Lib.hid hyx
            clear hxy hyx
            by_cases oney : cy = 1
            · subst oney
              have hysy : ys = [] := by rw [← List.length_eq_zero_iff]; omega
              subst hysy
              clear HRy
              have HRy : Hid (CntB wb (.slice (some ⟨gy, oy, none⟩) 0 0) []) := CntB.tail0 rfl
              have HV : Hid (bothL la lb = (pre ++ [y]) ++ bothL (x :: xs) []) := by unfold Hid; rw [HE.out]; rw [bothL_gt _ _ HXY.out HYX.out]; simp
              have hlx : xs.length ≤ 1000000 := by have := HLN.out; simp only [List.length_cons, List.length_nil] at this; omega
              have hly : 1 ≤ 1000000 := by have := HLN.out; simp only [List.length_cons, List.length_nil] at this; omega
              have qs : decide ((0 : Int) < (((xs.length : Int) + 1) + 1)) = true := by rw [decide_eq_true_iff]; omega
              have qs2 : (0 : Int) < (((xs.length : Int) + 1) + 1) := by omega
              have hy2 := HXy.out
              unfold bnd at hy2
              gi_wp2_with fail
              gi_quiet (fail)
              rename_i nq
              have HSq1 := Lib.hid (HS.out.drewN nq)
              have HJq1 := Lib.hid (HT.out _ _ _ HJ.out (.inl ⟨nq, rfl⟩))
              clear HJ
              generalize wr.drewN nq = w1 at *
              clear a0 b0 m0x m1x m0y m1y
              have a0 := HSq1.out.a.cell
              have b0 := HSq1.out.b.cell
              have af := HSq1.out.a.frozen
              have bf := HSq1.out.b.frozen
              have m0x := (HSq1.out.low.cell (p := ⟨gx, ox, none⟩) k3x).trans Kx0.out
              have m1x := (HSq1.out.low.cell (p := ⟨gx, ox + 1, none⟩) k3x).trans Kx1.out
              have m0y := (HSq1.out.low.cell (p := ⟨gy, oy, none⟩) k3y).trans Ky0.out
              have m1y := (HSq1.out.low.cell (p := ⟨gy, oy + 1, none⟩) k3y).trans Ky1.out
              gi_wp2_with fail
              gi_quiet (fail)
              rename_i nq
              have HSq2 := Lib.hid (HSq1.out.drewN nq)
              have HJq2 := Lib.hid (HT.out _ _ _ HJq1.out (.inl ⟨nq, rfl⟩))
              clear HJq1
              generalize w1.drewN nq = w2 at *
              clear a0 b0 m0x m1x m0y m1y
              have a0 := HSq2.out.a.cell
              have b0 := HSq2.out.b.cell
              have af := HSq2.out.a.frozen
              have bf := HSq2.out.b.frozen
              have m0x := (HSq2.out.low.cell (p := ⟨gx, ox, none⟩) k3x).trans Kx0.out
              have m1x := (HSq2.out.low.cell (p := ⟨gx, ox + 1, none⟩) k3x).trans Kx1.out
              have m0y := (HSq2.out.low.cell (p := ⟨gy, oy, none⟩) k3y).trans Ky0.out
              have m1y := (HSq2.out.low.cell (p := ⟨gy, oy + 1, none⟩) k3y).trans Ky1.out
              clear af bf
              have af := HSq2.out.a.frozen
              have bf := HSq2.out.b.frozen
              have HSy := Lib.hid ((HSq2.out).setB HNE.out hmb HRy.out)
              have HJy := Lib.hid (HT.out _ _ _ (HJq2.out) (.inr (.inr ⟨.slice (some ⟨gy, oy, none⟩) 0 0, rfl⟩)))
              obtain ⟨fn, tmps, assign, body, hy, hR⟩ := HY.out pre (y) _ (HJy.out) (by rw [HV.out]; simp)
              have HR := Lib.hid hR
              clear hR
              dsimp only [cEnc] at hy
              gi_wp2
              refine HR.out.mono ?_
              rintro e W3 ⟨rfl, hJ3, hk3, hk4⟩
              have HS3 := Lib.hid ((HSy.out).kept hk3 hBa hBb HXA.out HXB.out hmx (hk4 (HSy.out).low))
              have HJ3 := Lib.hid hJ3
              have HM3 := Lib.hid (cellLen_row HS3.out)
              clear hJ3 hk3 hk4 HR hy
              gi_wp2
              go_roundw
              case rel => exact ⟨_, _, _, _, _, HJ3, HS3, HV, by have := HLN.out; unfold Hid; simp only [List.length_cons, List.length_nil] at this ⊢; omega, fun z hz => HA.out z (by first | exact hz | exact List.mem_cons_of_mem _ hz | simp at hz), fun z hz => HB.out z (by first | exact hz | exact List.mem_cons_of_mem _ hz | simp at hz)⟩
              case measure => have h1 := HME.out; have h2 := HM3.out; simp at h1 h2 ⊢; omega
            · have HV : Hid (bothL la lb = (pre ++ [y]) ++ bothL (x :: xs) ys) := by unfold Hid; rw [HE.out]; rw [bothL_gt _ _ HXY.out HYX.out]; simp
              have hlx : xs.length ≤ 1000000 := by have := HLN.out; simp only [List.length_cons, List.length_nil] at this; omega
              have hly : ys.length ≤ 1000000 := by have := HLN.out; simp only [List.length_cons, List.length_nil] at this; omega
              have qs : decide ((0 : Int) < (((xs.length : Int) + 1) + ((ys.length : Int) + 1))) = true := by rw [decide_eq_true_iff]; omega
              have qs2 : (0 : Int) < (((xs.length : Int) + 1) + ((ys.length : Int) + 1)) := by omega
              have hy2 := HXy.out
              unfold bnd at hy2
              gi_wp2_with fail
              gi_quiet (fail)
              rename_i nq
              have HSq1 := Lib.hid (HS.out.drewN nq)
              have HJq1 := Lib.hid (HT.out _ _ _ HJ.out (.inl ⟨nq, rfl⟩))
              clear HJ
              generalize wr.drewN nq = w1 at *
              clear a0 b0 m0x m1x m0y m1y
              have a0 := HSq1.out.a.cell
              have b0 := HSq1.out.b.cell
              have af := HSq1.out.a.frozen
              have bf := HSq1.out.b.frozen
              have m0x := (HSq1.out.low.cell (p := ⟨gx, ox, none⟩) k3x).trans Kx0.out
              have m1x := (HSq1.out.low.cell (p := ⟨gx, ox + 1, none⟩) k3x).trans Kx1.out
              have m0y := (HSq1.out.low.cell (p := ⟨gy, oy, none⟩) k3y).trans Ky0.out
              have m1y := (HSq1.out.low.cell (p := ⟨gy, oy + 1, none⟩) k3y).trans Ky1.out
              gi_wp2_with fail
              gi_quiet (fail)
              rename_i nq
              have HSq2 := Lib.hid (HSq1.out.drewN nq)
              have HJq2 := Lib.hid (HT.out _ _ _ HJq1.out (.inl ⟨nq, rfl⟩))
              clear HJq1
              generalize w1.drewN nq = w2 at *
              clear a0 b0 m0x m1x m0y m1y
              have a0 := HSq2.out.a.cell
              have b0 := HSq2.out.b.cell
              have af := HSq2.out.a.frozen
              have bf := HSq2.out.b.frozen
              have m0x := (HSq2.out.low.cell (p := ⟨gx, ox, none⟩) k3x).trans Kx0.out
              have m1x := (HSq2.out.low.cell (p := ⟨gx, ox + 1, none⟩) k3x).trans Kx1.out
              have m0y := (HSq2.out.low.cell (p := ⟨gy, oy, none⟩) k3y).trans Ky0.out
              have m1y := (HSq2.out.low.cell (p := ⟨gy, oy + 1, none⟩) k3y).trans Ky1.out
              clear af bf
              have af := HSq2.out.a.frozen
              have bf := HSq2.out.b.frozen
              have HSy := Lib.hid ((HSq2.out).setB HNE.out hmb HRy.out)
              have HJy := Lib.hid (HT.out _ _ _ (HJq2.out) (.inr (.inr ⟨.slice (some ⟨gy, oy + 2, none⟩) ys.length (cy - 1), rfl⟩)))
              obtain ⟨fn, tmps, assign, body, hy, hR⟩ := HY.out pre (y) _ (HJy.out) (by rw [HV.out]; simp)
              have HR := Lib.hid hR
              clear hR
              dsimp only [cEnc] at hy
              gi_wp2
              refine HR.out.mono ?_
              rintro e W3 ⟨rfl, hJ3, hk3, hk4⟩
              have HS3 := Lib.hid ((HSy.out).kept hk3 hBa hBb HXA.out HXB.out hmx (hk4 (HSy.out).low))
              have HJ3 := Lib.hid hJ3
              have HM3 := Lib.hid (cellLen_row HS3.out)
              clear hJ3 hk3 hk4 HR hy
              gi_wp2
              go_roundw
              case rel => exact ⟨_, _, _, _, _, HJ3, HS3, HV, by have := HLN.out; unfold Hid; simp only [List.length_cons, List.length_nil] at this ⊢; omega, fun z hz => HA.out z (by first | exact hz | exact List.mem_cons_of_mem _ hz | simp at hz), fun z hz => HB.out z (by first | exact hz | exact List.mem_cons_of_mem _ hz | simp at hz)⟩
              case measure => have h1 := HME.out; have h2 := HM3.out; simp at h1 h2 ⊢; omega
          · have hke : x.1 = y.1 := bl_total (Bool.eq_false_iff.2 hxy) (Bool.eq_false_iff.2 hyx)
            have HXY := Lib.hid hxy
            have HYX := Lib.hid hyx
            have HKE := Lib.hid hke
            rw [← hke] at m0y
            have Ky0 : Hid (wb.cell? ⟨gy, oy, none⟩ = some (.string x.1)) := by rw [hke]; exact Ky0
            have p1 : Op.bytesLess x.1.toList x.1.toList = false := by rw [ByteArray.toList_eq]; exact bl_irrefl x.1
            clear hxy hyx hke
            by_cases onex : cx = 1
            · subst onex
              have hysx : xs = [] := by rw [← List.length_eq_zero_iff]; omega
              subst hysx
              clear HRx
              have HRx : Hid (CntB wb (.slice (some ⟨gx, ox, none⟩) 0 0) []) := CntB.tail0 rfl
              by_cases oney : cy = 1
              · subst oney
                have hysy : ys = [] := by rw [← List.length_eq_zero_iff]; omega
                subst hysy
                clear HRy
                have HRy : Hid (CntB wb (.slice (some ⟨gy, oy, none⟩) 0 0) []) := CntB.tail0 rfl
                have HV : Hid (bothL la lb = (pre ++ [(x.1, x.2 + y.2)]) ++ bothL [] []) := by unfold Hid; rw [HE.out]; rw [bothL_eq _ _ HXY.out HYX.out]; simp
                have hlx : 1 ≤ 1000000 := by have := HLN.out; simp only [List.length_cons, List.length_nil] at this; omega
                have hly : 1 ≤ 1000000 := by have := HLN.out; simp only [List.length_cons, List.length_nil] at this; omega
                have hx2 := HXx.out
                unfold bnd at hx2
                have hy2 := HXy.out
                unfold bnd at hy2
                gi_wp2_with fail
                gi_quiet (fail)
                rename_i nq
                have HSq1 := Lib.hid (HS.out.drewN nq)
                have HJq1 := Lib.hid (HT.out _ _ _ HJ.out (.inl ⟨nq, rfl⟩))
                clear HJ
                generalize wr.drewN nq = w1 at *
                clear a0 b0 m0x m1x m0y m1y
                have a0 := HSq1.out.a.cell
                have b0 := HSq1.out.b.cell
                have af := HSq1.out.a.frozen
                have bf := HSq1.out.b.frozen
                have m0x := (HSq1.out.low.cell (p := ⟨gx, ox, none⟩) k3x).trans Kx0.out
                have m1x := (HSq1.out.low.cell (p := ⟨gx, ox + 1, none⟩) k3x).trans Kx1.out
                have m0y := (HSq1.out.low.cell (p := ⟨gy, oy, none⟩) k3y).trans Ky0.out
                have m1y := (HSq1.out.low.cell (p := ⟨gy, oy + 1, none⟩) k3y).trans Ky1.out
                gi_wp2_with fail
                gi_quiet (fail)
                rename_i nq
                have HSq2 := Lib.hid (HSq1.out.drewN nq)
                have HJq2 := Lib.hid (HT.out _ _ _ HJq1.out (.inl ⟨nq, rfl⟩))
                clear HJq1
                generalize w1.drewN nq = w2 at *
                clear a0 b0 m0x m1x m0y m1y
                have a0 := HSq2.out.a.cell
                have b0 := HSq2.out.b.cell
                have af := HSq2.out.a.frozen
                have bf := HSq2.out.b.frozen
                have m0x := (HSq2.out.low.cell (p := ⟨gx, ox, none⟩) k3x).trans Kx0.out
                have m1x := (HSq2.out.low.cell (p := ⟨gx, ox + 1, none⟩) k3x).trans Kx1.out
                have m0y := (HSq2.out.low.cell (p := ⟨gy, oy, none⟩) k3y).trans Ky0.out
                have m1y := (HSq2.out.low.cell (p := ⟨gy, oy + 1, none⟩) k3y).trans Ky1.out
                gi_wp2_with fail
                gi_quiet (fail)
                rename_i nq
                have HSq3 := Lib.hid (HSq2.out.drewN nq)
                have HJq3 := Lib.hid (HT.out _ _ _ HJq2.out (.inl ⟨nq, rfl⟩))
                clear HJq2
                generalize w2.drewN nq = w3 at *
                clear a0 b0 m0x m1x m0y m1y
                have a0 := HSq3.out.a.cell
                have b0 := HSq3.out.b.cell
                have af := HSq3.out.a.frozen
                have bf := HSq3.out.b.frozen
                have m0x := (HSq3.out.low.cell (p := ⟨gx, ox, none⟩) k3x).trans Kx0.out
                have m1x := (HSq3.out.low.cell (p := ⟨gx, ox + 1, none⟩) k3x).trans Kx1.out
                have m0y := (HSq3.out.low.cell (p := ⟨gy, oy, none⟩) k3y).trans Ky0.out
                have m1y := (HSq3.out.low.cell (p := ⟨gy, oy + 1, none⟩) k3y).trans Ky1.out
                clear af bf
                have af := HSq3.out.a.frozen
                have bf := HSq3.out.b.frozen
                have HSx := Lib.hid ((HSq3.out).setA HNE.out hma HRx.out)
                have HJx := Lib.hid (HT.out _ _ _ (HJq3.out) (.inr (.inl ⟨.slice (some ⟨gx, ox, none⟩) 0 0, rfl⟩)))
                have b1 := HSx.out.b.cell
                have b1f := HSx.out.b.frozen
                have HSy := Lib.hid ((HSx.out).setB HNE.out hmb HRy.out)
                have HJy := Lib.hid (HT.out _ _ _ (HJx.out) (.inr (.inr ⟨.slice (some ⟨gy, oy, none⟩) 0 0, rfl⟩)))
                obtain ⟨fn, tmps, assign, body, hy, hR⟩ := HY.out pre ((x.1, x.2 + y.2)) _ (HJy.out) (by rw [HV.out]; simp)
                have HR := Lib.hid hR
                clear hR
                dsimp only [cEnc] at hy
                gi_wp2
                refine HR.out.mono ?_
                rintro e W3 ⟨rfl, hJ3, hk3, hk4⟩
                have HS3 := Lib.hid ((HSy.out).kept hk3 hBa hBb HXA.out HXB.out hmx (hk4 (HSy.out).low))
                have HJ3 := Lib.hid hJ3
                have HM3 := Lib.hid (cellLen_row HS3.out)
                clear hJ3 hk3 hk4 HR hy
                gi_wp2
                go_roundw
                case rel => exact ⟨_, _, _, _, _, HJ3, HS3, HV, by have := HLN.out; unfold Hid; simp only [List.length_cons, List.length_nil] at this ⊢; omega, fun z hz => HA.out z (by first | exact hz | exact List.mem_cons_of_mem _ hz | simp at hz), fun z hz => HB.out z (by first | exact hz | exact List.mem_cons_of_mem _ hz | simp at hz)⟩
                case measure => have h1 := HME.out; have h2 := HM3.out; simp at h1 h2 ⊢; omega
              · have HV : Hid (bothL la lb = (pre ++ [(x.1, x.2 + y.2)]) ++ bothL [] ys) := by unfold Hid; rw [HE.out]; rw [bothL_eq _ _ HXY.out HYX.out]; simp
                have hlx : 1 ≤ 1000000 := by have := HLN.out; simp only [List.length_cons, List.length_nil] at this; omega
                have hly : ys.length ≤ 1000000 := by have := HLN.out; simp only [List.length_cons, List.length_nil] at this; omega
                have qs : decide ((0 : Int) < (1 + ((ys.length : Int) + 1))) = true := by rw [decide_eq_true_iff]; omega
                have qs2 : (0 : Int) < (1 + ((ys.length : Int) + 1)) := by omega
                have hx2 := HXx.out
                unfold bnd at hx2
                have hy2 := HXy.out
                unfold bnd at hy2
                gi_wp2_with fail
                gi_quiet (fail)
                rename_i nq
                have HSq1 := Lib.hid (HS.out.drewN nq)
                have HJq1 := Lib.hid (HT.out _ _ _ HJ.out (.inl ⟨nq, rfl⟩))
                clear HJ
                generalize wr.drewN nq = w1 at *
                clear a0 b0 m0x m1x m0y m1y
                have a0 := HSq1.out.a.cell
                have b0 := HSq1.out.b.cell
                have af := HSq1.out.a.frozen
                have bf := HSq1.out.b.frozen
                have m0x := (HSq1.out.low.cell (p := ⟨gx, ox, none⟩) k3x).trans Kx0.out
                have m1x := (HSq1.out.low.cell (p := ⟨gx, ox + 1, none⟩) k3x).trans Kx1.out
                have m0y := (HSq1.out.low.cell (p := ⟨gy, oy, none⟩) k3y).trans Ky0.out
                have m1y := (HSq1.out.low.cell (p := ⟨gy, oy + 1, none⟩) k3y).trans Ky1.out
                gi_wp2_with fail
                gi_quiet (fail)
                rename_i nq
                have HSq2 := Lib.hid (HSq1.out.drewN nq)
                have HJq2 := Lib.hid (HT.out _ _ _ HJq1.out (.inl ⟨nq, rfl⟩))
                clear HJq1
                generalize w1.drewN nq = w2 at *
                clear a0 b0 m0x m1x m0y m1y
                have a0 := HSq2.out.a.cell
                have b0 := HSq2.out.b.cell
                have af := HSq2.out.a.frozen
                have bf := HSq2.out.b.frozen
                have m0x := (HSq2.out.low.cell (p := ⟨gx, ox, none⟩) k3x).trans Kx0.out
                have m1x := (HSq2.out.low.cell (p := ⟨gx, ox + 1, none⟩) k3x).trans Kx1.out
                have m0y := (HSq2.out.low.cell (p := ⟨gy, oy, none⟩) k3y).trans Ky0.out
                have m1y := (HSq2.out.low.cell (p := ⟨gy, oy + 1, none⟩) k3y).trans Ky1.out
                gi_wp2_with fail
                gi_quiet (fail)
                rename_i nq
                have HSq3 := Lib.hid (HSq2.out.drewN nq)
                have HJq3 := Lib.hid (HT.out _ _ _ HJq2.out (.inl ⟨nq, rfl⟩))
                clear HJq2
                generalize w2.drewN nq = w3 at *
                clear a0 b0 m0x m1x m0y m1y
                have a0 := HSq3.out.a.cell
                have b0 := HSq3.out.b.cell
                have af := HSq3.out.a.frozen
                have bf := HSq3.out.b.frozen
                have m0x := (HSq3.out.low.cell (p := ⟨gx, ox, none⟩) k3x).trans Kx0.out
                have m1x := (HSq3.out.low.cell (p := ⟨gx, ox + 1, none⟩) k3x).trans Kx1.out
                have m0y := (HSq3.out.low.cell (p := ⟨gy, oy, none⟩) k3y).trans Ky0.out
                have m1y := (HSq3.out.low.cell (p := ⟨gy, oy + 1, none⟩) k3y).trans Ky1.out
                clear af bf
                have af := HSq3.out.a.frozen
                have bf := HSq3.out.b.frozen
                have HSx := Lib.hid ((HSq3.out).setA HNE.out hma HRx.out)
                have HJx := Lib.hid (HT.out _ _ _ (HJq3.out) (.inr (.inl ⟨.slice (some ⟨gx, ox, none⟩) 0 0, rfl⟩)))
                have b1 := HSx.out.b.cell
                have b1f := HSx.out.b.frozen
                have HSy := Lib.hid ((HSx.out).setB HNE.out hmb HRy.out)
                have HJy := Lib.hid (HT.out _ _ _ (HJx.out) (.inr (.inr ⟨.slice (some ⟨gy, oy + 2, none⟩) ys.length (cy - 1), rfl⟩)))
                obtain ⟨fn, tmps, assign, body, hy, hR⟩ := HY.out pre ((x.1, x.2 + y.2)) _ (HJy.out) (by rw [HV.out]; simp)
                have HR := Lib.hid hR
                clear hR
                dsimp only [cEnc] at hy
                gi_wp2
                refine HR.out.mono ?_
                rintro e W3 ⟨rfl, hJ3, hk3, hk4⟩
                have HS3 := Lib.hid ((HSy.out).kept hk3 hBa hBb HXA.out HXB.out hmx (hk4 (HSy.out).low))
                have HJ3 := Lib.hid hJ3
                have HM3 := Lib.hid (cellLen_row HS3.out)
                clear hJ3 hk3 hk4 HR hy
                gi_wp2
                go_roundw
                case rel => exact ⟨_, _, _, _, _, HJ3, HS3, HV, by have := HLN.out; unfold Hid; simp only [List.length_cons, List.length_nil] at this ⊢; omega, fun z hz => HA.out z (by first | exact hz | exact List.mem_cons_of_mem _ hz | simp at hz), fun z hz => HB.out z (by first | exact hz | exact List.mem_cons_of_mem _ hz | simp at hz)⟩
                case measure => have h1 := HME.out; have h2 := HM3.out; simp at h1 h2 ⊢; omega
            · by_cases oney : cy = 1
              · subst oney
                have hysy : ys = [] := by rw [← List.length_eq_zero_iff]; omega
                subst hysy
                clear HRy
                have HRy : Hid (CntB wb (.slice (some ⟨gy, oy, none⟩) 0 0) []) := CntB.tail0 rfl
                have HV : Hid (bothL la lb = (pre ++ [(x.1, x.2 + y.2)]) ++ bothL xs []) := by unfold Hid; rw [HE.out]; rw [bothL_eq _ _ HXY.out HYX.out]; simp
                have hlx : xs.length ≤ 1000000 := by have := HLN.out; simp only [List.length_cons, List.length_nil] at this; omega
                have hly : 1 ≤ 1000000 := by have := HLN.out; simp only [List.length_cons, List.length_nil] at this; omega
                have qs : decide ((0 : Int) < (((xs.length : Int) + 1) + 1)) = true := by rw [decide_eq_true_iff]; omega
                have qs2 : (0 : Int) < (((xs.length : Int) + 1) + 1) := by omega
                have hx2 := HXx.out
                unfold bnd at hx2
                have hy2 := HXy.out
                unfold bnd at hy2
                gi_wp2_with fail
                gi_quiet (fail)
                rename_i nq
                have HSq1 := Lib.hid (HS.out.drewN nq)
                have HJq1 := Lib.hid (HT.out _ _ _ HJ.out (.inl ⟨nq, rfl⟩))
                clear HJ
                generalize wr.drewN nq = w1 at *
                clear a0 b0 m0x m1x m0y m1y
                have a0 := HSq1.out.a.cell
                have b0 := HSq1.out.b.cell
                have af := HSq1.out.a.frozen
                have bf := HSq1.out.b.frozen
                have m0x := (HSq1.out.low.cell (p := ⟨gx, ox, none⟩) k3x).trans Kx0.out
                have m1x := (HSq1.out.low.cell (p := ⟨gx, ox + 1, none⟩) k3x).trans Kx1.out
                have m0y := (HSq1.out.low.cell (p := ⟨gy, oy, none⟩) k3y).trans Ky0.out
                have m1y := (HSq1.out.low.cell (p := ⟨gy, oy + 1, none⟩) k3y).trans Ky1.out
                gi_wp2_with fail
                gi_quiet (fail)
                rename_i nq
                have HSq2 := Lib.hid (HSq1.out.drewN nq)
                have HJq2 := Lib.hid (HT.out _ _ _ HJq1.out (.inl ⟨nq, rfl⟩))
                clear HJq1
                generalize w1.drewN nq = w2 at *
                clear a0 b0 m0x m1x m0y m1y
                have a0 := HSq2.out.a.cell
                have b0 := HSq2.out.b.cell
                have af := HSq2.out.a.frozen
                have bf := HSq2.out.b.frozen
                have m0x := (HSq2.out.low.cell (p := ⟨gx, ox, none⟩) k3x).trans Kx0.out
                have m1x := (HSq2.out.low.cell (p := ⟨gx, ox + 1, none⟩) k3x).trans Kx1.out
                have m0y := (HSq2.out.low.cell (p := ⟨gy, oy, none⟩) k3y).trans Ky0.out
                have m1y := (HSq2.out.low.cell (p := ⟨gy, oy + 1, none⟩) k3y).trans Ky1.out
                gi_wp2_with fail
                gi_quiet (fail)
                rename_i nq
                have HSq3 := Lib.hid (HSq2.out.drewN nq)
                have HJq3 := Lib.hid (HT.out _ _ _ HJq2.out (.inl ⟨nq, rfl⟩))
                clear HJq2
                generalize w2.drewN nq = w3 at *
                clear a0 b0 m0x m1x m0y m1y
                have a0 := HSq3.out.a.cell
                have b0 := HSq3.out.b.cell
                have af := HSq3.out.a.frozen
                have bf := HSq3.out.b.frozen
                have m0x := (HSq3.out.low.cell (p := ⟨gx, ox, none⟩) k3x).trans Kx0.out
                have m1x := (HSq3.out.low.cell (p := ⟨gx, ox + 1, none⟩) k3x).trans Kx1.out
                have m0y := (HSq3.out.low.cell (p := ⟨gy, oy, none⟩) k3y).trans Ky0.out
                have m1y := (HSq3.out.low.cell (p := ⟨gy, oy + 1, none⟩) k3y).trans Ky1.out
                clear af bf
                have af := HSq3.out.a.frozen
                have bf := HSq3.out.b.frozen
                have HSx := Lib.hid ((HSq3.out).setA HNE.out hma HRx.out)
                have HJx := Lib.hid (HT.out _ _ _ (HJq3.out) (.inr (.inl ⟨.slice (some ⟨gx, ox + 2, none⟩) xs.length (cx - 1), rfl⟩)))
                have b1 := HSx.out.b.cell
                have b1f := HSx.out.b.frozen
                have HSy := Lib.hid ((HSx.out).setB HNE.out hmb HRy.out)
                have HJy := Lib.hid (HT.out _ _ _ (HJx.out) (.inr (.inr ⟨.slice (some ⟨gy, oy, none⟩) 0 0, rfl⟩)))
                obtain ⟨fn, tmps, assign, body, hy, hR⟩ := HY.out pre ((x.1, x.2 + y.2)) _ (HJy.out) (by rw [HV.out]; simp)
                have HR := Lib.hid hR
                clear hR
                dsimp only [cEnc] at hy
                gi_wp2
                refine HR.out.mono ?_
                rintro e W3 ⟨rfl, hJ3, hk3, hk4⟩
                have HS3 := Lib.hid ((HSy.out).kept hk3 hBa hBb HXA.out HXB.out hmx (hk4 (HSy.out).low))
                have HJ3 := Lib.hid hJ3
                have HM3 := Lib.hid (cellLen_row HS3.out)
                clear hJ3 hk3 hk4 HR hy
                gi_wp2
                go_roundw
                case rel => exact ⟨_, _, _, _, _, HJ3, HS3, HV, by have := HLN.out; unfold Hid; simp only [List.length_cons, List.length_nil] at this ⊢; omega, fun z hz => HA.out z (by first | exact hz | exact List.mem_cons_of_mem _ hz | simp at hz), fun z hz => HB.out z (by first | exact hz | exact List.mem_cons_of_mem _ hz | simp at hz)⟩
                case measure => have h1 := HME.out; have h2 := HM3.out; simp at h1 h2 ⊢; omega
              · have HV : Hid (bothL la lb = (pre ++ [(x.1, x.2 + y.2)]) ++ bothL xs ys) := by unfold Hid; rw [HE.out]; rw [bothL_eq _ _ HXY.out HYX.out]; simp
                have hlx : xs.length ≤ 1000000 := by have := HLN.out; simp only [List.length_cons, List.length_nil] at this; omega
                have hly : ys.length ≤ 1000000 := by have := HLN.out; simp only [List.length_cons, List.length_nil] at this; omega
                have qs : decide ((0 : Int) < (((xs.length : Int) + 1) + ((ys.length : Int) + 1))) = true := by rw [decide_eq_true_iff]; omega
                have qs2 : (0 : Int) < (((xs.length : Int) + 1) + ((ys.length : Int) + 1)) := by omega
                have hx2 := HXx.out
                unfold bnd at hx2
                have hy2 := HXy.out
                unfold bnd at hy2
                gi_wp2_with fail
                gi_quiet (fail)
                rename_i nq
                have HSq1 := Lib.hid (HS.out.drewN nq)
                have HJq1 := Lib.hid (HT.out _ _ _ HJ.out (.inl ⟨nq, rfl⟩))
                clear HJ
                generalize wr.drewN nq = w1 at *
                clear a0 b0 m0x m1x m0y m1y
                have a0 := HSq1.out.a.cell
                have b0 := HSq1.out.b.cell
                have af := HSq1.out.a.frozen
                have bf := HSq1.out.b.frozen
                have m0x := (HSq1.out.low.cell (p := ⟨gx, ox, none⟩) k3x).trans Kx0.out
                have m1x := (HSq1.out.low.cell (p := ⟨gx, ox + 1, none⟩) k3x).trans Kx1.out
                have m0y := (HSq1.out.low.cell (p := ⟨gy, oy, none⟩) k3y).trans Ky0.out
                have m1y := (HSq1.out.low.cell (p := ⟨gy, oy + 1, none⟩) k3y).trans Ky1.out
                gi_wp2_with fail
                gi_quiet (fail)
                rename_i nq
                have HSq2 := Lib.hid (HSq1.out.drewN nq)
                have HJq2 := Lib.hid (HT.out _ _ _ HJq1.out (.inl ⟨nq, rfl⟩))
                clear HJq1
                generalize w1.drewN nq = w2 at *
                clear a0 b0 m0x m1x m0y m1y
                have a0 := HSq2.out.a.cell
                have b0 := HSq2.out.b.cell
                have af := HSq2.out.a.frozen
                have bf := HSq2.out.b.frozen
                have m0x := (HSq2.out.low.cell (p := ⟨gx, ox, none⟩) k3x).trans Kx0.out
                have m1x := (HSq2.out.low.cell (p := ⟨gx, ox + 1, none⟩) k3x).trans Kx1.out
                have m0y := (HSq2.out.low.cell (p := ⟨gy, oy, none⟩) k3y).trans Ky0.out
                have m1y := (HSq2.out.low.cell (p := ⟨gy, oy + 1, none⟩) k3y).trans Ky1.out
                gi_wp2_with fail
                gi_quiet (fail)
                rename_i nq
                have HSq3 := Lib.hid (HSq2.out.drewN nq)
                have HJq3 := Lib.hid (HT.out _ _ _ HJq2.out (.inl ⟨nq, rfl⟩))
                clear HJq2
                generalize w2.drewN nq = w3 at *
                clear a0 b0 m0x m1x m0y m1y
                have a0 := HSq3.out.a.cell
                have b0 := HSq3.out.b.cell
                have af := HSq3.out.a.frozen
                have bf := HSq3.out.b.frozen
                have m0x := (HSq3.out.low.cell (p := ⟨gx, ox, none⟩) k3x).trans Kx0.out
                have m1x := (HSq3.out.low.cell (p := ⟨gx, ox + 1, none⟩) k3x).trans Kx1.out
                have m0y := (HSq3.out.low.cell (p := ⟨gy, oy, none⟩) k3y).trans Ky0.out
                have m1y := (HSq3.out.low.cell (p := ⟨gy, oy + 1, none⟩) k3y).trans Ky1.out
                clear af bf
                have af := HSq3.out.a.frozen
                have bf := HSq3.out.b.frozen
                have HSx := Lib.hid ((HSq3.out).setA HNE.out hma HRx.out)
                have HJx := Lib.hid (HT.out _ _ _ (HJq3.out) (.inr (.inl ⟨.slice (some ⟨gx, ox + 2, none⟩) xs.length (cx - 1), rfl⟩)))
                have b1 := HSx.out.b.cell
                have b1f := HSx.out.b.frozen
                have HSy := Lib.hid ((HSx.out).setB HNE.out hmb HRy.out)
                have HJy := Lib.hid (HT.out _ _ _ (HJx.out) (.inr (.inr ⟨.slice (some ⟨gy, oy + 2, none⟩) ys.length (cy - 1), rfl⟩)))
                obtain ⟨fn, tmps, assign, body, hy, hR⟩ := HY.out pre ((x.1, x.2 + y.2)) _ (HJy.out) (by rw [HV.out]; simp)
                have HR := Lib.hid hR
                clear hR
                dsimp only [cEnc] at hy
                gi_wp2
                refine HR.out.mono ?_
                rintro e W3 ⟨rfl, hJ3, hk3, hk4⟩
                have HS3 := Lib.hid ((HSy.out).kept hk3 hBa hBb HXA.out HXB.out hmx (hk4 (HSy.out).low))
                have HJ3 := Lib.hid hJ3
                have HM3 := Lib.hid (cellLen_row HS3.out)
                clear hJ3 hk3 hk4 HR hy
                gi_wp2
                go_roundw
                case rel => exact ⟨_, _, _, _, _, HJ3, HS3, HV, by have := HLN.out; unfold Hid; simp only [List.length_cons, List.length_nil] at this ⊢; omega, fun z hz => HA.out z (by first | exact hz | exact List.mem_cons_of_mem _ hz | simp at hz), fun z hz => HB.out z (by first | exact hz | exact List.mem_cons_of_mem _ hz | simp at hz)⟩
                case measure => have h1 := HME.out; have h2 := HM3.out; simp at h1 h2 ⊢; omega
end Go.Proofs.Yteidlngffikboaa
