/- slices.Collect over whole's iterator: a message that comes first, and one that has come already. -/
import Derived.Test.YtjgjhjecgdndjaaLinkWhole
import Derived.Shelf.SlIter.Collect
namespace Go.Proofs.Ytjgjhjecgdndjaa
open Go.RowKit Go.Shelf Go.Sort Go.Maps
set_option linter.unusedVariables false
set_option linter.unusedSimpArgs false
def seqRen : Go.Shelf.Ren := ⟨fun | 11 => 56 | n => n, fun | 24 => 33 | 26 => 9 | 28 => 72 | 0 => 0 | 33 => 65 | 4 => 4 | n => n, fun | n => n⟩
theorem seqL : Go.Proofs.SlLaysZ.n11 Try.prog seqRen := {
  mixed := by kernel_rfl
  f11 := ⟨Try.f56.name, by decide, Try.func56.trans (congrArg some (by kernel_rfl))⟩
  t0 := Try.underlying0
  a0 := Try.isAgg0
  z0 := Try.sizeOf0
  v0 := Try.zeroValue0
  t24 := Try.underlying33
  a24 := Try.isAgg33
  z24 := Try.sizeOf33
  v24 := Try.zeroValue33
  t26 := Try.underlying9
  a26 := Try.isAgg9
  z26 := Try.sizeOf9
  v26 := Try.zeroValue9
  t28 := Try.underlying72
  a28 := Try.isAgg72
  z28 := Try.sizeOf72
  v28 := Try.zeroValue72
  i26 := by kernel_rfl }
def bl (s : ByteArray) : List UInt8 := s.data.toList
theorem enc_bl (s : ByteArray) : encStr (bl s) = .string s := by
  unfold encStr bl
  congr 1
/-- between two rounds: as ApAt, but for the block bk -/
def AqJ (w0 : World) (bk : Nat) (fn : FuncId) (sv : Value) (Bs l D : Nat) (ss : List ByteArray) (W : World) : Prop :=
  ∃ w1 : World, w1.heap.size = w0.heap.size ∧ w0.grownBy w1 (some bk) ∧ AnyZ.ApAt seqRen w1 fn sv Bs l D (ss.map bl) W
theorem aqJ_step {w0 : World} {bk : Nat} {fn : FuncId} {sv : Value} {Bs l D : Nat} {ss : List ByteArray} {W W' : World} (hb : bk < w0.heap.size) (h1 : w0.heap.size ≤ Bs) (h2 : w0.heap.size ≤ l) (h3 : w0.heap.size ≤ D)
    (h : AqJ w0 bk fn sv Bs l D ss W) (hg : W.grownBy W' (some bk)) : AqJ w0 bk fn sv Bs l D ss W' := by
  obtain ⟨w1, hs, hg1, hA⟩ := h
  have hbW : bk < W'.heap.size := by have := hA.below.size; have := hg.size; omega
  obtain ⟨o, ho⟩ : ∃ o, W'.heap[bk]? = some o := ⟨_, Array.getElem?_eq_getElem hbW⟩
  have hput : w1.grownBy (w1.putObj bk o) (some bk) := grownBy_putObj_a w1 bk o
  obtain ⟨v, hv, hr, hn⟩ := hA.box
  have hlt : ∀ {j : Nat} {o : Obj}, W.heap[j]? = some o → j ≠ bk → W'.heap[j]? = some o := fun {j o} hj hne => by
    rw [hg.block j (Array.getElem?_eq_some_iff.1 hj).1 (fun e => hne (by injection e))]; exact hj
  refine ⟨w1.putObj bk o, by simpa using hs, ?_, ⟨⟨v, hlt hv (by omega), ?_, hn⟩, hlt hA.L (by omega), hlt hA.K (by omega), ?_⟩⟩
  · exact ⟨hg1.os, hg1.tape, hg1.output, by rw [World.putObj_size]; exact hg1.size, fun k hk hne => (World.putObj_heap_other (fun e => hne (by rw [e]))).trans (hg1.block k hk hne)⟩
  · rw [World.putObj_size]
    refine hr.kept hg ?_
    rcases hr.2 with ⟨rfl, _⟩ | ⟨g, cap, cur, rfl, hgb, _, _⟩
    · exact .inl rfl
    · refine .inr fun e' => ?_
      obtain rfl : g = bk := by simpa [Value.ownBlock] using e'
      omega
  · rw [World.putObj_size]
    refine ⟨hg.os.trans hA.below.os, hg.tape.trans hA.below.tape, hg.output.trans hA.below.output, ?_, fun k hk => ?_⟩
    · rw [World.putObj_size]; have := hA.below.size; have := hg.size; omega
    · by_cases e : k = bk
      · subst e
        rw [ho, World.putObj_heap_same (by omega)]
      · rw [World.putObj_heap_other e, ← hA.below.block k hk]
        have := hA.below.size
        exact hg.block k (by omega) (fun e' => e (by injection e'))
def SeqPost (w : World) (bk : Nat) (S : List ByteArray → World → Prop) (e : Ending) (w' : World) : Prop := ∃ (v : Value) (ss : List ByteArray) (W2 : World), e = .returned v ∧ S ss W2 ∧ w'.ownsRow w.heap.size 9 1 v ss.length (ss.map .string) ∧ w.grownBy w' (some bk) ∧ w'.heap[bk]? = W2.heap[bk]? ∧ (ss = [] → v = .slice none 0 0)
set_option maxRecDepth 100000 in
set_option maxHeartbeats 2000000 in
theorem aseq_in (n : Nat) (hn : 2 ≤ n) (g : Nat) (lb : Array Value) (eg : ∀ args w, (callFunc g args).run Try.prog w = .ok (.enter g args) w) (bk : Nat)
    (S : List ByteArray → World → Prop) (w : World) (hbk : bk < w.heap.size)
    (hseq : ∀ (l : Nat) (J : List ByteArray → World → Prop) (W : World), Below w.heap.size w W → (∀ ss W W', J ss W → W.grownBy W' (some bk) → J ss W') →
      (∀ pre x W1, J pre W1 → pre.length < 100 → YieldAt Fence.wide (n - 1 - 1) Try.prog l #[.string x] W1 fun e W' => e = .returned (.bool true) ∧ J (pre ++ [x]) W' ∧ ∀ j, j < w.heap.size → W'.heap[j]? = W1.heap[j]?) →
      J [] W → CallsIn Fence.wide (n - 1) Try.prog g (#[.func (.yield l) #[] #[]] ++ lb) W fun e W' => (∃ v, e = .returned v) ∧ ∃ ss, S ss W' ∧ J ss W') :
    CallsIn Fence.wide n Try.prog 56 #[.slice none 0 0, .func (.func g) #[] lb] w (SeqPost w bk S) := by
  have h1 : 1 ≤ n := by omega
  have hro : Fence.wide.round = none := rfl
  have L := seqL
  have mixed := L.mixed; have t0 := L.t0; have a0 := L.a0; have z0 := L.z0; have v0 := L.v0; have t24 := L.t24; have a24 := L.a24; have z24 := L.z24; have v24 := L.v24; have t26 := L.t26; have a26 := L.a26; have z26 := L.z26; have v26 := L.v26; have t28 := L.t28; have a28 := L.a28; have z28 := L.z28; have v28 := L.v28
  have hne : seqRen.t 24 ≠ seqRen.t 26 := fun e => by have h := L.t24; rw [e, L.t26] at h; cases h
  have u0 := run_underlying L.t0; have u24 := run_underlying L.t24; have u26 := run_underlying L.t26; have u28 := run_underlying L.t28
  obtain ⟨_, _, FG⟩ := L.f11
  refine callsIn_of_wp_marks FG rfl trivial ?_ hro
  simp only [SlBodyZ.n11_ntmps seqRen, List.size_toArray, List.length_cons, List.length_nil, Nat.reduceAdd, Nat.reduceSub, Array.replicate_succ, Array.replicate_zero, List.push_toArray, List.append_toArray, List.nil_append, List.cons_append]
  gi_wp2
  refine wpIn_rangeFunc ?_
  intro fn hfn
  rw [hro]
  obtain ⟨W0, hW0⟩ : ∃ W0, w.alloc (.cells #[.slice none 0 0] (seqRen.t 24)) = W0 := ⟨_, rfl⟩
  have hs0 : W0.heap.size = w.heap.size + 1 := by rw [← hW0]; simp
  have hv0 : W0.heap[w.heap.size]? = some (.cells #[.slice none 0 0] (seqRen.t 24) (0, 0)) := by rw [← hW0]; exact World.alloc_heap_new w _
  have hb0 : Below w.heap.size w W0 := by rw [← hW0]; exact (Below.refl _ w).alloc (Nat.le_refl _) _
  rw [hW0]
  obtain ⟨W1, hW1⟩ : ∃ W1, (W0.alloc (.deferred (some []))).alloc (.loop (AnyZ.apRec seqRen fn (.func (.func g) #[] lb) w.heap.size W0.heap.size .ready none)) = W1 := ⟨_, rfl⟩
  have hold : ∀ k, k < W0.heap.size → W1.heap[k]? = W0.heap[k]? := fun k hk => by
    rw [← hW1]; exact (Below.heap_alloc _ _ k (by simp; omega)).trans (Below.heap_alloc _ _ k hk)
  have hb1 : Below w.heap.size w W1 := by rw [← hW1]; exact (hb0.alloc hb0.size _).alloc (by have := hb0.size; simp; omega) _
  have hs1 : W1.heap.size = W0.heap.size + 2 := by rw [← hW1]; simp
  have hM : AnyZ.ApAt seqRen w fn (.func (.func g) #[] lb) w.heap.size (W0.heap.size + 1) W0.heap.size [] W1 :=
    ⟨⟨_, (hold w.heap.size (by omega)).trans hv0, ⟨rfl, .inl ⟨rfl, rfl⟩⟩, by simp⟩,
     by rw [← hW1]; have := World.alloc_heap_new (W0.alloc (.deferred (some []))) (.loop (AnyZ.apRec seqRen fn (.func (.func g) #[] lb) w.heap.size W0.heap.size .ready none)); rwa [World.size_alloc] at this,
     by rw [← hW1]; exact (Below.heap_alloc _ _ _ (by simp)).trans (World.alloc_heap_new W0 _), hb1⟩
  have hM2 : AqJ w bk fn (.func (.func g) #[] lb) w.heap.size (W0.heap.size + 1) W0.heap.size [] W1 := ⟨w, rfl, ⟨rfl, rfl, rfl, Nat.le_refl _, fun _ _ _ => rfl⟩, hM⟩
  refine ⟨W0.heap.size + 1, [{ target := .collected W0.heap.size, args := #[] }], W1, { target := .fn (.func g) lb, args := #[.func (.yield (W0.heap.size + 1)) #[] #[]] }, W1, g,
    #[.func (.yield (W0.heap.size + 1)) #[] #[]] ++ lb, W1, ?_, ?_, ?_, ?_, fun _ => h1, ?_⟩
  · rw [← hW1]; exact run_enterLoop_outer _ _ _ _ _
  · simp [resolve, go_sem]
  · intro f' hf'; trivial
  · simp [invoke, go_sem, eg]
  · refine (hseq (W0.heap.size + 1) (AqJ w bk fn (.func (.func g) #[] lb) w.heap.size (W0.heap.size + 1) W0.heap.size) W1 hb1 (fun ss W W' h hg => aqJ_step hbk (Nat.le_refl _) (by omega) (by omega) h hg)
      (fun pre x W hJ hl => ?_) hM2).mono ?_
    · obtain ⟨w1, hs, hg1, hA⟩ := hJ
      have hy := AnyZ.apYield L Fence.wide (n - 1 - 1) w1 fn hfn _ w.heap.size (W0.heap.size + 1) W0.heap.size (by omega) (by omega) (by omega) (by omega) (by omega) 100 (by decide) (by decide) (pre.map bl) (bl x) W hA (by simpa using hl)
      rw [enc_bl] at hy
      obtain ⟨f1, t1, a1, b1, hy1, hR⟩ := hy
      refine ⟨f1, t1, a1, b1, hy1, hR.mono ?_⟩
      rintro e W' ⟨rfl, hA2, _⟩
      exact ⟨rfl, ⟨w1, hs, hg1, by rw [List.map_append]; exact hA2⟩, fun j hj => by rw [hA2.below.block j (by omega), hA.below.block j (by omega)]⟩
    rintro e W2 ⟨⟨v0, rfl⟩, ss, hS, w1, hs, hg1, h2⟩
    obtain ⟨v, hv, hrow, hnil⟩ := h2.box
    have hend := run_endLoop (P := Try.prog) h2.L (by simp [AnyZ.apRec])
    obtain ⟨W3, hW3⟩ : ∃ W3, W2.putObj (W0.heap.size + 1) (.loop { AnyZ.apRec seqRen fn (.func (.func g) #[] lb) w.heap.size W0.heap.size .ready none with state := .exhausted }) = W3 := ⟨_, rfl⟩
    rw [hW3] at hend
    have hg3 : W2.grownBy W3 (some (W0.heap.size + 1)) := by rw [← hW3]; exact grownBy_putObj_a _ _ _
    have hv3 : W3.heap[w.heap.size]? = some (.cells #[v] (seqRen.t 24) (0, 0)) := by rw [← hW3]; exact (World.putObj_heap_other (by omega)).trans hv
    have hK3 : W3.heap[W0.heap.size]? = some (.deferred (some [])) := by rw [← hW3]; exact (World.putObj_heap_other (by omega)).trans h2.K
    have hrow3 := hrow.kept hg3 (ownsRow_ne_a hrow h2.L (fun cur e => by first | cases e | exact hne (Obj.cells.inj e).2.1))
    have hb3 : Below w1.heap.size w1 W3 := h2.below.grown hg3 h2.below.size (fun k e => by cases e; omega)
    have hbk3 : W3.heap[bk]? = W2.heap[bk]? := by rw [← hW3]; exact World.putObj_heap_other (by omega)
    obtain ⟨hc3, hf3⟩ := cell_of_box_a hv3
    clear hW3
    refine ⟨none, W3, hend, ?_⟩
    gi_wp2
    rw [← hs0]
    refine ⟨by simp, .inl ⟨_, _, rfl, run_takeDeferred hK3, ?_⟩⟩
    refine ⟨_, results_tmp rfl _ _ _, v, ss, W2, rfl, hS, ?_, ?_, ?_, fun h => hnil.2 (by rw [h]; rfl)⟩
    · have := hrow3.kept (grownBy_putObj_a W3 W0.heap.size (.deferred none)) (ownsRow_ne_a hrow3 hK3 (fun cur e => by first | cases e | exact hne (Obj.cells.inj e).2.1))
      rw [List.length_map, List.map_map, show encStr ∘ bl = Value.string from funext enc_bl, hs] at this
      exact this
    · have hb4 : Below w1.heap.size w1 (W3.putObj W0.heap.size (.deferred none)) := hb3.grown (grownBy_putObj_a _ _ _) hb3.size (fun k e => by cases e; omega)
      refine ⟨hb4.os.trans hg1.os, hb4.tape.trans hg1.tape, hb4.output.trans hg1.output, Nat.le_trans hg1.size hb4.size, fun k hk hne => ?_⟩
      rw [hb4.block k (by omega)]
      exact hg1.block k hk hne
    · exact (World.putObj_heap_other (by omega)).trans hbk3
set_option maxHeartbeats 1000000 in
theorem collect_in (n : Nat) (hn : 3 ≤ n) (g : Nat) (lb : Array Value) (eg : ∀ args w, (callFunc g args).run Try.prog w = .ok (.enter g args) w) (bk : Nat)
    (S : List ByteArray → World → Prop) (w : World) (hbk : bk < w.heap.size)
    (hseq : ∀ (l : Nat) (J : List ByteArray → World → Prop) (W : World), Below w.heap.size w W → (∀ ss W W', J ss W → W.grownBy W' (some bk) → J ss W') →
      (∀ pre x W1, J pre W1 → pre.length < 100 → YieldAt Fence.wide (n - 1 - 1 - 1) Try.prog l #[.string x] W1 fun e W' => e = .returned (.bool true) ∧ J (pre ++ [x]) W' ∧ ∀ j, j < w.heap.size → W'.heap[j]? = W1.heap[j]?) →
      J [] W → CallsIn Fence.wide (n - 1 - 1) Try.prog g (#[.func (.yield l) #[] #[]] ++ lb) W fun e W' => (∃ v, e = .returned v) ∧ ∃ ss, S ss W' ∧ J ss W') :
    CallsIn Fence.wide n Try.prog 34 #[.func (.func g) #[] lb] w (SeqPost w bk S) := by
  refine callsIn_of_wp Try.func34 rfl trivial ?_ rfl
  simp only [Try.ntmps34, List.size_toArray, List.length_cons, List.length_nil, Nat.reduceAdd, Nat.reduceSub, Array.replicate_succ, Array.replicate_zero, List.push_toArray, List.append_toArray, List.nil_append, List.cons_append]
  gi_wp2_with fail
  refine ⟨trivial, fun _ => by omega, (aseq_in (n - 1) (by omega) g lb eg bk S w hbk hseq).mono ?_⟩
  rintro e w' h
  obtain ⟨v, ss, W2, rfl, h⟩ := h
  have H := Lib.hid h
  clear h hseq
  gi_wp2
  go_ret
  exact ⟨v, ss, W2, rfl, H.out⟩
def CollPost (bk : Nat) (B8 : World → Prop) (l : List ByteArray) (w : World) (e : Ending) (w' : World) : Prop := ∃ v, e = .returned v ∧ w'.ownsRow w.heap.size 9 1 v l.length (l.map .string) ∧ B8 w' ∧ w.grownBy w' (some bk) ∧ (l = [] → v = .slice none 0 0)
theorem collect_first (bk bf bw : Nat) (ses : UInt64) (x1 x2 x3 x6 x7 : Value) (s : ByteArray) (w : World) (hf : w.heap[bf]? = some (.cells #[.int .u64 ses.toNat, .int .i64 0, .int .i64 0, .string s] 24 (0, 0))) (hw : w.cell? ⟨bw, 0, none⟩ = some (.pointer (some ⟨bk, 0, none⟩)))
    (hx : Box8 bk (.int .u64 ses.toNat) x1 x2 x3 (.int .i64 0) (.slice none 0 0) x6 x7 w) (hB : bk < w.heap.size ∧ bf < w.heap.size ∧ bw < w.heap.size) (hne1 : bf ≠ bk) (hne2 : bw ≠ bk) :
    Calls Try.prog 34 #[.func (.func 57) #[] #[.pointer (some ⟨bf, 0, none⟩), .pointer (some ⟨bw, 0, none⟩)]] w (CollPost bk (fun w' => Box8 bk (.int .u64 ses.toNat) x1 x2 x3 (.int .i64 1) (.slice none 0 0) x6 x7 w') [s] w) := by
  refine callsIn_wide.1 ((collect_in 10 (by decide) 57 _ (enters_of Try.func57 (by kernel_rfl) rfl) bk (fun ss W2 => ss = [s] ∧ Box8 bk (.int .u64 ses.toNat) x1 x2 x3 (.int .i64 1) (.slice none 0 0) x6 x7 W2) w hB.1 ?_).mono ?_)
  · intro l J W hb hJ hY h0
    refine (whole1_yes (10 - 1 - 1) (by decide) l bk bf bw w.heap.size ses x1 x2 x3 x6 x7 s W J hJ hY ((hb.block bf hB.2.1).trans hf) ((hb.cell (p := ⟨bw, 0, none⟩) hB.2.2).trans hw) (hx.below hb hB.1) h0 ⟨hB.1, hB.2.1, hB.2.2, hb.size⟩).mono ?_
    rintro e W' ⟨h1, h2, h3, h4⟩
    exact ⟨h1, [s], ⟨rfl, h3⟩, h2⟩
  · rintro e w' ⟨v, ss, W2, rfl, ⟨rfl, h3⟩, h4, h5, h6, h7⟩
    exact ⟨v, rfl, h4, box_of_block h3 h6, h5, h7⟩
theorem collect_again (bk bf bw : Nat) (ses : UInt64) (x1 x2 x3 x5 x6 x7 : Value) (s : ByteArray) (w : World) (hf : w.heap[bf]? = some (.cells #[.int .u64 ses.toNat, .int .i64 0, .int .i64 0, .string s] 24 (0, 0))) (hw : w.cell? ⟨bw, 0, none⟩ = some (.pointer (some ⟨bk, 0, none⟩)))
    (hx : Box8 bk (.int .u64 ses.toNat) x1 x2 x3 (.int .i64 1) x5 x6 x7 w) (hB : bk < w.heap.size ∧ bf < w.heap.size ∧ bw < w.heap.size) (hne1 : bf ≠ bk) (hne2 : bw ≠ bk) :
    Calls Try.prog 34 #[.func (.func 57) #[] #[.pointer (some ⟨bf, 0, none⟩), .pointer (some ⟨bw, 0, none⟩)]] w (CollPost bk (fun w' => Box8 bk (.int .u64 ses.toNat) x1 x2 x3 (.int .i64 1) x5 x6 x7 w') [] w) := by
  refine callsIn_wide.1 ((collect_in 10 (by decide) 57 _ (enters_of Try.func57 (by kernel_rfl) rfl) bk (fun ss W2 => ss = [] ∧ Box8 bk (.int .u64 ses.toNat) x1 x2 x3 (.int .i64 1) x5 x6 x7 W2) w hB.1 ?_).mono ?_)
  · intro l J W hb hJ hY h0
    refine (whole1_no (10 - 1 - 1) (by decide) l bk bf bw w.heap.size ses x1 x2 x3 x5 x6 x7 s W J hJ ((hb.block bf hB.2.1).trans hf) ((hb.cell (p := ⟨bw, 0, none⟩) hB.2.2).trans hw) (hx.below hb hB.1) h0 ⟨hB.1, hB.2.1, hB.2.2, hb.size⟩).mono ?_
    rintro e W' ⟨h1, h2, h3, h4⟩
    exact ⟨h1, [], ⟨rfl, h3⟩, h2⟩
  · rintro e w' ⟨v, ss, W2, rfl, ⟨rfl, h3⟩, h4, h5, h6, h7⟩
    exact ⟨v, rfl, h4, box_of_block h3 h6, h5, h7⟩
end Go.Proofs.Ytjgjhjecgdndjaa
