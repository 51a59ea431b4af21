/- retain.whys: its walk. -/
import Derived.Test.YtlikmdmdmljiaaaDoorRetRules
import Derived.Laws.EntriesVeiled
import Derived.Shelf.RegionOpen
namespace Go.Proofs.YtlikmdmdmljiaaaDoor
open Go.RowKit Go.Shelf
attribute [local go_sem] Oper.semAt_some
set_option linter.unusedVariables false
set_option linter.unusedSimpArgs false
/-- a world of the walk: all that was is as it was, but block g -/
structure WhI (w0 w2 : World) (g : Nat) (ws : List Nat) (W : World) : Prop where
  row : IRow W g ws
  kp : KpX w2.heap.size g w2 W
  low : Below w0.heap.size w0 W
  size : w2.heap.size ≤ W.heap.size
theorem WhI.below {w0 w2 W W' : World} {g : Nat} {ws : List Nat} (h : WhI w0 w2 g ws W) (b : Below W.heap.size W W') : WhI w0 w2 g ws W' :=
  ⟨h.row.below b, h.kp.trans (kpX_below b h.size), h.low.trans (b.mono h.low.size), Nat.le_trans h.size b.size⟩
theorem WhI.set {w0 w2 W : World} {g : Nat} {ws : List Nat} (h : WhI w0 w2 g ws W) (hg : w0.heap.size ≤ g) (j v : Nat) : WhI w0 w2 g (ws.set j v) (W.setCell ⟨g, j, none⟩ (.int .i64 (v : Nat))) :=
  ⟨h.row.set j v, h.kp.trans ⟨fun k hk hne => Below.heap_setCell _ _ _ _ (fun e => hne e), fun hs => by rw [World.size_setCell]; exact hs⟩, h.low.setCell (p := ⟨g, j, none⟩) hg _, by rw [World.size_setCell]; exact h.size⟩
theorem WhI.put {w0 w2 W : World} {g : Nat} {ws : List Nat} (h : WhI w0 w2 g ws W) {l : Nat} {o : Obj} (o' : Obj) (hw : w0.heap.size ≤ w2.heap.size) (hgl : g < w2.heap.size) (hl : w2.heap.size ≤ l) (ho : W.heap[l]? = some o) (hc : o.isCells = false) : WhI w0 w2 g ws (W.putObj l o') := by
  refine ⟨h.row.same (by simp [World.putObj]) (World.putObj_heap_other (by omega)), h.kp.trans ⟨fun k hk _ => World.putObj_heap_other (by omega), fun hs => by simpa [World.putObj] using hs⟩, ?_, by simpa [World.putObj] using h.size⟩
  exact h.low.grown (grownBy_putObj' W l o') h.low.size (fun j e => by cases e; omega)
def lastTo (N j : Nat) : List Nat := (List.range N).map fun i => if i < j then 1 else 0
theorem lastTo_len (N j : Nat) : (lastTo N j).length = N := by simp [lastTo]
theorem lastTo_0 (N : Nat) : lastTo N 0 = List.replicate N 0 := by
  unfold lastTo
  rw [List.eq_replicate_iff]
  simp
theorem lastTo_step (N j : Nat) : lastTo N (j + 1) = (lastTo N j).set j 1 := by
  apply List.ext_getElem (by simp [lastTo])
  intro i h1 h2
  rw [List.getElem_set]
  simp only [lastTo, List.getElem_map, List.getElem_range]
  by_cases e : j = i
  · subst e; simp
  · rw [if_neg e]
    by_cases h : i < j
    · rw [if_pos h, if_pos (by omega)]
    · rw [if_neg h, if_neg (by omega)]
theorem lastTo_end (N : Nat) (a : Int) (m : Nat) (hm : (m : Int) = min (N : Int) (max 0 a)) : lastTo N m = lastW a N := by
  unfold lastTo lastW
  apply List.map_congr_left
  intro i hi
  have hiN : i < N := by simpa using hi
  by_cases h : i < m
  · rw [if_pos h, if_pos (by omega)]
  · rw [if_neg h, if_neg (by omega)]
theorem whysR_snoc (K : List Mk) (r : Rule) : ∀ (rs : List Rule) (W : List Nat), whysR K W (rs ++ [r]) = orW r.1 (whysR K W rs) (firstsL r.2.2 r.2.1 (-1) K)
  | [], W => rfl
  | q :: rs, W => by
    show whysR K (orW q.1 W (firstsL q.2.2 q.2.1 (-1) K)) (rs ++ [r]) = _
    rw [whysR_snoc K r rs]
    rfl
/-- what is marked when so many rules are done -/
def whTo (p : Pol) (K : List Mk) (i : Nat) : List Nat := whysR K (lastW p.a K.length) ((rulesL partI p).take i)
theorem whTo_0 (p : Pol) (K : List Mk) : whTo p K 0 = lastW p.a K.length := rfl
theorem whTo_5 (p : Pol) (K : List Mk) : whTo p K 5 = whyW partI p K := rfl
theorem whTo_len (p : Pol) (K : List Mk) (i : Nat) : (whTo p K i).length = K.length := whysR_len K _ _ (lastW_len _ _)
theorem rules_get (p : Pol) (i : Nat) (h : i < 5) : (rulesL partI p)[i]'(by simpa [rulesL] using h) = (rW i, rQ p i, partI i) := by
  rcases (show i = 0 ∨ i = 1 ∨ i = 2 ∨ i = 3 ∨ i = 4 by omega) with rfl | rfl | rfl | rfl | rfl <;> rfl
theorem whTo_step (p : Pol) (K : List Mk) (i : Nat) (h : i < 5) : whTo p K (i + 1) = (posF (partI i) (rQ p i) (-1) 0 K).foldl (setO (rW i)) (whTo p K i) := by
  rw [posF_all (partI i) (rW i) K (rQ p i) _ (whTo_len p K i)]
  unfold whTo
  rw [List.take_succ_eq_append_getElem (by simpa [rulesL] using h), whysR_snoc, rules_get p i h]
theorem rW_lt (i : Nat) : rW i < 64 := by
  unfold rW
  split <;> omega
theorem whTo_lt (p : Pol) (K : List Mk) (i : Nat) : ∀ u ∈ whTo p K i, u < 64 := by
  refine whysR_lt K _ _ (lastW_lt _ _) (fun q hq => ?_)
  have := List.mem_of_mem_take hq
  simp only [rulesL, List.mem_cons, List.not_mem_nil, or_false] at this
  rcases this with rfl | rfl | rfl | rfl | rfl <;> simp
theorem or64 (x : Nat) (hx : x < 64) (y : Nat) (hy : y < 64) : bits .or .i64 (x : Int) (y : Int) = ((x ||| y : Nat) : Int) := by
  have : ∀ x : Nat, x < 64 → ∀ y : Nat, y < 64 → bits .or .i64 (x : Int) (y : Int) = ((x ||| y : Nat) : Int) := by decide +kernel
  exact this x hx y hy
theorem keepsB {W W' : World} (hb : Below W.heap.size W W') : KeepsOthers W W' := KeepsOthers.of_grownBy (row := none) ⟨hb.os, hb.tape, hb.output, hb.size, fun i hi _ => hb.block i hi⟩ (fun j o e => by cases e)
theorem KpX.le {B B' X : Nat} {U V : World} (h : KpX B' X U V) (hB : B ≤ B') (hU : B' ≤ U.heap.size) : KpX B X U V := ⟨fun j hj hne => h.1 j (by omega) hne, fun _ => Nat.le_trans hB (h.2 hU)⟩
/-- marks of deferred calls -/
def mks (ds : List Nat) : List Deferred := ds.map fun D => { target := .collected D, args := #[] }
structure MarkS (B : Nat) (ds : List Nat) (W : World) : Prop where
  nodup : ds.Nodup
  at_ : ∀ D ∈ ds, B ≤ D ∧ W.heap[D]? = some (.deferred (some []))
theorem leaves_marks {F : Fence} {n : Nat} {P : Program} {fn : Func} {tmps : Array Value} {R : Ending → World → Prop} {base : Nat} (Inv : World → Prop)
    (hput : ∀ W D, Inv W → base ≤ D → W.heap[D]? = some (.deferred (some [])) → Inv (W.putObj D (.deferred none)))
    (hend : ∀ W, Inv W → LeavesIn F n P fn tmps R [] .returning W) : ∀ (ds : List Nat) (W : World), MarkS base ds W → Inv W → LeavesInM F n P fn tmps R (mks ds) .returning W
  | [], W, _, hI => hend W hI
  | D :: ds, W, hm, hI => by
    obtain ⟨h1, h2⟩ := hm.at_ D (by simp)
    refine ⟨by simp, .inl ⟨D, _, rfl, run_takeDeferred h2, leaves_marks Inv hput hend ds _ ⟨(List.nodup_cons.1 hm.nodup).2, fun E hE => ?_⟩ (hput W D hI h1 h2)⟩⟩
    obtain ⟨g1, g2⟩ := hm.at_ E (List.mem_cons_of_mem _ hE)
    exact ⟨g1, (World.putObj_heap_other (fun e => (List.nodup_cons.1 hm.nodup).1 (by subst e; exact hE))).trans g2⟩
/-- what holds between two rules -/
structure WhL (w W1 : World) (g : Nat) (ws : List Nat) (ds : List Nat) (W : World) : Prop where
  i : WhI w W1 g ws W
  m : MarkS W1.heap.size ds W
theorem setO_get (b : Nat) (ws : List Nat) (x : Nat) : setO b ws x = ws.set x (ws.getD x 0 ||| b) := rfl
set_option maxRecDepth 100000 in
set_option maxHeartbeats 4000000 in
theorem whys_in (p : Pol) (K : List Mk) (v : Value) (w : World) (hv : MkN w v K) (hK : K.length ≤ 1000000) (ho : ∀ x ∈ K, okAt x = true) (hp : ∀ i, -9223372036854775808 ≤ rQ p i ∧ rQ p i ≤ 9223372036854775807) (ha : -9223372036854775808 ≤ p.a ∧ p.a ≤ 9223372036854775807) :
    CallsIn Fence.wide 10 Tryd.prog 20 #[polV p, v] w fun e W' => ∃ g, e = .returned (.slice (some ⟨g, 0, none⟩) K.length K.length) ∧ IRow W' g (whyW partI p K) ∧ Below w.heap.size w W' := by
  have hro : Fence.wide.round = none := rfl
  have HV := Lib.hid hv
  obtain ⟨⟨A, c, rfl, h2, h3, h4⟩, h5⟩ := hv
  have hc9 : c ≤ 9223372036854775807 := by unfold maxLen at h3; omega
  obtain ⟨N, hN⟩ : ∃ N, N = K.length := ⟨_, rfl⟩
  have HN := Lib.hid hN
  rw [← hN] at h2 hK HV
  rw [← hN]
  clear h3 h4 h5 hN
  have hmk := fun W => run_make_row' (P := Tryd.prog) 51 3 (.int .i64 0) 8 Tryd.underlying51 intInfo rfl .i64 .i64 N (by omega) (by omega) W
  refine callsIn_of_wp_marks Tryd.func20 rfl trivial ?_ hro
  simp only [Tryd.ntmps20, List.size_toArray, List.length_cons, List.length_nil, Nat.reduceAdd, Nat.reduceSub, Array.replicate_succ, Array.replicate_zero, List.push_toArray, List.append_toArray, List.nil_append, List.cons_append]
  gi_wp2_with fail
  clear hmk
  obtain ⟨m, hm⟩ : ∃ m : Nat, (m : Int) = min (N : Int) (max 0 p.a) := ⟨(min (N : Int) (max 0 p.a)).toNat, by omega⟩
  rw [← hm]
  have hmN : m ≤ N := by omega
  have HM := Lib.hid (lastTo_end N p.a m hm)
  clear hm
  obtain ⟨W0, hW0⟩ : ∃ W0, W0 = ((w.alloc (.cells #[.int .i64 p.a, .int .i64 p.b, .int .i64 p.c, .int .i64 p.d, .int .i64 p.e, .int .i64 p.f] 23)).alloc (.cells (madeCells #[.int .i64 0] N) 3)).alloc (.cells #[.slice (some ⟨w.heap.size + 1, 0, none⟩) N N] 51) := ⟨_, rfl⟩
  rw [← hW0]
  have hz0 : W0.heap.size = w.heap.size + 3 := by rw [hW0]; simp
  have hb0 : Below w.heap.size w W0 := by rw [hW0]; exact (((Below.refl _ _).alloc (Nat.le_refl _) _).alloc (by simp) _).alloc (by simp; omega) _
  have p0 : W0.heap[w.heap.size]? = some (.cells #[.int .i64 p.a, .int .i64 p.b, .int .i64 p.c, .int .i64 p.d, .int .i64 p.e, .int .i64 p.f] 23) := by
    rw [hW0]; exact (heap_alloc_old _ _ (by simp; omega)).trans ((heap_alloc_old _ _ (by simp)).trans (heap_alloc_new _ _))
  have p1 : W0.heap[w.heap.size + 1]? = some (.cells (madeCells #[.int .i64 0] N) 3) := by
    rw [hW0]; exact (heap_alloc_old _ _ (by simp)).trans (heap_alloc_at (by simp))
  have p2 : W0.heap[w.heap.size + 1 + 1]? = some (.cells #[.slice (some ⟨w.heap.size + 1, 0, none⟩) N N] 51) := by rw [hW0]; exact heap_alloc_at (by simp)
  have HI0 : Hid (WhI w W0 (w.heap.size + 1) (lastTo N 0) W0) := by
    refine ⟨?_, kpX_refl _ _ _, hb0, Nat.le_refl _⟩
    rw [lastTo_0]
    exact IRow.mk0 p1
  have HP0 := Lib.hid p0
  have HP2 := Lib.hid p2
  have HZ0 := Lib.hid hz0
  clear hW0 hb0 p0 p1 p2
  gi_loopw [6, 19] (fun u i wr => ∃ j : Nat, j ≤ m ∧ i = .int .i64 j ∧ Hid (WhI w W0 (w.heap.size + 1) (lastTo N j) wr)) (fun _ i _ => m - (intOf i).toNat)
  case atStart => exact ⟨0, Nat.zero_le _, rfl, HI0⟩
  case round =>
    obtain ⟨j, hj, rfl, HI⟩ := hrel
    by_cases hlt : j < m
    · have hlt' : (j : Int) < (m : Int) := by omega
      have hjN : (j : Int) < (N : Int) := by omega
      have b2 : wr.heap[w.heap.size + 1 + 1]? = some (.cells #[.slice (some ⟨w.heap.size + 1, 0, none⟩) N N] 51) := (HI.out.kp.1 _ (by omega) (by omega)).trans HP2.out
      have c2 : wr.cell? ⟨w.heap.size + 1 + 1, 0, none⟩ = some (.slice (some ⟨w.heap.size + 1, 0, none⟩) N N) := by unfold World.cell?; rw [b2]; rfl
      have f0 := HI.out.row.free j (by rw [lastTo_len]; omega)
      have f1 := HI.out.row.cell j (by rw [lastTo_len]; omega)
      have HI2 : Hid (WhI w W0 (w.heap.size + 1) (lastTo N (j + 1)) (wr.setCell ⟨w.heap.size + 1, j, none⟩ (.int .i64 1))) := by rw [lastTo_step]; exact HI.out.set (by omega) j 1
      clear b2
      gi_wp2_with fail
      go_roundw
      case rel => exact ⟨j + 1, by omega, by go_num, HI2⟩
      case measure => simp [intOf]; omega
    · obtain rfl : j = m := by omega
      clear HI0
      rw [HM.out] at HI
      have b0 : wr.heap[w.heap.size]? = some (.cells #[.int .i64 p.a, .int .i64 p.b, .int .i64 p.c, .int .i64 p.d, .int .i64 p.e, .int .i64 p.f] 23) := (HI.out.kp.1 _ (by omega) (by omega)).trans HP0.out
      have c0 : wr.cell? ⟨w.heap.size, 0, none⟩ = some (.int .i64 p.a) := by unfold World.cell?; rw [b0]; rfl
      have c1 : wr.cell? ⟨w.heap.size, 1, none⟩ = some (.int .i64 p.b) := by unfold World.cell?; rw [b0]; rfl
      have c2 : wr.cell? ⟨w.heap.size, 2, none⟩ = some (.int .i64 p.c) := by unfold World.cell?; rw [b0]; rfl
      have c3 : wr.cell? ⟨w.heap.size, 3, none⟩ = some (.int .i64 p.d) := by unfold World.cell?; rw [b0]; rfl
      have c4 : wr.cell? ⟨w.heap.size, 4, none⟩ = some (.int .i64 p.e) := by unfold World.cell?; rw [b0]; rfl
      have c5 : wr.cell? ⟨w.heap.size, 5, none⟩ = some (.int .i64 p.f) := by unfold World.cell?; rw [b0]; rfl
      have HRU := Lib.hid (rules_any p wr)
      clear b0
      gi_wp2_with fail
      refine ⟨trivial, (callsIn_wide.2 HRU.out).mono ?_⟩
      rintro e W1 ⟨gr, rfl, hgr1, hgr2, hru, b1⟩
      have hgr3 : w.heap.size + 3 ≤ gr := by have := hgr1; have := HI.out.size; omega
      have HI1 := Lib.hid (HI.out.below b1)
      have HRL := Lib.hid hru
      clear HI HRU hru b1 c0 c1 c2 c3 c4 c5 HP0
      gi_wp2_with fail
      have h01 : W0.heap.size ≤ W1.heap.size := HI1.out.size
      have HL0 : Hid (WhL w W1 (w.heap.size + 1) (whTo p K 0) [] W1) := ⟨⟨by rw [whTo_0, ← HN.out]; exact HI1.out.row, kpX_refl _ _ _, HI1.out.low, Nat.le_refl _⟩, List.nodup_nil, fun D h => (nomatch h)⟩
      have HOB : Hid (∀ V ws, WhI w W1 (w.heap.size + 1) ws V → V.cell? ⟨w.heap.size + 1 + 1, 0, none⟩ = some (.slice (some ⟨w.heap.size + 1, 0, none⟩) N N) ∧ RulS p gr V ∧ MkN V (.slice A N c) K) := fun V ws h => by
        have hgl : ∀ j, j < W1.heap.size → j ≠ w.heap.size + 1 → V.heap[j]? = W1.heap[j]? := h.kp.1
        refine ⟨?_, ?_, HV.out.below h.low (Nat.le_refl _)⟩
        · have := (hgl _ (by omega) (by omega)).trans ((HI1.out.kp.1 _ (by omega) (by omega)).trans HP2.out)
          unfold World.cell?; rw [this]; rfl
        · have hb := hgl gr hgr2 (by omega)
          exact ⟨fun i hi => (World.cell?_of_block (a := ⟨gr, i * 3, none⟩) hb).trans (HRL.out.c0 i hi), fun i hi => (World.cell?_of_block (a := ⟨gr, i * 3 + 1, none⟩) hb).trans (HRL.out.c1 i hi), fun i hi => (World.cell?_of_block (a := ⟨gr, i * 3 + 2, none⟩) hb).trans (HRL.out.c2 i hi)⟩
      have hK1 : w.heap.size + 3 ≤ W1.heap.size := by omega
      clear HI1 HRL HP2
      refine wpIn_loop (fun a W => ∃ (i : Nat) (ds : List Nat) (v8 v30 v31 v32 v33 v34 v35 v45 : Value), i ≤ 5 ∧ a = { tmps := #[polV p, .slice A N c, .pointer (some ⟨w.heap.size, 0, none⟩), undef, .slice none 0 0, .pointer (some ⟨w.heap.size + 1 + 1, 0, none⟩), u6, undef, v8, undef, .slice A N c, .int .i64 N, .slice (some ⟨w.heap.size + 1, 0, none⟩) N N, .slice A N c, .int .i64 N, .pointer (some ⟨w.heap.size, 0, none⟩), .int .i64 p.a, .int .i64 (max 0 p.a), .int .i64 j, .int .i64 j, .bool false, u21, u22, u23, u24, u25, .agg #[.int .i64 p.a, .int .i64 p.b, .int .i64 p.c, .int .i64 p.d, .int .i64 p.e, .int .i64 p.f], .slice (some ⟨gr, 0, none⟩) 5 5, .int .i64 5, .int .i64 (i : Nat), v30, v31, v32, v33, v34, v35, undef, undef, undef, undef, undef, undef, undef, undef, undef, v45, undef], defers := mks ds } ∧ Hid (WhL w W1 (w.heap.size + 1) (whTo p K i) ds W)) (fun a _ => 5 - (intOf (a.tmps.getD 29 undef)).toNat) ?_ ?_
      · exact ⟨0, [], undef, undef, undef, undef, undef, undef, undef, undef, by omega, rfl, HL0⟩
      rintro a W ⟨i, ds, v8, v30, v31, v32, v33, v34, v35, v45, hi5, rfl, HL⟩
      clear HL0
      by_cases hi : i < 5
      · have hi' : (i : Int) < 5 := by omega
        obtain ⟨o0, ⟨r0, r1, r2⟩, k0⟩ := HOB.out W _ HL.out.i
        replace r0 := r0 i hi
        replace r1 := r1 i hi
        replace r2 := r2 i hi
        have HK0 := Lib.hid k0
        have HQ := hp i
        have HST := Lib.hid (whTo_step p K i hi)
        have HFE := Lib.hid (rF_enters i)
        have HFA := Lib.hid (fun (x : Mk) (hx : x ∈ K) W => rF_any i x (ho x hx) W)
        have hws := whTo_len p K i
        have H64 := Lib.hid (whTo_lt p K i)
        have hwhy := rW_lt i
        rw [← HN.out] at hws
        generalize rW i = why at *
        generalize rQ p i = q at *
        generalize rF i = fn at *
        generalize partI i = f at *
        generalize whTo p K i = ws at *
        have hfa := fun V => firsts_any fn why q A N c V
        clear k0
        gi_wp2_with fail
        refine ⟨trivial, (callsIn_wide.2 (hfa _)).mono ?_⟩
        rintro e W2 ⟨rfl, hW2⟩
        clear hfa r0 r1 r2 o0
        have hz2 : W2.heap.size = W.heap.size + 3 := by rw [← hW2]; simp
        have hb2 : Below W.heap.size W W2 := by rw [← hW2]; exact (((Below.refl _ _).alloc (Nat.le_refl _) _).alloc (by simp) _).alloc (by simp; omega) _
        have q0 : W2.heap[W.heap.size]? = some (ruleO fn why q) := by
          rw [← hW2]; exact (heap_alloc_old _ _ (by simp; omega)).trans ((heap_alloc_old _ _ (by simp)).trans (heap_alloc_new _ _))
        have q1 : W2.heap[W.heap.size + 1]? = some (ruleO fn why q) := by
          rw [← hW2]; exact (heap_alloc_old _ _ (by simp)).trans (heap_alloc_at (by simp))
        have q2 : W2.heap[W.heap.size + 2]? = some (.cells #[.slice A N c] 25) := by rw [← hW2]; exact heap_alloc_at (by simp)
        have hWs : W1.heap.size ≤ W.heap.size := HL.out.i.size
        have hv2 : MkN W2 (.slice A N c) K := HK0.out.below hb2 (Nat.le_refl _)
        have hgv : 0 < K.length → ∀ b off n c', Value.slice A N c = .slice (some ⟨b, off, none⟩) n c' → b ≠ w.heap.size + 1 := by
          intro hl b off n c' e hb
          obtain ⟨⟨A9, c9, hv9, _, _, h49⟩, _⟩ := HV.out
          obtain ⟨b9, off9, e9, hb9, _⟩ := h49 hl
          rw [e] at hv9
          injection hv9 with e1
          rw [e9] at e1
          injection e1 with e1
          injection e1 with e1
          omega
        have hseq := firsts1_seq fn f HFE.out K (by rw [← HN.out]; exact hK) (fun x hx V => HFA.out x hx V) (10 - 1) (by decide) (W.heap.size + 1) (W.heap.size + 2) (w.heap.size + 1) why q HQ.1 HQ.2 (.slice A N c) W2 q1 q2 hv2 (by omega) (by omega) hgv
        gi_wp2_with fail
        have hrow2 : IRow W2 (w.heap.size + 1) ws := HL.out.i.row.below hb2
        have hlow2 : Below w.heap.size w W2 := HL.out.i.low.trans (hb2.mono HL.out.i.low.size)
        have hI0 : WhI w W2 (w.heap.size + 1) ws W2 := ⟨hrow2, kpX_refl _ _ _, hlow2, Nat.le_refl _⟩
        have hgs : w.heap.size + 1 < W2.heap.size := by omega
        have hw2 : w.heap.size ≤ W2.heap.size := by omega
        have ob : W2.heap[w.heap.size + 1 + 1]? = W.heap[w.heap.size + 1 + 1]? := hb2.block _ (by omega)
        have HOW := Lib.hid (HOB.out W ws HL.out.i).1
        have o2 : W2.cell? ⟨w.heap.size + 1 + 1, 0, none⟩ = some (.slice (some ⟨w.heap.size + 1, 0, none⟩) N N) := (World.cell?_of_block (a := ⟨w.heap.size + 1 + 1, 0, none⟩) ob).trans HOW.out
        obtain ⟨xs, hxs⟩ : ∃ xs, xs = posF f q (-1) 0 K := ⟨_, rfl⟩
        have hxl : ∀ x ∈ xs, x < N := by
          intro x hx
          rw [hxs] at hx
          have h1 := (posF_lt f K q (-1) 0 x hx).2
          have h2 := HN.out
          omega
        rw [← hxs] at hseq HST
        have HXS := Lib.hid hxl
        clear hxs hxl ob HV HK0
        refine wpIn_rangeT hro (by decide) (gf := 51) (lb := #[.pointer (some ⟨W.heap.size + 1, 0, none⟩), .pointer (some ⟨W.heap.size + 2, 0, none⟩)]) rfl trivial (enters_of Tryd.func51 (by kernel_rfl) rfl) hseq
          (fun V V' ht k o hk h => (ht.block k (Array.getElem?_eq_some_iff.1 h).1).trans h)
          (fun V V' l o' hl h => ⟨fun k hk hne => (h.1 k hk hne).trans (World.putObj_heap_other (by omega)), fun hs => h.2 (by simpa [World.putObj] using hs)⟩)
          (fun V V' l o' hl h => ⟨fun k hk hne => (World.putObj_heap_other (by omega)).trans (h.1 k hk hne), fun hs => by have := h.2 hs; simpa [World.putObj] using this⟩)
          (fun _ => rfl) (fun pre V => WhI w W2 (w.heap.size + 1) (pre.foldl (setO why) ws) V)
          (fun pre V l o o' h hl ho hc => h.put o' hw2 hgs hl ho hc) (fun pre V o h => h.below ((Below.refl _ _).alloc (Nat.le_refl _) _)) (fun pre V V' h ht => h.below ht)
          hI0 ?a1 ?assign ?body ?done
        case a1 => exact fun x => { tmps := #[polV p, .slice A N c, .pointer (some ⟨w.heap.size, 0, none⟩), undef, .slice none 0 0, .pointer (some ⟨w.heap.size + 1 + 1, 0, none⟩), u6, undef, .pointer (some ⟨W.heap.size, 0, none⟩), .int .i64 (x : Nat), .slice A N c, .int .i64 N, .slice (some ⟨w.heap.size + 1, 0, none⟩) N N, .slice A N c, .int .i64 N, .pointer (some ⟨w.heap.size, 0, none⟩), .int .i64 p.a, .int .i64 (max 0 p.a), .int .i64 j, .int .i64 j, .bool false, u21, u22, u23, u24, u25, .agg #[.int .i64 p.a, .int .i64 p.b, .int .i64 p.c, .int .i64 p.d, .int .i64 p.e, .int .i64 p.f], .slice (some ⟨gr, 0, none⟩) 5 5, .int .i64 5, .int .i64 (i : Nat), .bool true, .pointer (some ⟨gr, i * 3, none⟩), .agg #[.int .i64 why, .int .i64 q, .func (.func fn) #[] #[]], .agg #[.int .i64 why, .int .i64 q, .func (.func fn) #[] #[]], .slice A N c, .func (.func 51) #[] #[.pointer (some ⟨W.heap.size + 1, 0, none⟩), .pointer (some ⟨W.heap.size + 2, 0, none⟩)], .int .i64 (x : Nat), undef, undef, undef, undef, undef, undef, undef, undef, v45, undef], defers := [] }
        case assign =>
          intro l x V K' hK'
          gi_wp2
          exact hK'
        case body =>
          intro l pre x V hlV hI hx
          have hxN : x < N := HXS.out x (List.mem_of_getElem? hx)
          have hxN' : (x : Int) < (N : Int) := by omega
          have hlen : (pre.foldl (setO why) ws).length = N := by rw [foldO_len, hws]
          have HI := Lib.hid hI
          obtain ⟨st, hst⟩ : ∃ st, st = pre.foldl (setO why) ws := ⟨_, rfl⟩
          have HSTP : Hid ((pre ++ [x]).foldl (setO why) ws = setO why st x) := by unfold Hid; rw [List.foldl_append, hst]; rfl
          have HI64 : Hid (∀ u ∈ st, u < 64) := by unfold Hid; rw [hst]; exact foldO_lt why hwhy pre ws H64.out
          rw [← hst] at HI hlen
          have c0 := HI.out.row.cell x (by omega)
          have f0 := HI.out.row.free x (by omega)
          have ob := (World.cell?_of_block (a := ⟨w.heap.size + 1 + 1, 0, none⟩) (HI.out.kp.1 (w.heap.size + 1 + 1) (by omega) (by omega))).trans o2
          have rb : V.heap[W.heap.size]? = some (ruleO fn why q) := (HI.out.kp.1 _ (by omega) (by omega)).trans q0
          obtain ⟨k0, k1, k2⟩ := cells_rule rb
          clear hst hI hx rb hseq hI0 hrow2
          have hold64 : st.getD x 0 < 64 := by
            have e : st.getD x 0 = st[x]'(by omega) := by simp [List.getD, show x < st.length by omega]
            rw [e]
            exact HI64.out _ (List.getElem_mem _)
          have hbits := or64 _ hold64 why hwhy
          obtain ⟨nw, hnw⟩ : ∃ nw, nw = st.getD x 0 ||| why := ⟨_, rfl⟩
          have HSET : Hid (setO why st x = st.set x nw) := by unfold Hid; rw [hnw, setO_get]
          rw [← hnw] at hbits
          generalize st.getD x 0 = old at *
          have hmix : Tryd.prog.follows Departure.mixedOrders = true := by kernel_rfl
          have HKF : Hid (∀ m, KeepsFrom W2.heap.size V ((V.setCell ⟨w.heap.size + 1, x, none⟩ (.int .i64 (nw : Nat))).drewN m)) := fun m => ((KeepsOthers.setCell V ⟨w.heap.size + 1, x, none⟩ (.int .i64 (nw : Nat))).trans (keepsB (Below.drewN (Below.refl _ _) m))).from _
          have HKP : Hid (∀ m, KpX W2.heap.size (w.heap.size + 1) V ((V.setCell ⟨w.heap.size + 1, x, none⟩ (.int .i64 (nw : Nat))).drewN m)) := fun m => ⟨fun k hk hne => Below.heap_setCell _ _ _ _ (fun e => hne e), fun hs => by show _ ≤ (V.setCell _ _).heap.size; rw [World.size_setCell]; exact hs⟩
          have HIN : Hid (∀ m, WhI w W2 (w.heap.size + 1) ((pre ++ [x]).foldl (setO why) ws) ((V.setCell ⟨w.heap.size + 1, x, none⟩ (.int .i64 (nw : Nat))).drewN m)) := fun m => by rw [HSTP.out, HSET.out]; exact (HI.out.set (by omega) x nw).below (Below.drewN (Below.refl _ _) m)
          clear hold64 hnw HSTP HSET HI
          gi_wp2_with fail
          gi_region_with_o (fail)
          all_goals gi_wp2
          all_goals exact ⟨by have h := HKF.out 1; rw [hz2] at h; exact h, by have h := HKP.out 1; rw [hz2] at h; exact h, by have h := HIN.out 1; rw [List.foldl_append] at h; exact h⟩
        case done =>
          intro D V hD hI hDm
          have hm2 : MarkS W1.heap.size (D :: ds) V := by
            refine ⟨List.nodup_cons.2 ⟨fun h => ?_, HL.out.m.nodup⟩, fun E hE => ?_⟩
            · have h1 := (HL.out.m.at_ D h).2
              have := (Array.getElem?_eq_some_iff.1 h1).1
              omega
            · rcases List.mem_cons.1 hE with rfl | hE
              · exact ⟨by omega, hDm⟩
              · obtain ⟨h1, h2⟩ := HL.out.m.at_ E hE
                have h3 := (Array.getElem?_eq_some_iff.1 h2).1
                refine ⟨h1, (hI.kp.1 E (by omega) (by omega)).trans ((hb2.block _ h3).trans h2)⟩
          have hl2 : WhL w W1 (w.heap.size + 1) (whTo p K (i + 1)) (D :: ds) V := by
            refine ⟨⟨by rw [HST.out]; exact hI.row, (HL.out.i.kp.trans (kpX_below hb2 HL.out.i.size)).trans (hI.kp.le (by omega) (Nat.le_refl _)), hI.low, by have := hI.size; omega⟩, hm2⟩
          have HL2 := Lib.hid hl2
          clear hm2 hl2 hI hDm
          gi_wp2_with fail
          refine ⟨⟨i + 1, D :: ds, _, _, _, _, _, _, _, _, by omega, rfl, HL2⟩, ?_⟩
          simp [intOf]; omega
      · obtain rfl : i = 5 := by omega
        obtain ⟨o0, _, _⟩ := HOB.out W _ HL.out.i
        gi_wp2_with fail
        refine leaves_marks (base := W1.heap.size) (fun V => IRow V (w.heap.size + 1) (whyW partI p K) ∧ Below w.heap.size w V ∧ W1.heap.size ≤ V.heap.size) (fun V D hI hD hV => ⟨hI.1.same (by simp [World.putObj]) (World.putObj_heap_other (by omega)), hI.2.1.grown (grownBy_putObj' V D _) hI.2.1.size (fun j e => by cases e; omega), by simpa [World.putObj] using hI.2.2⟩) (fun V hI => ⟨.slice (some ⟨w.heap.size + 1, 0, none⟩) N N, ?_, ⟨_, rfl, hI.1, hI.2.1⟩⟩) ds W HL.out.m ⟨by rw [← whTo_5]; exact HL.out.i.row, HL.out.i.low, HL.out.i.size⟩
        simp [results, Tryd.f20, go_sem]
theorem whys_any (p : Pol) (K : List Mk) (v : Value) (w : World) (hv : MkN w v K) (hK : K.length ≤ 1000000) (ho : ∀ x ∈ K, okAt x = true) (hp : ∀ i, -9223372036854775808 ≤ rQ p i ∧ rQ p i ≤ 9223372036854775807) (ha : -9223372036854775808 ≤ p.a ∧ p.a ≤ 9223372036854775807) :
    Calls Tryd.prog 20 #[polV p, v] w fun e W' => ∃ g, e = .returned (.slice (some ⟨g, 0, none⟩) K.length K.length) ∧ IRow W' g (whyW partI p K) ∧ Below w.heap.size w W' := callsIn_wide.1 (whys_in p K v w hv hK ho hp ha)
end Go.Proofs.YtlikmdmdmljiaaaDoor
