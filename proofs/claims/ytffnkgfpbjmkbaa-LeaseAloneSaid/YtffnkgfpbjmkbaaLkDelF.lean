/- slices.DeleteFunc in a row of locks of the call's own (the closure of Pass). -/
import Derived.Test.YtffnkgfpbjmkbaaLkDel
namespace Go.Proofs.Ytffnkgfpbjmkbaa
open Go.RowKit Go.Lib
set_option linter.unusedVariables false
set_option linter.unusedSimpArgs false
theorem set3 (a b c : Value) : ∀ (k : Nat) (L : List Value), k + 3 ≤ L.length → ((L.set k a).set (k + 1) b).set (k + 2) c = L.take k ++ a :: b :: c :: L.drop (k + 3)
  | 0, x :: y :: z :: r, _ => by simp
  | 0, [], h => by simp at h
  | 0, [_], h => by simp at h
  | 0, [_, _], h => by simp at h
  | k + 1, [], h => by simp at h
  | k + 1, x :: r, h => by
    have := set3 a b c k r (by simp at h; omega)
    simp [this]
theorem heap_set (w : World) (g o : Nat) (cur : Array Value) (t : TypeId) (fz : Nat × Nat) (v : Value) (h : w.heap[g]? = some (.cells cur t fz)) : (w.setCell ⟨g, o, none⟩ v).heap[g]? = some (.cells (cur.setIfInBounds o v) t fz) := by
  unfold World.setCell
  simp [Array.getElem?_modify, h]
/-- the row in the midst of a deletion: i kept ones, and from j on as it was -/
def MidL (w : World) (g n c i j : Nat) (l : List Lk) (K : List Lk) : Prop := ∃ cur : Array Value, w.heap[g]? = some (.cells cur 62 (0, 0)) ∧ cur.size = c * 3 ∧ cur.toList.take (i * 3) = lkC K ∧ (cur.toList.drop (j * 3)).take ((n - j) * 3) = lkC (l.drop j)
theorem MidL.cell {w : World} {g n c i j : Nat} {l K : List Lk} (h : MidL w g n c i j l K) (hn : n = l.length) (hj : j < l.length) : w.cell? ⟨g, 0 + j * 3, none⟩ = some (.int .u64 l[j].o.toNat) ∧ w.cell? ⟨g, 0 + j * 3 + 1, none⟩ = some (.bool l[j].s) ∧ w.cell? ⟨g, 0 + j * 3 + 2, none⟩ = some (.int .i64 l[j].u) := by
  obtain ⟨cur, hg, hs, _, hd⟩ := h
  have hc : ∀ t u, t < 3 → (lkC (l.drop j))[t]? = some u → w.cell? ⟨g, 0 + j * 3 + t, none⟩ = some u := fun t u ht hu => by
    rw [← hd, List.getElem?_take_of_lt (by omega), List.getElem?_drop] at hu
    simp only [World.cell?, hg]
    simpa using hu
  have hd0 : 0 < (l.drop j).length := by rw [List.length_drop]; omega
  obtain ⟨s1, s2, s3⟩ := lkC_get (l.drop j) 0 hd0
  have e0 : (l.drop j)[0] = l[j] := by simp
  rw [e0] at s1 s2 s3
  exact ⟨hc 0 _ (by omega) s1, hc 1 _ (by omega) s2, hc 2 _ (by omega) s3⟩
theorem MidL.free {w : World} {g n c i j : Nat} {l K : List Lk} (h : MidL w g n c i j l K) : ∀ o, w.frozen? ⟨g, o, none⟩ = false := by
  obtain ⟨cur, hg, _⟩ := h
  exact fun o => frozen_of_row w g o cur _ hg
theorem MidL.some {w : World} {g n c i j : Nat} {l K : List Lk} (h : MidL w g n c i j l K) (o : Nat) (ho : o < c * 3) : ∃ v, w.cell? ⟨g, o, none⟩ = some v := by
  obtain ⟨cur, hg, hs, _⟩ := h
  refine ⟨cur[o], ?_⟩
  simp only [World.cell?, hg]
  simp [hs, ho]
theorem MidL.of_block {w w' : World} {g n c i j : Nat} {l K : List Lk} (h : MidL w g n c i j l K) (e : w'.heap[g]? = w.heap[g]?) : MidL w' g n c i j l K := by
  obtain ⟨cur, hg, r⟩ := h
  exact ⟨cur, e.trans hg, r⟩
theorem MidL.skip {w : World} {g n c i j : Nat} {l K : List Lk} (h : MidL w g n c i j l K) (hn : n = l.length) (hj : j < n) : MidL w g n c i (j + 1) l K := by
  obtain ⟨cur, hg, hs, hk, hd⟩ := h
  refine ⟨cur, hg, hs, hk, ?_⟩
  have e : (l.drop j) = l[j] :: l.drop (j + 1) := List.drop_eq_getElem_cons (by omega)
  rw [e, lkC_cons] at hd
  have h3 := congrArg (List.drop 3) hd
  rw [List.drop_take, List.drop_drop] at h3
  simp only [List.drop_succ_cons, List.drop_zero] at h3
  rw [show (j + 1) * 3 = j * 3 + 3 by omega, show (n - (j + 1)) * 3 = (n - j) * 3 - 3 by omega]
  exact h3
theorem MidL.put {w : World} {g n c i j : Nat} {l K : List Lk} (h : MidL w g n c i j l K) (hn : n = l.length) (hj : j < n) (hij : i < j) (hnc : n ≤ c) (x : Lk) : MidL (((w.setCell ⟨g, i * 3, none⟩ (.int .u64 x.o.toNat)).setCell ⟨g, i * 3 + 1, none⟩ (.bool x.s)).setCell ⟨g, i * 3 + 2, none⟩ (.int .i64 x.u)) g n c (i + 1) (j + 1) l (K ++ [x]) := by
  obtain ⟨cur, hg, hs, hk, hd⟩ := h.skip hn hj
  have hcl : cur.toList.length = c * 3 := by rw [Array.length_toList, hs]
  have h3 := set3 (.int .u64 x.o.toNat) (.bool x.s) (.int .i64 x.u) (i * 3) cur.toList (by omega)
  have hkl : (cur.toList.take (i * 3)).length = i * 3 := by rw [List.length_take]; omega
  refine ⟨((cur.setIfInBounds (i * 3) (.int .u64 x.o.toNat)).setIfInBounds (i * 3 + 1) (.bool x.s)).setIfInBounds (i * 3 + 2) (.int .i64 x.u), heap_set _ _ _ _ _ _ _ (heap_set _ _ _ _ _ _ _ (heap_set _ _ _ _ _ _ _ hg)), by simp [hs], ?_, ?_⟩
  · simp only [Array.toList_setIfInBounds]
    rw [h3, show (i + 1) * 3 = (cur.toList.take (i * 3)).length + 3 by omega, List.take_length_add_append]
    rw [hk, lkC_append]
    simp [lkC, Lk.c]
  · simp only [Array.toList_setIfInBounds]
    rw [h3, ← hd]
    congr 1
    have e1 : cur.toList.take (i * 3) ++ Value.int .u64 x.o.toNat :: .bool x.s :: .int .i64 x.u :: cur.toList.drop (i * 3 + 3) = (cur.toList.take (i * 3) ++ [.int .u64 x.o.toNat, .bool x.s, .int .i64 x.u]) ++ cur.toList.drop (i * 3 + 3) := by simp
    have e2 : (cur.toList.take (i * 3) ++ [Value.int .u64 x.o.toNat, .bool x.s, .int .i64 x.u]).length = i * 3 + 3 := by simp; omega
    rw [e1, List.drop_append, List.drop_eq_nil_of_le (by omega), e2, List.nil_append, List.drop_drop]
    congr 1
    omega
def keepL (l : List Lk) (p : Lk → Bool) : List Lk := l.filter fun x => !p x
theorem keep_take (l : List Lk) (p : Lk → Bool) (j : Nat) (h : j < l.length) : keepL (l.take (j + 1)) p = keepL (l.take j) p ++ (if p l[j] = true then [] else [l[j]]) := by
  unfold keepL
  rw [List.take_succ_eq_append_getElem h, List.filter_append]
  congr 1
  cases hp : p l[j] <;> simp [hp]
theorem keep_first (l : List Lk) (p : Lk → Bool) (h : ixP l p < l.length) : keepL (l.take (ixP l p + 1)) p = l.take (ixP l p) := by
  have hat := (ixP_at l p _ h (Nat.le_refl _)).2 rfl
  rw [keep_take l p _ h, if_pos hat, List.append_nil]
  unfold keepL
  refine List.filter_eq_self.2 fun x hx => ?_
  obtain ⟨i, hi, rfl⟩ := List.getElem_of_mem hx
  rw [List.getElem_take]
  have hi' : i < ixP l p := by rw [List.length_take] at hi; omega
  have := (ixP_at l p i (by omega) (by omega))
  cases hp : p l[i] with
  | false => rfl
  | true => have := this.1 hp; omega
theorem keep_none (l : List Lk) (p : Lk → Bool) (h : ¬ ixP l p < l.length) : keepL l p = l := by
  unfold keepL
  refine List.filter_eq_self.2 fun x hx => ?_
  obtain ⟨i, hi, rfl⟩ := List.getElem_of_mem hx
  have := (ixP_at l p i (by omega) (by omega))
  cases hp : p l[i] with
  | false => rfl
  | true => have := this.1 hp; omega
theorem keep_le (l : List Lk) (p : Lk → Bool) (j : Nat) : (keepL (l.take j) p).length ≤ j := by
  have := List.length_filter_le (fun x => !p x) (l.take j)
  rw [List.length_take] at this
  unfold keepL
  omega
theorem grown_of_below {w w' : World} {g : Option Nat} (b : Below w.heap.size w w') : w.grownBy w' g := ⟨b.os, b.tape, b.output, b.size, fun i hi _ => b.block i hi⟩
theorem grown_below {w w1 w2 : World} {g : Option Nat} (h : w.grownBy w1 g) (b : Below w1.heap.size w1 w2) : w.grownBy w2 g := ⟨b.os.trans h.os, b.tape.trans h.tape, b.output.trans h.output, Nat.le_trans h.size b.size, fun i hi hne => (b.block i (Nat.lt_of_lt_of_le hi h.size)).trans (h.block i hi hne)⟩
theorem grown_set {w w1 : World} {g o : Nat} {v : Value} (h : w.grownBy w1 (some g)) : w.grownBy (w1.setCell ⟨g, o, none⟩ v) (some g) :=
  ⟨h.os, h.tape, h.output, by rw [World.size_setCell]; exact h.size, fun i hi hne => (heap_setCell_other _ _ i _ (by dsimp only; intro e; exact hne (by rw [e]))).trans (h.block i hi hne)⟩
theorem grown_row {w w1 : World} {g : Nat} {cur : Array Value} (h : w.grownBy w1 (some g)) : w.grownBy (w1.setRow g cur) (some g) :=
  ⟨h.os, h.tape, h.output, by simp [World.setRow]; exact h.size, fun i hi hne => (setRow_other w1 g i _ (fun e => hne (by rw [e]))).trans (h.block i hi hne)⟩
theorem RowL.mid {w w1 : World} {g n c : Nat} {l : List Lk} (h : RowL w g n c l) (e : w1.heap[g]? = w.heap[g]?) (i : Nat) (hi : i < n) (K : List Lk) (hK : K = l.take i) : MidL w1 g n c i (i + 1) l K := by
  obtain ⟨hn, hnc, hcm, cur, hg, hs, hx⟩ := h
  refine ⟨cur, e.trans hg, hs, ?_, ?_⟩
  · rw [hK, ← lkC_take, ← hx, List.take_take]; (congr 1; try omega)
  · rw [← lkC_drop, ← hx, List.drop_take]; (congr 1; try omega)
set_option maxRecDepth 20000 in
set_option maxHeartbeats 4000000 in
theorem delf_any (g n c pv : Nat) (l : List Lk) (p : Lk → Bool) (w : World) (h : RowL w g n c l) (hl : n ≤ 1000000000)
    (HC : ∀ x : Lk, ∀ w', w.grownBy w' (some g) → Calls Try.prog 31 #[.agg #[.int .u64 x.o.toNat, .bool x.s, .int .i64 x.u], .pointer (some ⟨pv, 0, none⟩)] w' fun e w'' => e = .returned (.bool (p x)) ∧ Below w'.heap.size w' w'') :
    Calls Try.prog 32 #[.slice (some ⟨g, 0, none⟩) n c, .func (.func 31) #[] #[.pointer (some ⟨pv, 0, none⟩)]] w fun e w' =>
      e = .returned (.slice (some ⟨g, 0, none⟩) (keepL l p).length c) ∧ RowL w' g (keepL l p).length c (keepL l p) ∧ w.grownBy w' (some g) := by
  have HH := Lib.hid h
  have HC' := Lib.hid HC
  obtain ⟨hn, hnc, hcm, cur, hg, hcs, hx⟩ := h
  have hglt : g < w.heap.size := (Array.getElem?_eq_some_iff.1 hg).1
  have hc9 : c ≤ 9223372036854775807 := by unfold maxLen at hcm; omega
  have HB0 : LksB w (.slice (some ⟨g, 0, none⟩) n c) l := by
    have := LksB.of_owns (HH.out.own (B := 0) (Nat.zero_le _))
    rw [← hn] at this
    exact this
  have HI := Lib.hid (ixP_any pv (.slice (some ⟨g, 0, none⟩) n c) l p w HB0 (by omega) (fun x _ w' b => HC x w' (grown_of_below b)))
  unfold ixI at HI
  obtain ⟨q, hq⟩ : ∃ q, q = ixP l p := ⟨_, rfl⟩
  have HQ := Lib.hid hq
  have HN := Lib.hid hn
  rw [← hq, ← hn] at HI
  clear hcm hg hcs hx HC HB0 hq hn
  by_cases hqn : q < n
  · rw [if_pos hqn] at HI
    have hq0 : ((q : Int) == -1) = false := by first | (simp; done) | (simp; omega)
    have hq1 : ¬ ((q : Int) = -1) := by omega
    go_enter Try.func32, Try.ntmps32
    go_wp2_with fail
    refine HI.out.mono ?_
    rintro e w1 ⟨rfl, b1⟩
    have HG1 : Hid (w.grownBy w1 (some g)) := grown_of_below b1
    have HM1 : Hid (MidL w1 g n c q (q + 1) l (keepL (l.take (q + 1)) p)) := HH.out.mid (b1.block g hglt) q hqn _ (by rw [HQ.out]; exact keep_first l p (by rw [← HQ.out, ← HN.out]; exact hqn))
    have HK1 : Hid (q = (keepL (l.take (q + 1)) p).length) := by
      unfold Hid
      have e := keep_first l p (by rw [← HQ.out, ← HN.out]; exact hqn)
      rw [← HQ.out] at e
      rw [e, List.length_take]
      have := HN.out
      omega
    clear b1 HI
    go_wp2_with fail
    clear hq0 hq1
    go_loopw [5, 6] (fun a b wr => ∃ i j : Nat, i < j ∧ j ≤ n ∧ a = .int .i64 i ∧ b = .int .i64 j ∧ Hid (i = (keepL (l.take j) p).length) ∧ Hid (MidL wr g n c i j l (keepL (l.take j) p)) ∧ Hid (w.grownBy wr (some g))) (fun _ b _ => n - (RowKit.intOf b).toNat)
    case atStart => exact ⟨q, q + 1, by omega, by omega, rfl, by go_num, HK1, HM1, HG1⟩
    case round =>
      obtain ⟨i, j, hij, hjn, rfl, rfl, HK, HM, HG⟩ := hrel
      by_cases hlt : j < n
      · have hlt' : (j : Int) < (n : Int) := by omega
        have hnn := HN.out
        have hjl : j < l.length := by omega
        obtain ⟨y1, y2, y3⟩ := HM.out.cell hnn hjl
        rw [Nat.zero_add] at y1 y2 y3
        have HKT := Lib.hid (keep_take l p j hjl)
        generalize hxe : l[j] = x at *
        have hj0 : (0 : Int) ≤ (j : Int) := by omega
        have hi0 : (0 : Int) ≤ (i : Int) := by omega
        have hin : (i : Int) < (n : Int) := by omega
        have hin' : i < n := by omega
        have hgr : g < wr.heap.size := Nat.lt_of_lt_of_le hglt HG.out.size
        have HBq : Hid (Below wr.heap.size wr (wr.alloc (.cells #[.int .u64 x.o.toNat, .bool x.s, .int .i64 x.u] 62))) := (Below.refl _ _).alloc (Nat.le_refl _) _
        have HGq : Hid (w.grownBy (wr.alloc (.cells #[.int .u64 x.o.toNat, .bool x.s, .int .i64 x.u] 62)) (some g)) := grown_below HG.out HBq.out
        have HCx := Lib.hid (HC'.out x _ HGq.out)
        have X0 : (wr.alloc (.cells #[.int .u64 x.o.toNat, .bool x.s, .int .i64 x.u] 62)).cell? ⟨wr.heap.size, 0, none⟩ = some (.int .u64 x.o.toNat) := by simp
        have X1 : (wr.alloc (.cells #[.int .u64 x.o.toNat, .bool x.s, .int .i64 x.u] 62)).cell? ⟨wr.heap.size, 1, none⟩ = some (.bool x.s) := by simp
        have X2 : (wr.alloc (.cells #[.int .u64 x.o.toNat, .bool x.s, .int .i64 x.u] 62)).cell? ⟨wr.heap.size, 2, none⟩ = some (.int .i64 x.u) := by simp
        clear hxe hnn
        cases hp : p x with
        | true =>
          rw [hp] at HCx HKT
          rw [if_pos rfl, List.append_nil] at HKT
          go_wp2_with fail
          refine HCx.out.mono ?_
          rintro e w2 ⟨rfl, b2⟩
          have HG2 : Hid (w.grownBy w2 (some g)) := grown_below HGq.out b2
          have HM2 : Hid (MidL w2 g n c i (j + 1) l (keepL (l.take (j + 1)) p)) := by
            unfold Hid
            rw [HKT.out]
            exact ((HM.out.of_block (HBq.out.block g hgr)).of_block (b2.block g (by simp; omega))).skip HN.out hlt
          have HK2 : Hid (i = (keepL (l.take (j + 1)) p).length) := by unfold Hid; rw [HKT.out]; exact HK.out
          clear b2 y1 y2 y3 X0 X1 X2
          go_wp2_with fail
          go_roundw
          case rel => exact ⟨i, j + 1, by omega, by omega, rfl, by go_num, HK2, HM2, HG2⟩
          case measure => simp [RowKit.intOf]; omega
        | false =>
          rw [hp] at HCx HKT
          rw [if_neg (by decide)] at HKT
          go_wp2_with fail
          refine HCx.out.mono ?_
          rintro e w2 ⟨rfl, b2⟩
          have HG2 : Hid (w.grownBy w2 (some g)) := grown_below HGq.out b2
          have HMw : Hid (MidL w2 g n c i j l (keepL (l.take j) p)) := (HM.out.of_block (HBq.out.block g hgr)).of_block (b2.block g (by simp; omega))
          have z0 := (b2.cell (p := ⟨wr.heap.size, 0, none⟩) (by simp)).trans X0
          have z1 := (b2.cell (p := ⟨wr.heap.size, 1, none⟩) (by simp)).trans X1
          have z2 := (b2.cell (p := ⟨wr.heap.size, 2, none⟩) (by simp)).trans X2
          obtain ⟨o0, u0⟩ := HMw.out.some (i * 3) (by omega)
          obtain ⟨o1, u1⟩ := HMw.out.some (i * 3 + 1) (by omega)
          obtain ⟨o2, u2⟩ := HMw.out.some (i * 3 + 2) (by omega)
          have f0 := HMw.out.free (i * 3)
          have f1 := HMw.out.free (i * 3 + 1)
          have f2 := HMw.out.free (i * 3 + 2)
          have HM2 : Hid (MidL (((w2.setCell ⟨g, i * 3, none⟩ (.int .u64 x.o.toNat)).setCell ⟨g, i * 3 + 1, none⟩ (.bool x.s)).setCell ⟨g, i * 3 + 2, none⟩ (.int .i64 x.u)) g n c (i + 1) (j + 1) l (keepL (l.take (j + 1)) p)) := by
            unfold Hid
            rw [HKT.out]
            exact HMw.out.put HN.out hlt hij hnc x
          have HK2 : Hid (i + 1 = (keepL (l.take (j + 1)) p).length) := by unfold Hid; rw [HKT.out, List.length_append, ← HK.out]; rfl
          clear b2 y1 y2 y3 X0 X1 X2
          go_wp2_with fail
          go_roundw
          case rel => exact ⟨i + 1, j + 1, by omega, by omega, by go_num, by go_num, HK2, HM2, grown_set (grown_set (grown_set HG2.out))⟩
          case measure => simp [RowKit.intOf]; omega
      · obtain rfl : j = n := by omega
        have hin : i < j := hij
        have hic : i ≤ c := by omega
        have hci : ¬ (c = i) := by omega
        have hil : (i : Int) ≤ (j : Int) := by omega
        have hij' : i ≤ j := by omega
        obtain ⟨cur2, k1, k2, k3, k4⟩ : ∃ cur2 : Array Value, cur2.size = c * 3 ∧ cur2.toList.take (i * 3) = lkC (keepL l p) ∧ (wr.setRow g cur2).heap[g]? = some (.cells cur2 62 (0, 0)) ∧ ∀ ty sc, (Builtin.clear_ #[25] ty #[.slice (some ⟨g, i * 3, none⟩) (j - i) sc]).run Try.prog wr = .ok (.tuple #[]) (wr.setRow g cur2) := by
          obtain ⟨cur, hg, hs, hk, _⟩ := HM.out
          obtain ⟨k, hk'⟩ : ∃ k, j - i = k + 1 := ⟨j - i - 1, by omega⟩
          rw [hk']
          obtain ⟨cur2, k1, k2, k3⟩ := run_clear_lkN wr 0 g i (k + 1) 0 cur hg (by rw [hs]; omega)
          refine ⟨cur2, by rw [k1, hs], ?_, setRow_heap wr g cur _ _ _ hg, fun ty sc => ?_⟩
          · rw [k2, hk, List.take_of_length_le (by rw [← HN.out]; omega)]
          · simpa [Builtin.clear_] using k3
        have HKl : Hid (i = (keepL l p).length) := by
          have := HK.out
          rw [List.take_of_length_le (by rw [← HN.out]; omega)] at this
          exact this
        have HEND : Hid (RowL (wr.setRow g cur2) g i c (keepL l p) ∧ w.grownBy (wr.setRow g cur2) (some g)) :=
          ⟨⟨HKl.out, hic, HH.out.2.2.1, cur2, k3, k1, k2⟩, grown_row HG.out⟩
        clear k1 k2 k3
        go_wp2_with fail
        go_ret
        have hkl := HKl.out
        refine ⟨?_, ?_, HEND.out.2⟩
        · rw [← hkl]; rfl
        · rw [← hkl]; exact HEND.out.1
  · rw [if_neg hqn] at HI
    have hk := keep_none l p (by rw [← HQ.out, ← HN.out]; exact hqn)
    rw [hk]
    clear hqn hk
    go_enter Try.func32, Try.ntmps32
    go_wp2_with fail
    refine HI.out.mono ?_
    rintro e w1 ⟨rfl, b1⟩
    have HB1 := Lib.hid b1
    clear b1
    go_wp2_with fail
    go_ret
    obtain ⟨a1, a2, a3, cur, a4, a5, a6⟩ := HH.out
    refine ⟨by rw [← HN.out]; rfl, ⟨rfl, by rw [← a1]; exact a2, a3, cur, (HB1.out.block g hglt).trans a4, a5, by rw [← a1]; exact a6⟩, grown_of_below HB1.out⟩
end Go.Proofs.Ytffnkgfpbjmkbaa
