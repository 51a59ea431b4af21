/- retain.known: its walk. -/
import Derived.Test.YtlikmdmdmljiaaaDoorRetSorts
import Derived.Test.YtlikmdmdmljiaaaDoorRetSay
import Derived.Test.YtlikmdmdmljiaaaDoorMapSet
namespace Go.Proofs.YtlikmdmdmljiaaaDoor
open Go.RowKit Go.Shelf Go.Lib Go.Sort
set_option linter.unusedVariables false
set_option linter.unusedSimpArgs false
theorem mk_low {w w' : World} {v : Value} {l : List Mk} (h : MkN w v l) (hb : Below w.heap.size w w') : MkN w' v l := h.below hb (Nat.le_refl _)
/-- what is known so far -/
structure KnI (w : World) (K : List Mk) (u : Value) (wr : World) : Prop where
  own : wr.ownsRow (w.heap.size + 1) 29 2 u K.length (mkC K)
  set : SetM wr w.heap.size K.length (fun s => K.any fun x => decide (x.1 = s))
  low : Below w.heap.size w wr
  size : w.heap.size + 1 ≤ wr.heap.size
theorem KnI.alloc {w wr : World} {K : List Mk} {u : Value} (h : KnI w K u wr) (o : Obj) : KnI w K u (wr.alloc o) :=
  ⟨h.own.alloc _, h.set.alloc _, h.low.alloc h.low.size _, by simp; have := h.size; omega⟩
theorem KnI.below {w wr w' : World} {K : List Mk} {u : Value} (h : KnI w K u wr) (b : Below wr.heap.size wr w') : KnI w K u w' := by
  have hg : wr.grownBy w' none := ⟨b.os, b.tape, b.output, b.size, fun i hi _ => b.block i hi⟩
  refine ⟨h.own.kept hg ?_, h.set.kept hg (by simp), h.low.trans (b.mono h.low.size), Nat.le_trans h.size b.size⟩
  cases hv : u.ownBlock with
  | none => exact .inl rfl
  | some j => exact .inr (by simp)
theorem okTo_mem {l : List Mk} {j : Nat} {x : Mk} (h : x ∈ okTo l j) : x ∈ l := List.mem_of_mem_take (List.mem_filter.1 h).1
theorem okTo_le (l : List Mk) (j : Nat) : (okTo l j).length ≤ l.length := Nat.le_trans (List.length_filter_le _ _) (by simp; omega)
theorem okAt_iff (a : Int) (n : ByteArray) : decide (0 ≤ a ∧ a ≤ 274877906944) = okAt (n, a) := by unfold okAt; simp [Bool.decide_and]
theorem mkN_sorted {w : World} {B g cap : Nat} {K D : List Mk} (hown : w.ownsRow B 29 2 (.slice (some ⟨g, 0, none⟩) K.length cap) K.length (mkC K)) (hl : D.length = K.length) (n : Nat) (os : Array Obj) :
    MkN (sortWorldK encM 2 w g 0 n D.toArray os) (.slice (some ⟨g, 0, none⟩) K.length cap) D := by
  rcases hown.2 with ⟨h1, _⟩ | ⟨g', cap', cur, h1, hb, hg, hn, hm, hc, ht⟩
  · cases h1
  · cases h1
    have hH := mk_holds hg ht
    have hlt : g < w.heap.size := (Array.getElem?_eq_some_iff.1 hg).1
    have h2 := holdsK_grow encM 2 (putRowK encM 2 (Sort.ahead w n) g 0 D.toArray) os g 0 D.toArray (by simpa [putRowK] using hlt) (holdsK_putRowK encM 2 (Sort.ahead w n) g 0 K.toArray D.toArray (holdsK_ahead encM 2 w n g 0 K.toArray hH) (by simpa using hl))
    have hlt2 : g < (sortWorldK encM 2 w g 0 n D.toArray os).heap.size := Nat.lt_of_lt_of_le hlt (grownBy_sortK (w := w) (g := g) (n := n) (os := os) D.toArray).size
    rw [← hl]
    exact mkN_holds h2 hlt2 (by omega) hm
theorem holds_own {w : World} {B g cap : Nat} {T : TypeId} {K : List Mk} (hown : w.ownsRow B T 2 (.slice (some ⟨g, 0, none⟩) K.length cap) K.length (mkC K)) : HoldsK encM 2 w g 0 K.toArray ∧ g < w.heap.size ∧ B ≤ g := by
  rcases hown.2 with ⟨h1, _⟩ | ⟨g', cap', cur, h1, hb, hg, hn, hm, hc, ht⟩
  · cases h1
  · cases h1
    exact ⟨mk_holds hg ht, (Array.getElem?_eq_some_iff.1 hg).1, hb⟩
theorem srtM_len (l : List Mk) : (srtM l).length = l.length := by simp [srtM]
theorem below_sorted {w0 w : World} {g n : Nat} {os : Array Obj} (hb : Below w0.heap.size w0 w) (hg : w0.heap.size ≤ g) (D : Array Mk) : Below w0.heap.size w0 (sortWorldK encM 2 w g 0 n D os) :=
  hb.grown (grownBy_sortK D) hb.size (fun j hj => by cases hj; exact hg)
theorem sortK_any (w0 w : World) (B : Nat) (u : Value) (K : List Mk) (hB : w0.heap.size ≤ B) (hown : w.ownsRow B 29 2 u K.length (mkC K)) (hb : Below w0.heap.size w0 w) (hl : K.length ≤ 1000000) :
    Calls Tryd.prog 33 #[u, .func (.func 34) #[] #[]] w fun e w' => e = .returned (.tuple #[]) ∧ MkN w' u (srtM K) ∧ Below w0.heap.size w0 w' := by
  rcases hown.2 with ⟨h1, h2⟩ | ⟨g, cap, cur, h1, hbb, hg, hn, hm, hc, ht⟩
  · have e : K = [] := List.length_eq_zero_iff.1 h2
    subst e; subst h1
    refine (sortMk_none none 0 w).mono ?_
    rintro e w' ⟨rfl, rfl⟩
    exact ⟨rfl, by simpa [srtM] using MkN.nil _, hb⟩
  · subst h1
    obtain ⟨hH, hlt, hBg⟩ := holds_own hown
    refine (sortMk_any g cap K w hH hlt hl).mono ?_
    rintro e w' ⟨rfl, n, os, rfl⟩
    exact ⟨rfl, mkN_sorted hown (srtM_len K) n os, below_sorted hb (by omega) _⟩
set_option maxRecDepth 20000 in
set_option maxHeartbeats 2000000 in
theorem known_any (w : World) (v : Value) (l : List Mk) (hv : MkN w v l) (hU : Unl l) (hs : ∀ x ∈ l, x.1.size ≤ 100) (hl : l.length ≤ 1000000) :
    Calls Tryd.prog 19 #[v] w fun e w' => ∃ v', e = .returned v' ∧ MkN w' v' (kn bl l) ∧ Below w.heap.size w w' := by
  have HV := Lib.hid hv
  have HU := Lib.hid hU
  have HSZ := Lib.hid hs
  obtain ⟨⟨A, c, rfl, h2, h3, h4⟩, h5⟩ := hv
  have HC := Lib.hid h4
  have hc9 : c ≤ 9223372036854775807 := by unfold maxLen at h3; omega
  obtain ⟨n, hn⟩ : ∃ n, n = l.length := ⟨_, rfl⟩
  have HN := Lib.hid hn
  obtain ⟨wE, hwE⟩ : ∃ wE, wE = w.alloc (.map #[] 0) := ⟨_, rfl⟩
  have HWE := Lib.hid hwE.symm
  have HI0 : Hid (KnI w [] (.slice none 0 0) wE) := by
    refine ⟨World.ownsRow_nil _ _ _ _, ?_, by rw [hwE]; exact (Below.refl _ _).alloc (Nat.le_refl _) _, by rw [hwE]; simp⟩
    rw [hwE]
    exact (SetM.made w).congr (fun s => by simp)
  rw [← hn] at h2 hl ⊢
  clear hwE hU hs h3 h4 h5 hn
  have hmm := @run_makeMap Tryd.prog
  go_enter Tryd.func19, Tryd.ntmps19
  go_wp2_with fail
  rw [HWE.out]
  clear hmm
  go_wp2_with fail
  go_loopw [3, 10] (fun u a wr => ∃ j : Nat, j ≤ n ∧ a = .int .i64 j ∧ Hid (KnI w (okTo l j) u wr)) (fun _ a _ => n - (intOf a).toNat)
  case atStart => exact ⟨0, Nat.zero_le _, rfl, HI0⟩
  case round =>
    obtain ⟨j, hj, rfl, HI⟩ := hrel
    by_cases hlt : j < n
    · have hlt' : (j : Int) < (n : Int) := by omega
      have hjl : j < l.length := by rw [← HN.out]; exact hlt
      obtain ⟨b0, off, rfl, hblt, hc⟩ := HC.out (by omega)
      obtain ⟨e1, e2⟩ := hc j hjl
      have y1 := (HI.out.low.cell (p := ⟨b0, off + j * 2, none⟩) hblt).trans e1
      have y2 := (HI.out.low.cell (p := ⟨b0, off + j * 2 + 1, none⟩) hblt).trans e2
      have HNEW := Lib.hid (okTo_new HU.out j hjl)
      have HST := Lib.hid (okTo_step l j hjl)
      have hks := HSZ.out l[j] (List.getElem_mem hjl)
      have hkl := okTo_le l j
      have HOK := Lib.hid (okAt_iff l[j].2 l[j].1)
      have HXE : Hid (l[j] = (l[j].1, l[j].2)) := rfl
      clear hc e1 e2
      generalize l[j].1 = k at *
      generalize l[j].2 = y at *
      rw [HXE.out] at HST
      generalize okTo l j = K at *
      generalize hK1 : okTo l (j + 1) = K1 at *
      have HM := fun W => Lib.hid (moment_any y W)
      rw [HOK.out] at HM
      by_cases hok : okAt (k, y) = true
      · rw [if_pos hok] at HST
        rw [hok] at HM
        have hnew : (K.any fun x => decide (x.1 = k)) = false := by
          rw [List.any_eq_false]
          intro x hx
          simpa using HNEW.out x hx
        clear hok HOK HNEW
        go_wp2_with fail
        refine (HM _).out.mono ?_
        rintro e w1 ⟨rfl, b1⟩
        have HI1 : Hid (KnI w K u3 w1) := (HI.out.alloc _).below b1
        have hlt1 : wr.heap.size < (wr.alloc (.cells #[.string k, .int .i64 y] 29)).heap.size := by simp
        have n0 : w1.heap[wr.heap.size]? = some (.cells #[.string k, .int .i64 y] 29) := (b1.block _ hlt1).trans (heap_alloc_new wr _)
        have hs1 : wr.heap.size < w1.heap.size := (Array.getElem?_eq_some_iff.1 n0).1
        have HN1 := Lib.hid n0
        have HWR := Lib.hid HI.out.size
        have c0 : w1.cell? ⟨wr.heap.size, 0, none⟩ = some (.string k) := by unfold World.cell?; rw [n0]; rfl
        have hkm : k.size ≤ maxLen := by unfold maxLen; omega
        have hlk := HI1.out.set.look k hkm
        rw [hnew] at hlk
        obtain ⟨w2, hup, hS2, hg2⟩ := HI1.out.set.put k hkm (by unfold maxLen; have := HN.out; omega)
        have HS2 : Hid (SetM w2 w.heap.size K1.length (fun s => K1.any fun x => decide (x.1 = s))) := by
          have := hS2.congr (T := fun s => K1.any fun x => decide (x.1 = s)) (fun s => by rw [HST.out]; simp [Bool.or_comm, eq_comm])
          unfold Hid; rw [HST.out] at this ⊢; simpa using this
        have HNI : Hid (some w.heap.size ≠ u3.ownBlock) := by
          unfold Hid
          intro e
          have := (HI1.out.own.lt _ e.symm).1
          omega
        have HO2 : Hid (w2.ownsRow (w.heap.size + 1) 29 2 u3 K.length (mkC K)) := HI1.out.own.kept hg2 (.inr HNI.out.symm)
        have n2 : w2.heap[wr.heap.size]? = some (.cells #[.string k, .int .i64 y] 29) := (hg2.block _ hs1 (by intro e; injection e with e; have := HWR.out; omega)).trans n0
        have d0 : w2.cell? ⟨wr.heap.size, 0, none⟩ = some (.string k) := by unfold World.cell?; rw [n2]; rfl
        have d1 : w2.cell? ⟨wr.heap.size, 1, none⟩ = some (.int .i64 y) := by unfold World.cell?; rw [n2]; rfl
        have hs2 : w.heap.size + 1 ≤ w2.heap.size := Nat.le_trans HI1.out.size hg2.size
        have HL2 : Hid (Below w.heap.size w w2) := HI1.out.low.grown hg2 HI1.out.low.size (fun j e => by cases e; exact Nat.le_refl _)
        have hKl : K.length ≤ 1000000 := Nat.le_trans hkl (by rw [← HN.out]; exact hl)
        clear hnew hS2 hg2 n0 n2 b1 HM hkl
        go_wp2_with (at_builtin; refine wpList_append_mks rfl _ _ _ rfl Tryd.underlying25 (w.heap.size + 1) _ K rfl (HO2.out.alloc _) _ [(k, y)] rfl (new_mk _ _ (k, y) _ (by simp)) (by simp; omega) (by simp; omega) ?_)
        intro v3 w3 ho3 hg3
        have HI3 : Hid (KnI w K1 v3 w3) := by
          have hr3 : ∀ j, u3.ownBlock = some j → w.heap.size + 1 ≤ j := fun j e => (HO2.out.lt j e).1
          refine ⟨by rw [HST.out]; simpa [mkC] using ho3, (HS2.out.alloc _).kept hg3 HNI.out, (HL2.out.alloc HL2.out.size _).grown hg3 (by simp; have := HL2.out.size; omega) (fun j e => by have := hr3 j e; omega), Nat.le_trans hs2 (Nat.le_trans (by simp) hg3.size)⟩
        clear ho3 hg3 HS2 HO2 HL2 hup d0 d1 c0 hlk
        go_wp2
        go_roundw
        case rel => exact ⟨j + 1, by omega, by go_num, by rw [hK1]; exact HI3⟩
        case measure => simp [intOf]; omega
      · have hok' : okAt (k, y) = false := by simpa using hok
        rw [if_neg hok] at HST
        rw [hok'] at HM
        clear hok hok' HOK HNEW
        go_wp2_with fail
        refine (HM _).out.mono ?_
        rintro e w1 ⟨rfl, b1⟩
        have HI1 : Hid (KnI w K u3 w1) := (HI.out.alloc _).below b1
        clear b1
        go_wp2_with fail
        go_roundw
        case rel => exact ⟨j + 1, by omega, by go_num, by rw [hK1, HST.out]; exact HI1⟩
        case measure => simp [intOf]; omega
    · obtain rfl : j = n := by omega
      have HK : Hid (kn bl l = srtM (okTo l j)) := by unfold Hid; rw [HN.out, okTo_all]; rfl
      have HKl : (okTo l j).length ≤ 1000000 := Nat.le_trans (okTo_le l j) (by rw [← HN.out]; exact hl)
      have HSF := Lib.hid (sortK_any w wr (w.heap.size + 1) u3 (okTo l j) (by omega) HI.out.own HI.out.low HKl)
      go_wp2_with fail
      refine HSF.out.mono ?_
      rintro e w2 ⟨rfl, hm2, hb2⟩
      have HM2 := Lib.hid hm2
      have HB2 := Lib.hid hb2
      clear hm2 hb2
      go_wp2_with fail
      go_ret
      exact ⟨_, rfl, by rw [HK.out]; exact HM2.out, HB2.out⟩
end Go.Proofs.YtlikmdmdmljiaaaDoor
