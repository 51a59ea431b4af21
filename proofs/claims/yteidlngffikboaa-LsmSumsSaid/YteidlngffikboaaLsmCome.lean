/- Walk: siloref38.come: a row comes ahead of others. -/
import Derived.Test.YteidlngffikboaaLsmR1
import Derived.Test.YteidlngffikboaaLsmAll
import Derived.Deep.QuietTactic
import Derived.BigQuiet
import Derived.Lib.MinMax
import Derived.Deep.RegionHeld3
import Derived.Test.YteidlngffikboaaLsmCat
namespace Go.Proofs.Yteidlngffikboaa
open Go.RowKit
set_option linter.unusedVariables false
set_option linter.unusedSimpArgs false
/-- what comes out of the rest of a row; d: the key is done -/
def memW (k : ByteArray) (n : Int) : Bool → List Cnt → List Cnt
  | d, [] => if d = false ∧ n ≠ 0 then [(k, n)] else []
  | d, x :: l => if bl x.1 k = true then x :: memW k n d l else if x.1 = k then (if x.2 + n ≠ 0 then (k, x.2 + n) :: memW k n true l else memW k n true l) else if d = false ∧ n ≠ 0 then (k, n) :: x :: memW k n true l else x :: memW k n true l
def memL (l : List Cnt) (k : ByteArray) (n : Int) : List Cnt := memW k n false l
theorem memW_drop (k : ByteArray) (n : Int) (d : Bool) (l : List Cnt) (j : Nat) (h : j < l.length) : memW k n d (l.drop j) = if bl l[j].1 k = true then l[j] :: memW k n d (l.drop (j + 1)) else if l[j].1 = k then (if l[j].2 + n ≠ 0 then (k, l[j].2 + n) :: memW k n true (l.drop (j + 1)) else memW k n true (l.drop (j + 1))) else if d = false ∧ n ≠ 0 then (k, n) :: l[j] :: memW k n true (l.drop (j + 1)) else l[j] :: memW k n true (l.drop (j + 1)) := by
  rw [List.drop_eq_getElem_cons h, memW]
theorem memW_true (k : ByteArray) (n : Int) : ∀ (l : List Cnt), RisC l → (∀ x ∈ l, bl k x.1 = true) → memW k n true l = l
  | [], _, _ => by simp [memW]
  | x :: l, hr, h => by
    have hx := h x (by simp)
    have h1 : ¬ bl x.1 k = true := by rw [bl_asymm hx]; simp
    have h2 : ¬ x.1 = k := fun e => by rw [e, bl_irrefl] at hx; cases hx
    rw [memW, if_neg h1, if_neg h2, if_neg (by simp), memW_true k n l (risC_cons.1 hr).2 (fun z hz => h z (by simp [hz]))]
theorem memL_mem {k : ByteArray} {n : Int} : ∀ {d : Bool} {l : List Cnt} {z : Cnt}, z ∈ memW k n d l → z.1 = k ∨ ∃ y ∈ l, y.1 = z.1
  | d, [], z, h => by
    rw [memW] at h
    split at h
    · simp at h; left; rw [h]
    · simp at h
  | d, x :: l, z, h => by
    rw [memW] at h
    have key : ∀ d', z ∈ memW k n d' l → z.1 = k ∨ ∃ y ∈ x :: l, y.1 = z.1 := fun d' hz => by
      rcases memL_mem hz with h | ⟨y, h1, h2⟩
      · exact .inl h
      · exact .inr ⟨y, by simp [h1], h2⟩
    split at h
    · rcases List.mem_cons.1 h with rfl | h
      · exact .inr ⟨z, by simp, rfl⟩
      · exact key _ h
    · split at h
      · split at h
        · rcases List.mem_cons.1 h with rfl | h
          · exact .inl rfl
          · exact key _ h
        · exact key _ h
      · split at h
        · rcases List.mem_cons.1 h with rfl | h
          · exact .inl rfl
          · rcases List.mem_cons.1 h with rfl | h
            · exact .inr ⟨z, by simp, rfl⟩
            · exact key _ h
        · rcases List.mem_cons.1 h with rfl | h
          · exact .inr ⟨z, by simp, rfl⟩
          · exact key _ h
theorem memL_law (k : ByteArray) (n : Int) : ∀ (l : List Cnt), RisC l → (∀ x ∈ l, x.2 ≠ 0) → RisC (memL l k n) ∧ (∀ x ∈ memL l k n, x.2 ≠ 0) ∧ ∀ q, inL (memL l k n) q = inL l q + if q = k then n else 0
  | [], _, _ => by
    unfold memL
    rw [memW]
    by_cases h0 : n = 0
    · simp [h0, inL, RisC]
    · rw [if_pos ⟨rfl, h0⟩]
      refine ⟨by simp [RisC], by simp [h0], fun q => ?_⟩
      simp only [inL]
      by_cases hq : q = k
      · rw [if_pos hq.symm, if_pos hq]; omega
      · rw [if_neg (fun e => hq e.symm), if_neg hq]; rfl
  | x :: l, hr, hz => by
    obtain ⟨h1, h2⟩ := risC_cons.1 hr
    have hzx := hz x (by simp)
    have hzl : ∀ y ∈ l, y.2 ≠ 0 := fun y hy => hz y (by simp [hy])
    unfold memL
    rw [memW]
    by_cases ha : bl x.1 k = true
    · rw [if_pos ha]
      obtain ⟨i1, i2, i3⟩ := memL_law k n l h2 hzl
      unfold memL at i1 i2 i3
      refine ⟨risC_cons.2 ⟨fun y hy => ?_, i1⟩, fun y hy => ?_, fun q => ?_⟩
      · rcases memL_mem hy with e | ⟨u, u1, u2⟩
        · rw [e]; exact ha
        · rw [← u2]; exact h1 u u1
      · rcases List.mem_cons.1 hy with rfl | hy
        · exact hzx
        · exact i2 y hy
      · simp only [inL]
        by_cases hq : x.1 = q
        · have hqk : ¬ q = k := fun e => by rw [hq, e, bl_irrefl] at ha; cases ha
          rw [if_pos hq, if_pos hq, if_neg hqk]; omega
        · rw [if_neg hq, if_neg hq, i3]
    · rw [if_neg ha]
      by_cases hb : x.1 = k
      · have hlk : ∀ y ∈ l, bl k y.1 = true := fun y hy => by rw [← hb]; exact h1 y hy
        rw [if_pos hb, memW_true k n l h2 hlk]
        by_cases hs : x.2 + n = 0
        · rw [if_neg (by simp [hs])]
          refine ⟨h2, hzl, fun q => ?_⟩
          simp only [inL]
          by_cases hq : q = k
          · rw [if_pos (hb.trans hq.symm), if_pos hq, hq, inL_low hlk]; omega
          · rw [if_neg (fun e => hq (e.symm.trans hb)), if_neg hq]; omega
        · rw [if_pos hs]
          refine ⟨risC_cons.2 ⟨hlk, h2⟩, fun y hy => ?_, fun q => ?_⟩
          · rcases List.mem_cons.1 hy with rfl | hy
            · exact hs
            · exact hzl y hy
          · simp only [inL]
            by_cases hq : q = k
            · rw [if_pos hq.symm, if_pos (hb.trans hq.symm), if_pos hq]
            · rw [if_neg (fun e => hq e.symm), if_neg (fun e => hq (e.symm.trans hb)), if_neg hq]; omega
      · have hk : bl k x.1 = true := by
          cases hc : bl k x.1 with
          | true => rfl
          | false => exact absurd (bl_total (by simpa using ha) hc) hb
        have hlk : ∀ y ∈ l, bl k y.1 = true := fun y hy => bl_trans hk (h1 y hy)
        have hk0 : inL l k = 0 := inL_low hlk
        rw [if_neg hb, memW_true k n l h2 hlk]
        by_cases hn : n = 0
        · rw [if_neg (by simp [hn])]
          refine ⟨hr, hz, fun q => by rw [hn]; simp⟩
        · rw [if_pos ⟨rfl, hn⟩]
          refine ⟨risC_cons.2 ⟨fun y hy => ?_, hr⟩, fun y hy => ?_, fun q => ?_⟩
          · rcases List.mem_cons.1 hy with rfl | hy
            · exact hk
            · exact hlk y hy
          · rcases List.mem_cons.1 hy with rfl | hy
            · exact hn
            · exact hz y hy
          · simp only [inL]
            by_cases hq : q = k
            · rw [if_pos hq.symm, if_pos hq, if_neg (fun e => hb (e.trans hq)), hq, hk0]; omega
            · rw [if_neg (fun e => hq e.symm), if_neg hq]; omega
theorem new_cnt (w : World) (x : Cnt) : CntN (w.alloc (.cells #[.string x.1, .int .i64 x.2] 51)) (.slice (some ⟨w.heap.size, 0, none⟩) 1 1) [x] := by
  refine ⟨⟨_, 1, rfl, Nat.le_refl _, by unfold maxLen; omega, fun _ => ⟨w.heap.size, 0, rfl, by simp, fun i hi => ?_⟩⟩, fun n c e => by cases e⟩
  have : i = 0 := by simpa using hi
  subst this
  have hh : (w.alloc (.cells #[.string x.1, .int .i64 x.2] 51)).heap[w.heap.size]? = some (.cells #[.string x.1, .int .i64 x.2] 51) := by show (w.heap.push _)[w.heap.size]? = _; simp
  constructor <;> (unfold World.cell?; rw [hh]; rfl)
theorem new_cntb (w : World) (x : Cnt) (b : Nat) (hb : b = w.heap.size) : CntN (w.alloc (.cells #[.string x.1, .int .i64 x.2] 51)) (.slice (some ⟨b, 0, none⟩) 1 1) [x] := by
  rw [hb]; exact new_cnt w x
theorem far8 {wr w8 : World} {row : Option Nat} (x : Cnt) {o : Obj} (hg : ((wr.alloc (.cells #[.string x.1, .int .i64 x.2] 51)).alloc o).grownBy w8 row) (hr : ∀ k, row = some k → k < wr.heap.size) :
    w8.cell? ⟨wr.heap.size, 0, none⟩ = some (.string x.1) ∧ w8.cell? ⟨wr.heap.size, 1, none⟩ = some (.int .i64 x.2) ∧ wr.heap.size < w8.heap.size := by
  have hne : some wr.heap.size ≠ row := fun e => Nat.lt_irrefl _ (hr _ e.symm)
  have hlt : wr.heap.size < ((wr.alloc (.cells #[.string x.1, .int .i64 x.2] 51)).alloc o).heap.size := by simp; omega
  have hh : ((wr.alloc (.cells #[.string x.1, .int .i64 x.2] 51)).alloc o).heap[wr.heap.size]? = some (.cells #[.string x.1, .int .i64 x.2] 51) := by
    show ((wr.heap.push _).push _)[wr.heap.size]? = _
    simp [Array.getElem?_push]
  refine ⟨?_, ?_, Nat.lt_of_lt_of_le hlt hg.size⟩
  · unfold World.cell?; rw [hg.block wr.heap.size hlt hne, hh]; rfl
  · unfold World.cell?; rw [hg.block wr.heap.size hlt hne, hh]; rfl
set_option maxRecDepth 20000 in
set_option maxHeartbeats 8000000 in
theorem rmem_any (w : World) (v : Value) (l : List Cnt) (k : ByteArray) (n : Int) (h : CntB w v l) (hr : RisC l) (hz : ∀ x ∈ l, x.2 ≠ 0) (hs : ∀ x ∈ l, -bnd ≤ x.2 ∧ x.2 ≤ bnd) (hn : -1000000000000 ≤ n ∧ n ≤ 1000000000000) (hl : l.length ≤ 1000000) :
    Calls Try.prog 51 #[v, .string k, .int .i64 n] w fun e w' => ∃ v', e = .returned v' ∧ w'.ownsRow w.heap.size 51 2 v' (memL l k n).length (cnC (memL l k n)) ∧ Below w.heap.size w w' := by
  obtain ⟨A, c, rfl, h2, h3, h4⟩ := h
  have hc9 : c ≤ 9223372036854775807 := by unfold maxLen at h3; omega
  have HC := Lib.hid h4
  have HR := Lib.hid hr
  have HZ := Lib.hid hz
  have HS := Lib.hid hs
  obtain ⟨m, hm⟩ : ∃ m, m = l.length := ⟨_, rfl⟩
  have HN := Lib.hid hm
  rw [← hm] at h2 hl
  clear h4 hr hz hs
  rw [← hm]
  clear hm
  obtain ⟨hn1, hn2⟩ := hn
  go_enter Try.func51, Try.ntmps51
  go_wp2_with fail
  go_loopw [7, 8, 9] (fun u d a wr => ∃ (j : Nat) (o : List Cnt) (db : Bool), j ≤ m ∧ a = .int .i64 j ∧ d = .bool db ∧ Hid (wr.ownsRow w.heap.size 51 2 u o.length (cnC o)) ∧ Hid (Below w.heap.size w wr) ∧ Hid (memL l k n = o ++ memW k n db (l.drop j)) ∧ Hid (o.length ≤ 2 * j) ∧ Hid (db = true → ∀ x ∈ l.drop j, bl k x.1 = true)) (fun _ _ a _ => m - (intOf a).toNat)
  case atStart => exact ⟨0, [], false, Nat.zero_le _, rfl, rfl, World.ownsRow_nil _ _ _ _, Below.refl _ _, by unfold Hid memL; rfl, Nat.le_refl _, fun h => by cases h⟩
  case round =>
    obtain ⟨j, o, db, hj, rfl, rfl, HO, HB, HE, HLO, HD⟩ := hrel
    by_cases hlt : j < m
    · have hlt' : (j : Int) < (m : Int) := by omega
      have hjl : j < l.length := by rw [← HN.out]; exact hlt
      obtain ⟨b, off, rfl, hblt, hc⟩ := HC.out (by omega)
      obtain ⟨c1w, c2w⟩ := hc j hjl
      have c1 := (HB.out.cell (p := ⟨b, off + j * 2, none⟩) hblt).trans c1w
      have c2 := (HB.out.cell (p := ⟨b, off + j * 2 + 1, none⟩) hblt).trans c2w
      have hst := memW_drop k n db l j hjl
      have hxz : l[j].2 ≠ 0 := HZ.out _ (List.getElem_mem hjl)
      obtain ⟨hx1, hx2⟩ := HS.out _ (List.getElem_mem hjl)
      have hd1 : l.drop j = l[j] :: l.drop (j + 1) := List.drop_eq_getElem_cons hjl
      have hr2 : RisC (l.drop j) := HR.out.sublist (List.drop_sublist _ _)
      rw [hd1] at hr2
      have HR2 := Lib.hid (risC_cons.1 hr2).1
      have HDj : Hid (db = true → bl k l[j].1 = true) := fun h => HD.out h l[j] (by rw [hd1]; exact List.mem_cons_self)
      have HDt : Hid (db = true → ∀ z ∈ l.drop (j + 1), bl k z.1 = true) := fun h z hz => HD.out h z (by rw [hd1]; exact List.mem_cons_of_mem _ hz)
      unfold bnd at hx1 hx2
      clear hd1 hr2 c1w c2w hc HD HC
      generalize l[j] = x at *
      obtain ⟨xk, xn⟩ := x
      dsimp only at c1 c2 hst hxz hx1 hx2
      have HXZ := Lib.hid hxz
      by_cases hA : bl xk k = true
      · have hdb : db = false := by
          cases db with
          | false => rfl
          | true => have := HDj.out rfl; rw [bl_asymm hA] at this; cases this
        subst hdb
        rw [if_pos hA] at hst
        have hneg : Op.bytesLess xk.toList k.toList = true := by rw [ByteArray.toList_eq, ByteArray.toList_eq]; exact hA
        have hne := str_eq_f (fun e : xk = k => by rw [e, bl_irrefl] at hA; cases hA)
        have hnz : (xn != 0) = true := by simpa using hxz
        have HST := Lib.hid hst
        clear hst hA hxz
        have HUO : Hid (∀ k, u7.ownBlock = some k → w.heap.size ≤ k) := fun k hk => (HO.out.lt k hk).1
        go_wp2_with (at_builtin; refine wpList_append_cnts rfl _ _ _ rfl Try.underlying22 w.heap.size u7 (o) rfl (World.ownsRow.alloc (World.ownsRow.alloc HO.out _) _) _ [(xk, xn)] rfl (new_cntb _ (xk, xn) _ (by simp)) (by have := HLO.out; simp; omega) (by have := HB.out.size; simp; omega) ?_)
        intro u9 w9 ho9 hg9
        have HB9 : Hid (Below w.heap.size w w9) := ((HB.out.alloc HB.out.size _).alloc (HB.out.alloc HB.out.size _).size _).grown hg9 ((HB.out.alloc HB.out.size _).alloc (HB.out.alloc HB.out.size _).size _).size HUO.out
        have HO9 : Hid (w9.ownsRow w.heap.size 51 2 u9 (o ++ [(xk, xn)]).length (cnC (o ++ [(xk, xn)]))) := by unfold Hid; simpa [cnC] using ho9
        have HUO9 : Hid (∀ k, u9.ownBlock = some k → w.heap.size ≤ k) := fun k hk => (HO9.out.lt k hk).1
        clear ho9 hg9
        go_wp2_with fail
        go_roundw
        case rel => exact ⟨j + 1, o ++ [(xk, xn)], false, by omega, by go_num, rfl, HO9, HB9, by unfold Hid; rw [HE.out, HST.out]; simp, by have := HLO.out; unfold Hid; simp; omega, fun h => by cases h⟩
        case measure => simp [intOf]; omega
      · by_cases hB : xk = k
        · obtain rfl := hB
          have hdb : db = false := by
            cases db with
            | false => rfl
            | true => have := HDj.out rfl; rw [bl_irrefl] at this; cases this
          subst hdb
          rw [if_neg hA, if_pos rfl] at hst
          have hneg : Op.bytesLess xk.toList xk.toList = false := by rw [ByteArray.toList_eq]; exact bl_irrefl xk
          have hne := str_eq_t (rfl : xk = xk)
          have hs1 : -2000000000000 ≤ xn + n := by omega
          have hs2 : xn + n ≤ 2000000000000 := by omega
          have HUO : Hid (∀ k, u7.ownBlock = some k → w.heap.size ≤ k) := fun k hk => (HO.out.lt k hk).1
          by_cases hs0 : xn + n = 0
          · rw [if_neg (by simp [hs0])] at hst
            have HST := Lib.hid hst
            clear hst hA hxz HXZ
            have hsb : (xn + n != 0) = false := by simp [hs0]
            have HS0 := Lib.hid hs0
            clear hs0
            go_wp2_with fail
            exact ⟨⟨j + 1, o, true, by omega, by go_num, rfl, World.ownsRow.alloc HO.out _, HB.out.alloc HB.out.size _, by unfold Hid; rw [HE.out, HST.out], by have := HLO.out; unfold Hid; omega, fun _ => HR2.out⟩, by simp [intOf]; omega⟩
          · rw [if_pos hs0] at hst
            have HST := Lib.hid hst
            have hsb : (xn + n != 0) = true := by simpa using hs0
            clear hst hA hxz hs0
            go_wp2_with (at_builtin; refine wpList_append_cnts rfl _ _ _ rfl Try.underlying22 w.heap.size u7 o rfl (World.ownsRow.alloc (World.ownsRow.alloc HO.out _) _) _ [(xk, xn + n)] rfl (new_cntb _ (xk, xn + n) _ (by simp)) (by have := HLO.out; simp; omega) (by have := HB.out.size; simp; omega) ?_)
            intro u9 w9 ho9 hg9
            have HB9 : Hid (Below w.heap.size w w9) := ((HB.out.alloc HB.out.size _).alloc (HB.out.alloc HB.out.size _).size _).grown hg9 ((HB.out.alloc HB.out.size _).alloc (HB.out.alloc HB.out.size _).size _).size HUO.out
            have HO9 : Hid (w9.ownsRow w.heap.size 51 2 u9 (o ++ [(xk, xn + n)]).length (cnC (o ++ [(xk, xn + n)]))) := by unfold Hid; simpa [cnC] using ho9
            clear ho9 hg9
            go_wp2_with fail
            go_roundw
            case rel => exact ⟨j + 1, o ++ [(xk, xn + n)], true, by omega, by go_num, rfl, HO9, HB9, by unfold Hid; rw [HE.out, HST.out]; simp, by have := HLO.out; unfold Hid; simp; omega, fun _ => HR2.out⟩
            case measure => simp [intOf]; omega
        · have hk : bl k xk = true := by
            cases hc : bl k xk with
            | true => rfl
            | false => exact absurd (bl_total (by simpa using hA) hc) hB
          rw [if_neg hA, if_neg hB] at hst
          have hneg : Op.bytesLess xk.toList k.toList = false := by rw [ByteArray.toList_eq, ByteArray.toList_eq]; simpa [bl] using hA
          have hne := str_eq_f hB
          have hnz : (xn != 0) = true := by simpa using hxz
          have HT : Hid (∀ z ∈ l.drop (j + 1), bl k z.1 = true) := fun z hz => bl_trans hk (HR2.out z hz)
          have HUO : Hid (∀ k, u7.ownBlock = some k → w.heap.size ≤ k) := fun k hk => (HO.out.lt k hk).1
          cases db with
          | true =>
            rw [if_neg (by simp)] at hst
            have HST := Lib.hid hst
            clear hst hA hB hxz hk
            go_wp2_with (at_builtin; refine wpList_append_cnts rfl _ _ _ rfl Try.underlying22 w.heap.size u7 (o) rfl (World.ownsRow.alloc (World.ownsRow.alloc HO.out _) _) _ [(xk, xn)] rfl (new_cntb _ (xk, xn) _ (by simp)) (by have := HLO.out; simp; omega) (by have := HB.out.size; simp; omega) ?_)
            intro u9 w9 ho9 hg9
            have HB9 : Hid (Below w.heap.size w w9) := ((HB.out.alloc HB.out.size _).alloc (HB.out.alloc HB.out.size _).size _).grown hg9 ((HB.out.alloc HB.out.size _).alloc (HB.out.alloc HB.out.size _).size _).size HUO.out
            have HO9 : Hid (w9.ownsRow w.heap.size 51 2 u9 (o ++ [(xk, xn)]).length (cnC (o ++ [(xk, xn)]))) := by unfold Hid; simpa [cnC] using ho9
            have HUO9 : Hid (∀ k, u9.ownBlock = some k → w.heap.size ≤ k) := fun k hk => (HO9.out.lt k hk).1
            clear ho9 hg9
            go_wp2_with fail
            go_roundw
            case rel => exact ⟨j + 1, o ++ [(xk, xn)], true, by omega, by go_num, rfl, HO9, HB9, by unfold Hid; rw [HE.out, HST.out]; simp, by have := HLO.out; unfold Hid; simp; omega, fun _ => HT.out⟩
            case measure => simp [intOf]; omega
          | false =>
            by_cases hn0 : n = 0
            · rw [if_neg (by simp [hn0])] at hst
              have HST := Lib.hid hst
              have hnb : (n != 0) = false := by simp [hn0]
              clear hst hA hB hxz hk hn0
              go_wp2_with (at_builtin; refine wpList_append_cnts rfl _ _ _ rfl Try.underlying22 w.heap.size u7 (o) rfl (World.ownsRow.alloc (World.ownsRow.alloc HO.out _) _) _ [(xk, xn)] rfl (new_cntb _ (xk, xn) _ (by simp)) (by have := HLO.out; simp; omega) (by have := HB.out.size; simp; omega) ?_)
              intro u9 w9 ho9 hg9
              have HB9 : Hid (Below w.heap.size w w9) := ((HB.out.alloc HB.out.size _).alloc (HB.out.alloc HB.out.size _).size _).grown hg9 ((HB.out.alloc HB.out.size _).alloc (HB.out.alloc HB.out.size _).size _).size HUO.out
              have HO9 : Hid (w9.ownsRow w.heap.size 51 2 u9 (o ++ [(xk, xn)]).length (cnC (o ++ [(xk, xn)]))) := by unfold Hid; simpa [cnC] using ho9
              have HUO9 : Hid (∀ k, u9.ownBlock = some k → w.heap.size ≤ k) := fun k hk => (HO9.out.lt k hk).1
              clear ho9 hg9
              go_wp2_with fail
              go_roundw
              case rel => exact ⟨j + 1, o ++ [(xk, xn)], true, by omega, by go_num, rfl, HO9, HB9, by unfold Hid; rw [HE.out, HST.out]; simp, by have := HLO.out; unfold Hid; simp; omega, fun _ => HT.out⟩
              case measure => simp [intOf]; omega
            · rw [if_pos ⟨rfl, hn0⟩] at hst
              have HST := Lib.hid hst
              have hnb : (n != 0) = true := by simpa using hn0
              clear hst hA hB hxz hk hn0
              go_wp2_with (at_builtin; refine wpList_append_cnts rfl _ _ _ rfl Try.underlying22 w.heap.size u7 (o) rfl (World.ownsRow.alloc (World.ownsRow.alloc HO.out _) _) _ [(k, n)] rfl (new_cntb _ (k, n) _ (by simp)) (by have := HLO.out; simp; omega) (by have := HB.out.size; simp; omega) ?_)
              intro u8 w8 ho8 hg8
              have HB8 : Hid (Below w.heap.size w w8) := ((HB.out.alloc HB.out.size _).alloc (HB.out.alloc HB.out.size _).size _).grown hg8 ((HB.out.alloc HB.out.size _).alloc (HB.out.alloc HB.out.size _).size _).size HUO.out
              have HO8 : Hid (w8.ownsRow w.heap.size 51 2 u8 (o ++ [(k, n)]).length (cnC (o ++ [(k, n)]))) := by unfold Hid; simpa [cnC] using ho8
              have HUO8 : Hid (∀ k, u8.ownBlock = some k → w.heap.size ≤ k) := fun k hk => (HO8.out.lt k hk).1
              have hrk : ∀ k, u7.ownBlock = some k → k < wr.heap.size := fun k hk => (HO.out.lt k hk).2
              obtain ⟨q1, q2, hbk⟩ := far8 (xk, xn) hg8 hrk
              dsimp only at q1 q2
              clear ho8 hg8 hrk
              go_wp2_with (at_builtin; refine wpList_append_cnts rfl _ _ _ rfl Try.underlying22 w.heap.size u8 (o ++ [(k, n)]) rfl (World.ownsRow.alloc HO8.out _) _ [(xk, xn)] rfl (new_cntb _ (xk, xn) _ (by simp)) (by have := HLO.out; simp; omega) (by have := HB8.out.size; simp; omega) ?_)
              intro u9 w9 ho9 hg9
              have HB9 : Hid (Below w.heap.size w w9) := (HB8.out.alloc HB8.out.size _).grown hg9 (HB8.out.alloc HB8.out.size _).size HUO8.out
              have HO9 : Hid (w9.ownsRow w.heap.size 51 2 u9 (o ++ [(k, n)] ++ [(xk, xn)]).length (cnC (o ++ [(k, n)] ++ [(xk, xn)]))) := by unfold Hid; simpa [cnC] using ho9
              have HUO9 : Hid (∀ k, u9.ownBlock = some k → w.heap.size ≤ k) := fun k hk => (HO9.out.lt k hk).1
              clear ho9 hg9
              go_wp2_with fail
              go_roundw
              case rel => exact ⟨j + 1, o ++ [(k, n)] ++ [(xk, xn)], true, by omega, by go_num, rfl, HO9, HB9, by unfold Hid; rw [HE.out, HST.out]; simp, by have := HLO.out; unfold Hid; simp; omega, fun _ => HT.out⟩
              case measure => simp [intOf]; omega
    · obtain rfl : j = m := by omega
      have hd0 : l.drop j = [] := List.drop_eq_nil_of_le (by rw [HN.out]; exact Nat.le_refl _)
      have hE := HE.out
      rw [hd0, memW] at hE
      have HE2 := Lib.hid hE
      clear HE HD hd0 HC hE
      have HUO : Hid (∀ k, u7.ownBlock = some k → w.heap.size ≤ k) := fun k hk => (HO.out.lt k hk).1
      cases db with
      | true =>
        have HE3 : Hid (memL l k n = o) := by have := HE2.out; rw [if_neg (by simp), List.append_nil] at this; exact this
        clear HE2
        go_wp2_with fail
        go_ret
        refine ⟨_, rfl, ?_, HB.out⟩
        rw [HE3.out]; exact HO.out
      | false =>
        by_cases hn0 : n = 0
        · have HE3 : Hid (memL l k n = o) := by have := HE2.out; rw [if_neg (by simp [hn0]), List.append_nil] at this; exact this
          have hnb : (n != 0) = false := by simp [hn0]
          clear HE2 hn0
          go_wp2_with fail
          go_ret
          refine ⟨_, rfl, ?_, HB.out⟩
          rw [HE3.out]; exact HO.out
        · have HE3 : Hid (memL l k n = o ++ [(k, n)]) := by have := HE2.out; rw [if_pos ⟨rfl, hn0⟩] at this; exact this
          have hnb : (n != 0) = true := by simpa using hn0
          clear HE2 hn0
          go_wp2_with (at_builtin; refine wpList_append_cnts rfl _ _ _ rfl Try.underlying22 w.heap.size u7 (o) rfl (World.ownsRow.alloc HO.out _) _ [(k, n)] rfl (new_cntb _ (k, n) _ (by simp)) (by have := HLO.out; simp; omega) (by have := HB.out.size; simp; omega) ?_)
          intro u9 w9 ho9 hg9
          have HB9 : Hid (Below w.heap.size w w9) := (HB.out.alloc HB.out.size _).grown hg9 (HB.out.alloc HB.out.size _).size HUO.out
          have HO9 : Hid (w9.ownsRow w.heap.size 51 2 u9 (o ++ [(k, n)]).length (cnC (o ++ [(k, n)]))) := by unfold Hid; simpa [cnC] using ho9
          have HUO9 : Hid (∀ k, u9.ownBlock = some k → w.heap.size ≤ k) := fun k hk => (HO9.out.lt k hk).1
          clear ho9 hg9
          go_wp2_with fail
          go_ret
          refine ⟨_, rfl, ?_, HB9.out⟩
          rw [HE3.out]; exact HO9.out
end Go.Proofs.Yteidlngffikboaa

/- Here ends the text LsmMem; here begins LsmMerge. -/
namespace Go.Proofs.Yteidlngffikboaa
open Go.RowKit
set_option linter.unusedVariables false
set_option linter.unusedSimpArgs false
theorem allK_mem (a b : List Cnt) (k : ByteArray) : k ∈ allK a [b] ↔ (∃ x ∈ a, x.1 = k) ∨ ∃ x ∈ b, x.1 = k := by
  unfold allK keysC; simp
theorem merge_tab {a b : List Cnt} (ha : okR a) (hb : okR b) : tabL (rOf (allK a [b])) (fun k => clipV (inL a k + inL b k)) = mergeL a b := by
  rw [rOf_eq]
  obtain ⟨h1, h2⟩ := kOf_spec (allK a [b])
  refine mergeL_tab ha hb h1 fun k => ?_
  rw [h2, allK_mem]
  constructor
  · rintro ⟨h, _⟩; exact h
  · intro h
    refine ⟨h, ?_⟩
    rcases h with ⟨x, hx, rfl⟩ | ⟨x, hx, rfl⟩
    · exact (ha.2 x hx).1
    · exact (hb.2 x hx).1
theorem tabL_take (ks : List ByteArray) (g : ByteArray → Int) (j : Nat) (h : j < ks.length) : tabL (ks.take (j + 1)) g = tabL (ks.take j) g ++ if g ks[j] = 0 then [] else [(ks[j], g ks[j])] := by
  unfold tabL
  rw [List.take_succ_eq_append_getElem h, List.filterMap_append]
  congr 1
  simp only [List.filterMap_cons, List.filterMap_nil]
  split <;> rename_i h' <;> split at h' <;> simp_all
theorem inL_bound {l : List Cnt} (h : okR l) (k : ByteArray) : -bnd ≤ inL l k ∧ inL l k ≤ bnd := by
  by_cases h0 : inL l k = 0
  · rw [h0]; unfold bnd; omega
  · obtain ⟨x, h1, h2, h3⟩ := inL_some h0
    rw [← h3]; exact (h.2 x h1).2.2
theorem new_runs (w : World) (u : Value) (l : List Cnt) (h : CntN w u l) (b : Nat) (hb : b = w.heap.size) : RunsB (w.alloc (.cells #[u] 22)) (.slice (some ⟨b, 0, none⟩) 1 1) [l] := by
  subst hb
  refine ⟨_, 1, rfl, Nat.le_refl _, by unfold maxLen; omega, fun _ => ⟨w.heap.size, 0, rfl, by simp, fun i hi => ?_⟩⟩
  have : i = 0 := by simpa using hi
  subst this
  have hh : (w.alloc (.cells #[u] 22)).heap[w.heap.size]? = some (.cells #[u] 22) := by show (w.heap.push _)[w.heap.size]? = _; simp
  exact ⟨u, by unfold World.cell?; rw [hh]; rfl, h.below ((Below.refl _ _).alloc (Nat.le_refl _) _) (Nat.le_refl _)⟩
theorem own_mono {w : World} {B B' : Nat} {e : TypeId} {k : Nat} {v : Value} {n : Nat} {xs : List Value} (h : w.ownsRow B e k v n xs) (hB : B' ≤ B) : w.ownsRow B' e k v n xs := by
  refine ⟨h.1, ?_⟩
  rcases h.2 with h | ⟨g, cap, cur, hv, hb, r⟩
  · exact .inl h
  · exact .inr ⟨g, cap, cur, hv, Nat.le_trans hB hb, r⟩
set_option maxRecDepth 20000 in
set_option maxHeartbeats 8000000 in
theorem rmerge_any (w : World) (va vb : Value) (a b : List Cnt) (ha : CntB w va a) (hb : CntN w vb b) (oa : okR a) (ob : okR b) (hl : a.length + b.length ≤ 1000000) :
    Calls Try.prog 73 #[va, vb] w fun e w' => ∃ v', e = .returned v' ∧ w'.ownsRow w.heap.size 51 2 v' (mergeL a b).length (cnC (mergeL a b)) ∧ Below w.heap.size w w' := by
  have HB0 : Hid (Below w.heap.size w (w.alloc (.cells #[vb] 22))) := (Below.refl _ _).alloc (Nat.le_refl _) _
  have HALL := Lib.hid (rall_any (w.alloc (.cells #[vb] 22)) va (.slice (some ⟨w.heap.size, 0, none⟩) 1 1) a [b] (ha.below HB0.out (Nat.le_refl _)) (new_runs w vb b hb _ rfl) (by simp [total]; omega) (by simp))
  have HIA : Hid (∀ w', Below w.heap.size w w' → ∀ k, Calls Try.prog 50 #[va, .string k] w' fun e w'' => e = .returned (.int .i64 (inL a k)) ∧ w' = w'') := fun w' h k => rin_any w' va a k (ha.below h (Nat.le_refl _)) (by omega)
  have HIB : Hid (∀ w', Below w.heap.size w w' → ∀ k, Calls Try.prog 50 #[vb, .string k] w' fun e w'' => e = .returned (.int .i64 (inL b k)) ∧ w' = w'') := fun w' h k => rin_any w' vb b k (hb.1.below h (Nat.le_refl _)) (by omega)
  have HLA := Lib.hid (fun k => inL_bound oa k)
  have HLB := Lib.hid (fun k => inL_bound ob k)
  have HMT := Lib.hid (merge_tab oa ob)
  have HKL : Hid ((rOf (allK a [b])).length ≤ 1000000) := by
    unfold Hid
    have h1 := rOf_len (allK a [b])
    have h2 : (allK a [b]).length = a.length + b.length := by unfold allK; rw [List.length_append, keysC_len, flat_len]; simp [total]
    omega
  obtain ⟨A0, c0, rfl, z1⟩ := ha.shape
  obtain ⟨A1, c1, rfl, z2⟩ := hb.1.shape
  clear z1 z2 ha hb oa ob hl
  unfold LsmV at HALL
  go_enter Try.func73, Try.ntmps73
  go_wp2_with fail
  refine HALL.out.mono ?_
  rintro e w1 ⟨v1, rfl, hK, b1⟩
  have HB1 : Hid (Below w.heap.size w w1) := HB0.out.trans (b1.mono HB0.out.size)
  have HK := Lib.hid hK
  obtain ⟨Ak, ck, rfl, m1, m2⟩ := hK.len
  have HKC := Lib.hid hK.cells
  generalize rOf (allK a [b]) = ks at *
  clear b1 hK HALL HB0
  generalize a.length = na at *
  generalize b.length = nb at *
  go_wp2_with fail
  obtain ⟨g, hg⟩ : ∃ g : ByteArray → Int, g = fun k => clipV (inL a k + inL b k) := ⟨_, rfl⟩
  rw [← hg] at HMT
  have HG : Hid (∀ k, g k = clipV (inL a k + inL b k)) := fun k => by rw [hg]
  clear hg
  obtain ⟨n, hn⟩ : ∃ n, n = ks.length := ⟨_, rfl⟩
  have HN := Lib.hid hn
  rw [← hn] at m1 HKL HK
  have hn1 : n ≤ 1000000 := HKL.out
  clear hn HKL
  go_loopw [5, 7] (fun u a wr => ∃ j : Nat, j ≤ n ∧ a = .int .i64 j ∧ Hid (wr.ownsRow w1.heap.size 51 2 u (tabL (ks.take j) g).length (cnC (tabL (ks.take j) g))) ∧ Hid (Below w1.heap.size w1 wr)) (fun _ a _ => n - (intOf a).toNat)
  case atStart => exact ⟨0, Nat.zero_le _, rfl, World.ownsRow_nil _ _ _ _, Below.refl _ _⟩
  case round =>
    obtain ⟨j, hj, rfl, HO, HW⟩ := hrel
    have HBW : Hid (Below w.heap.size w wr) := HB1.out.trans (HW.out.mono HB1.out.size)
    by_cases hlt : j < n
    · have hlt' : (j : Int) < (n : Int) := by omega
      have hjl : j < ks.length := by rw [← HN.out]; exact hlt
      obtain ⟨b0, off, rfl, hblt, hc⟩ := HKC.out (by omega)
      have e1 := (HW.out.cell (p := ⟨b0, off + j, none⟩) hblt).trans (hc j hjl)
      have HT := Lib.hid (tabL_take ks g j hjl)
      have hlen : (tabL (ks.take j) g).length ≤ 1000000 := Nat.le_trans (tabL_len _ _) (by rw [List.length_take]; omega)
      have HLEN := Lib.hid hlen
      clear hc hlen
      generalize ks[j] = k at *
      have hgk := HG.out k
      obtain ⟨la1, la2⟩ := HLA.out k
      obtain ⟨lb1, lb2⟩ := HLB.out k
      have HWA : Hid (∀ m, Calls Try.prog 50 #[.slice A0 na c0, .string k] (wr.drewN m) fun e w'' => e = .returned (.int .i64 (inL a k)) ∧ wr.drewN m = w'') := fun m => HIA.out _ (HBW.out.trans ((below_drewN _ m).mono HBW.out.size)) k
      have HWB : Hid (∀ m, Calls Try.prog 50 #[.slice A1 nb c1, .string k] (wr.drewN m) fun e w'' => e = .returned (.int .i64 (inL b k)) ∧ wr.drewN m = w'') := fun m => HIB.out _ (HBW.out.trans ((below_drewN _ m).mono HBW.out.size)) k
      unfold clipV bnd at hgk
      unfold bnd at la1 la2 lb1 lb2
      generalize inL a k = p at *
      generalize inL b k = q at *
      generalize g k = z at *
      have HZ := Lib.hid hgk
      clear hgk
      have HWA1 : Hid (Calls Try.prog 50 #[.slice A0 na c0, .string k] wr.drew fun e w'' => e = .returned (.int .i64 p) ∧ wr.drew = w'') := HWA.out 1
      have HWB1 : Hid (Calls Try.prog 50 #[.slice A1 nb c1, .string k] wr.drew fun e w'' => e = .returned (.int .i64 q) ∧ wr.drew = w'') := HWB.out 1
      have HM1 : Hid (min (p + q) 1000000000 = if 1000000000 < p + q then 1000000000 else p + q) := by unfold Hid; split <;> omega
      go_wp2_with fail
      refine wp_region_noPanic ?_
      refine wp_region_held_drew (S := fun w' => w' = wr.drew) (by kernel_rfl) rfl (fun hHeld => ?_)
      have e2 : wr.drew.cell? ⟨b0, off + j, none⟩ = some (.string k) := e1
      refine' wpAnyH_take (i := 0) (v := ?v1) rfl (by kernel_rfl) (by kernel_rfl) (by kernel_rfl) (fun _ _ _ h => h) (Or.inl ⟨by kernel_rfl, ?hy1⟩) (by assumption) ?rest1
      case hy1 => (intro w hSw; (try dsimp only at hSw); go_simp; try with_reducible rfl)
      try simp only [Act.put, List.setIfInBounds_toArray, List.set_cons_zero, List.set_cons_succ]
      refine' wpAnyH_take (i := 1) (v := ?v2) rfl (by kernel_rfl) (by kernel_rfl) (by kernel_rfl) (fun _ _ _ h => h) (Or.inl ⟨by kernel_rfl, ?hy2⟩) (by assumption) ?rest2
      case hy2 => (intro w hSw; (try dsimp only at hSw); go_simp; try with_reducible rfl)
      try simp only [Act.put, List.setIfInBounds_toArray, List.set_cons_zero, List.set_cons_succ]
      refine' wpAnyH_take (i := 2) (v := ?v3) rfl (by kernel_rfl) (by kernel_rfl) (by kernel_rfl) (fun _ _ _ h => h) (Or.inl ⟨by kernel_rfl, ?hy3⟩) (by assumption) ?rest3
      case hy3 => (intro w hSw; (try dsimp only at hSw); go_simp; try with_reducible rfl)
      try simp only [Act.put, List.setIfInBounds_toArray, List.set_cons_zero, List.set_cons_succ]
      refine' wpAnyH_take (i := 6) (v := ?v4) rfl (by kernel_rfl) (by kernel_rfl) (by kernel_rfl) (fun _ _ _ h => h) (Or.inl ⟨by kernel_rfl, ?hy4⟩) (by assumption) ?rest4
      case hy4 => (intro w hSw; (try dsimp only at hSw); go_simp; try with_reducible rfl)
      try simp only [Act.put, List.setIfInBounds_toArray, List.set_cons_zero, List.set_cons_succ]
      refine' wpAnyH_take (i := 7) (v := ?v5) rfl (by kernel_rfl) (by kernel_rfl) (by kernel_rfl) (fun _ _ _ h => h) (Or.inl ⟨by kernel_rfl, ?hy5⟩) (by assumption) ?rest5
      case hy5 => (intro w hSw; (try dsimp only at hSw); go_simp; try with_reducible rfl)
      try simp only [Act.put, List.setIfInBounds_toArray, List.set_cons_zero, List.set_cons_succ]
      refine' wpAnyH_take (i := 8) (v := ?v6) rfl (by kernel_rfl) (by kernel_rfl) (by kernel_rfl) (fun _ _ _ h => h) (Or.inl ⟨by kernel_rfl, ?hy6⟩) (by assumption) ?rest6
      case hy6 => (intro w hSw; (try dsimp only at hSw); go_simp; try with_reducible rfl)
      try simp only [Act.put, List.setIfInBounds_toArray, List.set_cons_zero, List.set_cons_succ]
      refine' wpAnyH_take (i := 3) (v := ?v7) rfl (by kernel_rfl) (by kernel_rfl) (by kernel_rfl) (fun _ _ _ h => h) (Or.inl ⟨by kernel_rfl, ?hy7⟩) (by assumption) ?rest7
      case hy7 => (intro w hSw; (try dsimp only at hSw); go_simp; try with_reducible rfl)
      try simp only [Act.put, List.setIfInBounds_toArray, List.set_cons_zero, List.set_cons_succ]
      refine' wpAnyH_take (i := 9) (v := ?v8) rfl (by kernel_rfl) (by kernel_rfl) (by kernel_rfl) (fun _ _ _ h => h) (Or.inl ⟨by kernel_rfl, ?hy8⟩) (by assumption) ?rest8
      case hy8 => (intro w hSw; (try dsimp only at hSw); go_simp; try with_reducible rfl)
      try simp only [Act.put, List.setIfInBounds_toArray, List.set_cons_zero, List.set_cons_succ]
      refine wpAnyH_take (i := 4) (v := (.string k)) rfl (by kernel_rfl) (by kernel_rfl) (by kernel_rfl) (fun _ _ _ h => h) (Or.inl ⟨by kernel_rfl, ?_⟩) hHeld ?_
      · intro w hSw
        have hh := (hSw ▸ e2)
        go_simp
      try simp only [Act.put, List.setIfInBounds_toArray, List.set_cons_zero, List.set_cons_succ]
      refine wpAnyH_take (i := 10) (v := (.string k)) rfl (by kernel_rfl) (by kernel_rfl) (by kernel_rfl) (fun _ _ _ h => h) (Or.inl ⟨by kernel_rfl, ?_⟩) hHeld ?_
      · intro w hSw
        have hh := (hSw ▸ e2)
        go_simp
      try simp only [Act.put, List.setIfInBounds_toArray, List.set_cons_zero, List.set_cons_succ]
      refine wpAnyH_ready (rs := [5]) (by kernel_rfl) (by simp) ?_
      refine AllReadyH.cons rfl (fun K hK => ?_) AllReadyH.nil
      go_simp
      go_at_call 50
      refine HWA1.out.mono ?_
      rintro er w' ⟨rfl, rfl⟩
      go_wp2_with fail
      refine hK.out _ _ rfl (fun hHeld => ?_)
      clear hK K
      try simp only [Act.put, List.setIfInBounds_toArray, List.set_cons_zero, List.set_cons_succ]
      refine wpAnyH_ready (rs := [11]) (by kernel_rfl) (by simp) ?_
      refine AllReadyH.cons rfl (fun K hK => ?_) AllReadyH.nil
      go_simp
      go_at_call 50
      refine HWB1.out.mono ?_
      rintro er w' ⟨rfl, rfl⟩
      go_wp2_with fail
      refine hK.out _ _ rfl (fun hHeld => ?_)
      clear hK K
      try simp only [Act.put, List.setIfInBounds_toArray, List.set_cons_zero, List.set_cons_succ]
      refine wpAnyH_take (i := 12) (v := .int .i64 (p + q)) rfl (by kernel_rfl) (by kernel_rfl) (by kernel_rfl) (fun _ _ _ h => h) (Or.inl ⟨by kernel_rfl, ?_⟩) hHeld ?_
      · intro w hSw
        go_simp
        first | done | ((try rw [Int.tdiv_eq_ediv_of_nonneg (by omega)]); (try rw [Int.tmod_eq_emod_of_nonneg (by omega)]); (try rw [IntKind.wrap_i64]); (try omega))
      try simp only [Act.put, List.setIfInBounds_toArray, List.set_cons_zero, List.set_cons_succ]
      refine wpAnyH_take (i := 13) (v := .int .i64 (min (p + q) 1000000000)) rfl (by kernel_rfl) (by kernel_rfl) (by kernel_rfl) (fun _ _ _ h => h) (Or.inl ⟨by kernel_rfl, ?_⟩) hHeld ?_
      · intro w hSw
        go_simp
      try simp only [Act.put, List.setIfInBounds_toArray, List.set_cons_zero, List.set_cons_succ]
      refine wpAnyH_take (i := 14) (v := .int .i64 z) rfl (by kernel_rfl) (by kernel_rfl) (by kernel_rfl) (fun _ _ _ h => h) (Or.inl ⟨by kernel_rfl, ?_⟩) hHeld ?_
      · intro w hSw
        have hz := HZ.out
        rw [Int.max_comm] at hz
        go_simp
        all_goals (first | exact hz.symm | omega)
      refine wpAnyH_take (i := 15) (v := .int .i64 z) rfl (by kernel_rfl) (by kernel_rfl) (by kernel_rfl) (fun _ _ _ h => h) (Or.inl ⟨by kernel_rfl, ?_⟩) hHeld ?_
      · intro w hSw
        go_simp
      refine wpAnyH_done (by kernel_rfl) ?_ _
      refine NoPanic.normal ?_
      have hsz := HW.out.size
      by_cases hz0 : z = 0
      · have hzt : (z != 0) = false := by simp [hz0]
        have HZ0 := Lib.hid hz0
        clear hz0
        go_wp2_with fail
        go_roundw
        case rel => exact ⟨j + 1, by omega, by go_num, by rw [HT.out, if_pos HZ0.out, List.append_nil]; exact HO.out, HW.out.trans ((below_drewN _ 1).mono HW.out.size)⟩
        case measure => simp [intOf]; omega
      · have hzt : (z != 0) = true := by simp [hz0]
        have HZ0 := Lib.hid hz0
        clear hz0
        have HT1 : Hid (tabL (ks.take (j + 1)) g = tabL (ks.take j) g ++ [(k, z)]) := by rw [HT.out, if_neg HZ0.out]; rfl
        have HOd : Hid (wr.drew.ownsRow w1.heap.size 51 2 u5 (tabL (ks.take j) g).length (cnC (tabL (ks.take j) g))) := Lib.hid (owns_drewN 1 HO.out)
        have HWd : Hid (Below w1.heap.size w1 wr.drew) := Lib.hid (HW.out.trans ((below_drewN _ 1).mono HW.out.size))
        have HUO : Hid (∀ k, u5.ownBlock = some k → w1.heap.size ≤ k) := fun k hk => (HO.out.lt k hk).1
        generalize tabL (ks.take j) g = o at *
        clear HO HW HBW
        generalize wr.drew = wd at *
        go_wp2_with (at_builtin; refine wpList_append_cnts rfl _ _ _ rfl Try.underlying22 w1.heap.size u5 o rfl (World.ownsRow.alloc HOd.out _) _ [(k, z)] rfl (new_cntb _ (k, z) _ (by simp)) (by have := HLEN.out; simp; omega) (by have := HWd.out.size; simp; omega) ?_)
        intro u9 w9 ho9 hg9
        have HB9 : Hid (Below w1.heap.size w1 w9) := (HWd.out.alloc HWd.out.size _).grown hg9 (HWd.out.alloc HWd.out.size _).size HUO.out
        have HO9 : Hid (w9.ownsRow w1.heap.size 51 2 u9 (o ++ [(k, z)]).length (cnC (o ++ [(k, z)]))) := by unfold Hid; simpa [cnC] using ho9
        clear ho9 hg9
        go_wp2_with fail
        go_roundw
        case rel => exact ⟨j + 1, by omega, by go_num, by rw [HT1.out]; exact HO9.out, HB9.out⟩
        case measure => simp [intOf]; omega
    · obtain rfl : j = n := by omega
      have hge : ks.length ≤ j := by rw [← HN.out]; exact Nat.le_refl _
      have HE : Hid (tabL (ks.take j) g = mergeL a b) := by unfold Hid; rw [HN.out, List.take_length]; exact HMT.out
      go_wp2_with fail
      go_ret
      refine ⟨_, rfl, ?_, HB1.out.trans (HW.out.mono HB1.out.size)⟩
      rw [← HE.out]
      exact own_mono HO.out HB1.out.size
end Go.Proofs.Yteidlngffikboaa

/- Here ends the text LsmMerge; here begins LsmCome. -/
namespace Go.Proofs.Yteidlngffikboaa
open Go.RowKit
set_option linter.unusedVariables false
set_option linter.unusedSimpArgs false
def lenOf : Value → Nat
  | .slice _ n _ => n
  | _ => 0
set_option maxRecDepth 20000 in
set_option maxHeartbeats 8000000 in
theorem rcome_any (w : World) (vr v : Value) (rs : List (List Cnt)) (r : List Cnt) (hr : RunsN w vr rs) (hv : CntN w v r) (ok : ∀ x ∈ r :: rs, okR x) (hl : r.length + total rs ≤ 1000000) (hn : rs.length ≤ 1000) :
    Calls Try.prog 52 #[vr, v] w fun e w' => ∃ v', e = .returned v' ∧ RunsN w' v' (comeP rs r) ∧ Below w.heap.size w w' := by
  have HR := Lib.hid hr
  have HV := Lib.hid hv
  obtain ⟨Ar, cr, rfl, h1, h2⟩ := hr.shape
  obtain ⟨A, c, rfl, _⟩ := hv.1.shape
  have hcr : cr ≤ 9223372036854775807 := by unfold maxLen at h2; omega
  clear hr hv
  rcases r with _ | ⟨x, r⟩
  · have HE : Hid (comeP rs [] = rs) := by unfold Hid comeP; simp
    go_enter Try.func52, Try.ntmps52
    go_wp2_with fail
    go_ret
    rw [HE.out]
    exact ⟨_, rfl, HR.out, Below.refl _ _⟩
  · have HE : Hid (comeP rs (x :: r) = comeL ((x :: r) :: rs)) := by unfold Hid comeP; simp
    have HOK := Lib.hid ok
    have HL := Lib.hid hl
    have hq : 1 ≤ (x :: r).length := by simp
    clear ok hl
    generalize x :: r = q at *
    have hz : ((q.length : Int) == 0) = false := by rw [beq_eq_false_iff_ne]; omega
    have hz2 : (q.length == 0) = false := by rw [beq_eq_false_iff_ne]; omega
    obtain ⟨us, hu1, hu2⟩ := HR.out.vals
    have HU1 := Lib.hid hu1
    have HU2 := Lib.hid hu2
    clear hu1 hu2
    go_enter Try.func52, Try.ntmps52
    go_wp2_with (at_builtin; refine wpList_append_rows rfl _ _ _ rfl Try.underlying23 w.heap.size _ [_] rfl (owns_one _) _ us rfl (HU1.out.below ((Below.refl _ _).alloc (Nat.le_refl _) _) (Nat.le_refl _)) (by have := HU2.out.len; simp; omega) (by simp) ?_)
    intro u9 w9 ho9 hg9
    obtain ⟨hR9, hB9⟩ := runs_ahead HV.out HU2.out ho9 hg9
    have HR9 := Lib.hid hR9
    have HB9 := Lib.hid hB9
    clear hR9 hB9 ho9 hg9 HU1 HU2 HR HV
    go_wp2_with fail
    go_loopw [5] (fun o wr => ∃ l : List (List Cnt), Hid (RunsN wr o l) ∧ Hid (comeP rs q = comeL l) ∧ Hid (∀ x ∈ l, okR x) ∧ Hid (total l ≤ 1000000) ∧ Hid (l.length ≤ 1001) ∧ Hid (Below w.heap.size w wr)) (fun o _ => lenOf o)
    case atStart => exact ⟨q :: rs, HR9, HE, HOK, by have := HL.out; unfold Hid total at *; simpa using this, by unfold Hid; simp; omega, HB9⟩
    case round =>
      obtain ⟨l, HRl, HEl, HOl, HTl, HNl, HBl⟩ := hrel
      rcases l with _ | ⟨x, _ | ⟨y, rest⟩⟩
      · obtain ⟨Al, cl, rfl, g1, g2⟩ := HRl.out.shape
        have HE2 : Hid (comeP rs q = []) := by unfold Hid; rw [HEl.out, comeL]
        go_wp2_with fail
        go_quiet (fail)
        go_wp2_with fail
        go_ret
        rw [HE2.out]
        exact ⟨_, rfl, HRl.out, HBl.out.trans ((below_drewN _ _).mono HBl.out.size)⟩
      · have HE2 : Hid (comeP rs q = [x]) := by unfold Hid; rw [HEl.out, comeL]
        obtain ⟨Al, cl, rfl, g1, g2⟩ := HRl.out.shape
        go_wp2_with fail
        go_quiet (fail)
        go_wp2_with fail
        go_ret
        rw [HE2.out]
        exact ⟨_, rfl, HRl.out, HBl.out.trans ((below_drewN _ _).mono HBl.out.size)⟩
      · obtain ⟨b, off, cl, u, rfl, g1, g2, g3, e0, k0, T1⟩ := HRl.out.cons
        obtain ⟨b', off', cl', u2, hu, g4, g5, g6, e1, k1, T2⟩ := T1.cons
        cases hu
        obtain ⟨n, hn⟩ : ∃ n, n = rest.length := ⟨_, rfl⟩
        have HNn := Lib.hid hn
        simp only [List.length_cons] at HRl T1
        rw [← hn] at HRl T1 T2 g4
        simp only [List.length_cons] at g1
        rw [← hn] at g1
        simp only [List.length_cons]
        rw [← hn]
        clear hn
        have hlx : x.length ≤ 1000000 := by have := HTl.out; simp [total] at this; omega
        have hly : y.length ≤ 1000000 := by have := HTl.out; simp [total] at this; omega
        have hd1 : decide ((1 : Int) < (n : Int) + 1 + 1) = true := by rw [decide_eq_true_iff]; omega
        have hp0 : (0 : Int) < (n : Int) + 1 + 1 := by omega
        have hp1 : (1 : Int) < (n : Int) + 1 + 1 := by omega
        have hcl : cl ≤ 9223372036854775807 := by unfold maxLen at g2; omega
        have hcne : ¬ cl = 1 := by omega
        have K0 := Lib.hid k0
        have K1 := Lib.hid k1
        have HT1 := Lib.hid T1
        have HT2 := Lib.hid T2
        obtain ⟨Ax, cx, rfl, z1⟩ := k0.1.shape
        obtain ⟨Ay, cy, rfl, z2⟩ := k1.1.shape
        clear z1 z2
        have HNE : Hid (n + 1 ≤ cl - 1) := g4
        clear k0 k1 T1 T2 g2 g4 g5 g6
        by_cases ht : y.length ≤ 2 * x.length
        · have hd2 : decide ((y.length : Int) ≤ 2 * (x.length : Int)) = true := by rw [decide_eq_true_iff]; omega
          have hd3 : decide (y.length ≤ 2 * x.length) = true := by rw [decide_eq_true_iff]; omega
          have HE3 : Hid (comeP rs q = if mergeL x y = [] then comeL rest else comeL (mergeL x y :: rest)) := by unfold Hid; rw [HEl.out, comeL, if_pos ht]
          have HML := Lib.hid (mergeL_len x y)
          have HMO := Lib.hid (mergeL_ok (HOl.out x (by simp)) (HOl.out y (by simp)))
          have HTT : Hid (x.length + y.length + total rest ≤ 1000000) := by have := HTl.out; unfold Hid total at *; simp at this; omega
          have HOO : Hid (∀ z ∈ rest, okR z) := fun z hz => HOl.out z (by simp [hz])
          have HNN : Hid (n + 2 ≤ 1001) := by have := HNl.out; rw [HNn.out]; unfold Hid; simpa using this
          have HMC : Hid (∀ w', Below wr.heap.size wr w' → Calls Try.prog 73 #[.slice Ax x.length cx, .slice Ay y.length cy] w' fun e w'' => ∃ v', e = .returned v' ∧ w''.ownsRow w'.heap.size 51 2 v' (mergeL x y).length (cnC (mergeL x y)) ∧ Below w'.heap.size w' w'') := fun w' hb => rmerge_any w' _ _ x y (K0.out.1.below hb (Nat.le_refl _)) (K1.out.below hb (Nat.le_refl _)) (HOl.out x (by simp)) (HOl.out y (by simp)) (by have := HTT.out; omega)
          clear ht HEl HTl HOl HNl
          generalize mergeL x y = m at *
          generalize x.length = lx at *
          generalize y.length = ly at *
          go_wp2_with fail
          go_quiet (fail)
          rename_i nq
          have HBq : Hid (Below wr.heap.size wr (wr.drewN nq).drew) := ((below_drewN wr nq).drew)
          have HBw : Hid (Below w.heap.size w (wr.drewN nq).drew) := HBl.out.trans (HBq.out.mono HBl.out.size)
          have HMC1 := Lib.hid (HMC.out _ HBq.out)
          have f0 : (wr.drewN nq).drew.cell? ⟨b, off, none⟩ = some (.slice Ax lx cx) := e0
          have f1 : (wr.drewN nq).drew.cell? ⟨b, off + 1, none⟩ = some (.slice Ay ly cy) := e1
          have hg3 : b < (wr.drewN nq).drew.heap.size := g3
          have HT1q : Hid (RunsN (wr.drewN nq).drew (.slice (some ⟨b, off + 1, none⟩) (n + 1) (cl - 1)) (y :: rest)) := HT1.out.below HBq.out (Nat.le_refl _)
          have HT2q : Hid (RunsN (wr.drewN nq).drew (.slice (some ⟨b, off + 1 + 1, none⟩) n (cl - 1 - 1)) rest) := HT2.out.below HBq.out (Nat.le_refl _)
          have hd4 : (n : Int) + 1 + 1 = (n : Int) + 2 := by omega
          clear hd4
          go_wp2_with fail
          refine wp_region_noPanic ?_
          refine wp_region_held_drew (S := fun w' => Below (wr.drewN nq).drew.heap.size (wr.drewN nq).drew w') (by kernel_rfl) (Below.refl _ _) (fun hHeld => ?_)
          clear HBq HMC HT1 HT2 HRl e0 e1 g3 HBl K0 K1
          generalize (wr.drewN nq).drew = wq at *
          refine' wpAnyH_take (i := 0) (v := ?v1) rfl (by kernel_rfl) (by kernel_rfl) (by kernel_rfl) (fun _ _ _ h => h) (Or.inl ⟨by kernel_rfl, ?hy1⟩) (by assumption) ?rest1
          case hy1 => (intro w hSw; (try dsimp only at hSw); go_simp; try with_reducible rfl)
          try simp only [Act.put, List.setIfInBounds_toArray, List.set_cons_zero, List.set_cons_succ]
          refine' wpAnyH_take (i := 3) (v := ?v2) rfl (by kernel_rfl) (by kernel_rfl) (by kernel_rfl) (fun _ _ _ h => h) (Or.inl ⟨by kernel_rfl, ?hy2⟩) (by assumption) ?rest2
          case hy2 => (intro w hSw; (try dsimp only at hSw); go_simp; try with_reducible rfl)
          try simp only [Act.put, List.setIfInBounds_toArray, List.set_cons_zero, List.set_cons_succ]
          refine' wpAnyH_take (i := 1) (v := ?v3) rfl (by kernel_rfl) (by kernel_rfl) (by kernel_rfl) (fun _ _ _ h => h) (Or.inl ⟨by kernel_rfl, ?hy3⟩) (by assumption) ?rest3
          case hy3 => (intro w hSw; (try dsimp only at hSw); go_simp; try with_reducible rfl)
          try simp only [Act.put, List.setIfInBounds_toArray, List.set_cons_zero, List.set_cons_succ]
          refine' wpAnyH_take (i := 4) (v := ?v4) rfl (by kernel_rfl) (by kernel_rfl) (by kernel_rfl) (fun _ _ _ h => h) (Or.inl ⟨by kernel_rfl, ?hy4⟩) (by assumption) ?rest4
          case hy4 => (intro w hSw; (try dsimp only at hSw); go_simp; try with_reducible rfl)
          try simp only [Act.put, List.setIfInBounds_toArray, List.set_cons_zero, List.set_cons_succ]
          refine wpAnyH_take (i := 2) (v := (.slice Ax lx cx)) rfl (by kernel_rfl) (by kernel_rfl) (by kernel_rfl) (fun _ _ _ h => h) (Or.inl ⟨by kernel_rfl, ?_⟩) hHeld ?_
          · intro w hSw
            have hh := ((hSw.cell (p := ⟨b, off, none⟩) hg3).trans f0)
            go_simp
          try simp only [Act.put, List.setIfInBounds_toArray, List.set_cons_zero, List.set_cons_succ]
          refine wpAnyH_take (i := 5) (v := (.slice Ay ly cy)) rfl (by kernel_rfl) (by kernel_rfl) (by kernel_rfl) (fun _ _ _ h => h) (Or.inl ⟨by kernel_rfl, ?_⟩) hHeld ?_
          · intro w hSw
            have hh := ((hSw.cell (p := ⟨b, off + 1, none⟩) hg3).trans f1)
            go_simp
          try simp only [Act.put, List.setIfInBounds_toArray, List.set_cons_zero, List.set_cons_succ]
          refine wpAnyH_ready (rs := [6]) (by kernel_rfl) (by simp) ?_
          refine AllReadyH.cons rfl (fun K hK => ?_) AllReadyH.nil
          go_simp
          go_at_call 73
          refine HMC1.out.mono ?_
          rintro er w2 ⟨vm, rfl, om, bm⟩
          have HOM := Lib.hid om
          have HBM := Lib.hid bm
          obtain ⟨Am, cm, rfl, z3⟩ := (CntB.of_owns om).shape
          clear z3
          clear om bm
          go_wp2_with fail
          refine hK.out _ _ HBM.out (fun hHeld => ?_)
          clear hK K hHeld
          try simp only [Act.put, List.setIfInBounds_toArray, List.set_cons_zero, List.set_cons_succ]
          refine wpAnyH_take (i := 7) (v := .slice Am m.length cm) rfl (by kernel_rfl) (by kernel_rfl) (by kernel_rfl) (fun _ _ _ h => h) (Or.inl ⟨by kernel_rfl, ?_⟩) (by assumption) ?_
          · intro w hSw
            go_simp
          refine wpAnyH_done (by kernel_rfl) ?_ _
          refine NoPanic.normal ?_
          have HT1m : Hid (RunsN w2 (.slice (some ⟨b, off + 1, none⟩) (n + 1) (cl - 1)) (y :: rest)) := HT1q.out.below HBM.out (Nat.le_refl _)
          have HT2m : Hid (RunsN w2 (.slice (some ⟨b, off + 1 + 1, none⟩) n (cl - 1 - 1)) rest) := HT2q.out.below HBM.out (Nat.le_refl _)
          have HB2 : Hid (Below w.heap.size w w2) := HBw.out.trans (HBM.out.mono HBw.out.size)
          have HCM : Hid (CntN w2 (.slice Am m.length cm) m) := CntN.of_owns HOM.out
          clear HT1q HT2q HBw HBM HOM HMC1 f0 f1 hg3
          by_cases hm0 : m = []
          · have HM0 := Lib.hid hm0
            subst hm0
            by_cases hlc : cl - 1 = 1
            · have HT3 : Hid (RunsN w2 (.slice (some ⟨b, off + 1, none⟩) n 0) rest) := by
                have hn0 : n = 0 := by have := HNE.out; omega
                have hr0 : rest = [] := List.length_eq_zero_iff.1 (by rw [← HNn.out]; exact hn0)
                rw [hn0, hr0]
                exact RunsN.tail0 rfl
              clear HT1m HT2m
              go_wp2_with fail
              go_roundw
              case rel => exact ⟨rest, HT3, by unfold Hid; rw [HE3.out, if_pos HM0.out], HOO, by have := HTT.out; unfold Hid; omega, by have := HNN.out; rw [HNn.out] at this; unfold Hid; omega, HB2⟩
              case measure => simp [lenOf]; try omega
            · have HT3 := HT2m
              clear HT1m HT2m
              go_wp2_with fail
              go_roundw
              case rel => exact ⟨rest, HT3, by unfold Hid; rw [HE3.out, if_pos HM0.out], HOO, by have := HTT.out; unfold Hid; omega, by have := HNN.out; rw [HNn.out] at this; unfold Hid; omega, HB2⟩
              case measure => simp [lenOf]; try omega
          · have HM0 := Lib.hid hm0
            have hml : 1 ≤ m.length := by
              rcases m with _ | ⟨z, m⟩
              · exact absurd rfl hm0
              · simp
            have hmz : ((m.length : Int) == 0) = false := by rw [beq_eq_false_iff_ne]; omega
            have hmz2 : (m.length == 0) = false := by rw [beq_eq_false_iff_ne]; omega
            clear hm0
            by_cases hlc : cl - 1 = 1
            · have HT3 : Hid (RunsN w2 (.slice (some ⟨b, off + 1, none⟩) n 0) rest) := by
                have hn0 : n = 0 := by have := HNE.out; omega
                have hr0 : rest = [] := List.length_eq_zero_iff.1 (by rw [← HNn.out]; exact hn0)
                rw [hn0, hr0]
                exact RunsN.tail0 rfl
              clear HT1m HT2m
              obtain ⟨us, hu1, hu2⟩ := HT3.out.vals
              have HU1 := Lib.hid hu1
              have HU2 := Lib.hid hu2
              clear hu1 hu2
              go_wp2_with (at_builtin; refine wpList_append_rows rfl _ _ _ rfl Try.underlying23 w2.heap.size _ [_] rfl (owns_one _) _ us rfl (HU1.out.below ((Below.refl _ _).alloc (Nat.le_refl _) _) (Nat.le_refl _)) (by have := HU2.out.len; have := HNN.out; have := HNn.out; simp; omega) (by simp) ?_)
              intro u9 w9 ho9 hg9
              obtain ⟨hR9, hB9⟩ := runs_ahead HCM.out HU2.out ho9 hg9
              have HR9 := Lib.hid hR9
              have HB9 := Lib.hid hB9
              clear hR9 hB9 ho9 hg9 HU1 HU2
              obtain ⟨A9, c9, rfl, _, _⟩ := HR9.out.shape
              go_wp2_with fail
              go_roundw
              case rel => exact ⟨m :: rest, HR9, by unfold Hid; rw [HE3.out, if_neg HM0.out], (fun z hz => by rcases List.mem_cons.1 hz with rfl | hz; exact HMO.out; exact HOO.out z hz), by have := HTT.out; have := HML.out; unfold Hid total at *; simp only [List.map_cons, List.sum_cons]; omega, by have := HNN.out; rw [HNn.out] at this; unfold Hid; simp only [List.length_cons]; omega, HB2.out.trans (HB9.out.mono HB2.out.size)⟩
              case measure => have := HNn.out; simp [lenOf]; try omega
            · have HT3 := HT2m
              clear HT1m HT2m
              obtain ⟨us, hu1, hu2⟩ := HT3.out.vals
              have HU1 := Lib.hid hu1
              have HU2 := Lib.hid hu2
              clear hu1 hu2
              go_wp2_with (at_builtin; refine wpList_append_rows rfl _ _ _ rfl Try.underlying23 w2.heap.size _ [_] rfl (owns_one _) _ us rfl (HU1.out.below ((Below.refl _ _).alloc (Nat.le_refl _) _) (Nat.le_refl _)) (by have := HU2.out.len; have := HNN.out; have := HNn.out; simp; omega) (by simp) ?_)
              intro u9 w9 ho9 hg9
              obtain ⟨hR9, hB9⟩ := runs_ahead HCM.out HU2.out ho9 hg9
              have HR9 := Lib.hid hR9
              have HB9 := Lib.hid hB9
              clear hR9 hB9 ho9 hg9 HU1 HU2
              obtain ⟨A9, c9, rfl, _, _⟩ := HR9.out.shape
              go_wp2_with fail
              go_roundw
              case rel => exact ⟨m :: rest, HR9, by unfold Hid; rw [HE3.out, if_neg HM0.out], (fun z hz => by rcases List.mem_cons.1 hz with rfl | hz; exact HMO.out; exact HOO.out z hz), by have := HTT.out; have := HML.out; unfold Hid total at *; simp only [List.map_cons, List.sum_cons]; omega, by have := HNN.out; rw [HNn.out] at this; unfold Hid; simp only [List.length_cons]; omega, HB2.out.trans (HB9.out.mono HB2.out.size)⟩
              case measure => have := HNn.out; simp [lenOf]; try omega
        · have hd2 : decide ((y.length : Int) ≤ 2 * (x.length : Int)) = false := by rw [decide_eq_false_iff_not]; omega
          have hd3 : decide (y.length ≤ 2 * x.length) = false := by rw [decide_eq_false_iff_not]; omega
          have HE3 : Hid (comeP rs q = x :: y :: rest) := by unfold Hid; rw [HEl.out, comeL, if_neg ht]
          clear ht HEl HTl HOl HNl
          generalize x.length = lx at *
          generalize y.length = ly at *
          go_wp2_with fail
          go_quiet (fail)
          go_wp2_with fail
          go_ret
          rw [HE3.out]
          exact ⟨_, rfl, HRl.out, HBl.out.trans ((below_drewN _ _).mono HBl.out.size)⟩
end Go.Proofs.Yteidlngffikboaa
