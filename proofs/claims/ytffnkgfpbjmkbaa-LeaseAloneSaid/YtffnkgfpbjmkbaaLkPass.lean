/- lease: Pass at any locks. -/
import Derived.Test.YtffnkgfpbjmkbaaLkAsk
import Derived.Test.YtffnkgfpbjmkbaaLea9
namespace Go.Proofs.Ytffnkgfpbjmkbaa
open Go.RowKit
set_option linter.unusedVariables false
set_option linter.unusedSimpArgs false
/-- a row of numbers, readable -/
def UsB (w : World) (v : Value) (l : List UInt64) : Prop :=
  ∃ A c, v = .slice A l.length c ∧ l.length ≤ c ∧ c ≤ maxLen ∧ (0 < l.length → ∃ b off, A = some ⟨b, off, none⟩ ∧ b < w.heap.size ∧ ∀ j (h : j < l.length), w.cell? ⟨b, off + j, none⟩ = some (.int .u64 l[j].toNat))
theorem UsB.below {w w' : World} {v : Value} {l : List UInt64} {B : Nat} (h : UsB w v l) (hb : Below B w w') (hB : w.heap.size ≤ B) : UsB w' v l := by
  obtain ⟨A, c, h1, h2, h3, h4⟩ := h
  refine ⟨A, c, h1, h2, h3, fun hl => ?_⟩
  obtain ⟨b, off, e1, e2, e3⟩ := h4 hl
  exact ⟨b, off, e1, Nat.lt_of_lt_of_le e2 hb.size, fun i hi => (hb.cell (p := ⟨b, off + i, none⟩) (Nat.lt_of_lt_of_le e2 hB)).trans (e3 i hi)⟩
def uC (l : List UInt64) : List Value := l.map fun x => .int .u64 x.toNat
theorem UsB.of_owns {w : World} {v : Value} {l : List UInt64} {B : Nat} (h : w.ownsRow B 22 1 v l.length (uC l)) : UsB w v l := by
  rcases h.2 with ⟨hv, h0⟩ | ⟨g, cap, cur, hv, hb, hg, h1, h2, h3, h4⟩
  · exact ⟨none, 0, by rw [hv, h0], by omega, by unfold maxLen; omega, fun hl => by omega⟩
  · refine ⟨_, cap, hv, h1, h2, fun hl => ⟨g, 0, rfl, (Array.getElem?_eq_some_iff.1 hg).1, fun i hi => ?_⟩⟩
    have hj : (uC l)[i]? = some (.int .u64 l[i].toNat) := by unfold uC; rw [List.getElem?_map, List.getElem?_eq_getElem hi]; rfl
    rw [← h4, List.getElem?_take_of_lt (by omega)] at hj
    simp only [World.cell?, hg]
    simpa using hj
theorem wpList_pushU {w : World} {ops : Array Oper} {rest : List Oper} {o : Oper} {a : Act} {Q : Exit → Act → World → Prop} (hgd : o.guard = none) (s x : Operand)
    (ho : o.op = .call { callee := .builtin .append, args := #[s, x], argTypes := #[31, 31] }) (base : Nat) (v : Value) (hs : a.eval s = v) (l : List UInt64) (hown : w.ownsRow base 22 1 v l.length (uC l)) (g c : Nat) (y : UInt64) (hx : a.eval x = .slice (some ⟨g, 0, none⟩) 1 c) (hc : w.cell? ⟨g, 0, none⟩ = some (.int .u64 y.toNat)) (hl : l.length ≤ 1000000) (hb : base ≤ w.heap.size)
    (h : ∀ v' w', w'.ownsRow base 22 1 v' (l ++ [y]).length (uC (l ++ [y])) → w.grownBy w' v.ownBlock → wpList Try.prog ops Q rest (a.put o.dst v') w') : wpList Try.prog ops Q (o :: rest) a w := by
  obtain ⟨i0, hi, hz0, hz1, hz2⟩ := info_parts u64Info
  refine wpList_append_own_at w hgd s x 31 ho base 22 i0 (.int .u64 0) 1 8 Try.underlying31 hi hz0 hz1 hz2 rfl (by decide) v l.length (uC l) hs hown ⟨g, 0, none⟩ 1 c [.int .u64 y.toNat] hx rfl ?_ ?_ (by unfold maxLen; omega) (by omega) hb ?_
  · intro j u' hj
    match j, hj with
    | 0, hj => simp at hj; subst hj; simpa [Addr.add] using hc
  · intro u' hu'
    simp at hu'; subst hu'; rfl
  · intro v' w' h1 h2 _ _
    refine h v' w' ?_ h2
    have e : uC (l ++ [y]) = uC l ++ [.int .u64 y.toNat] := by simp [uC]
    rw [e, List.length_append]
    exact h1
theorem OwnL.set_lt {w : World} {B b j n : Nat} {v u : Value} {xs : List Value} (h : OwnL w B v n xs) (hb : b < B) : OwnL (w.setCell ⟨b, j, none⟩ u) B v n xs := by
  refine ⟨h.1, ?_⟩
  rcases h.2 with h | ⟨g, cap, cur, hv, hg, hr, r⟩
  · exact .inl h
  · exact .inr ⟨g, cap, cur, hv, hg, (heap_setCell_other _ _ g _ (by dsimp only; omega)).trans hr, r⟩
theorem OwnL.form {w : World} {B n : Nat} {v : Value} {xs : List Value} (h : OwnL w B v n xs) : ∃ A c, v = .slice A n c := by
  rcases h.2 with ⟨hv, h0⟩ | ⟨g, cap, cur, hv, _⟩
  · exact ⟨none, 0, by rw [hv, h0]⟩
  · exact ⟨_, _, hv⟩
set_option maxRecDepth 20000 in
set_option maxHeartbeats 2000000 in
theorem delf_nil (pv : Nat) (w : World) : Calls Try.prog 32 #[.slice none 0 0, .func (.func 31) #[] #[.pointer (some ⟨pv, 0, none⟩)]] w fun e w' => e = .returned (.slice none 0 0) ∧ Below w.heap.size w w' := by
  have HI := Lib.hid (ixP_any pv (.slice none 0 0) [] (fun _ => false) w ⟨none, 0, rfl, by simp, by simp, fun h => absurd h (by simp)⟩ (by simp) (fun x hx => absurd hx (by simp)))
  rw [show ixI [] (fun _ => false) = -1 by rfl] at HI
  go_enter Try.func32, Try.ntmps32
  go_wp2_with fail
  refine HI.out.mono ?_
  rintro e w1 ⟨rfl, b1⟩
  go_wp2_with fail
  go_ret
  exact ⟨rfl, b1⟩
theorem delfV_any (B pv n : Nat) (v : Value) (l : List Lk) (p : Lk → Bool) (w : World) (hn : n = l.length) (h : OwnL w B v n (lkC l)) (hl : n ≤ 1000000) (hB : B ≤ w.heap.size)
    (HC : ∀ x : Lk, ∀ w', Below B w w' → Calls Try.prog 31 #[.agg #[.int .u64 x.o.toNat, .bool x.s, .int .i64 x.u], .pointer (some ⟨pv, 0, none⟩)] w' fun e w'' => e = .returned (.bool (p x)) ∧ Below w'.heap.size w' w'') :
    Calls Try.prog 32 #[v, .func (.func 31) #[] #[.pointer (some ⟨pv, 0, none⟩)]] w fun e w' =>
      ∃ v', e = .returned v' ∧ OwnL w' B v' (keepL l p).length (lkC (keepL l p)) ∧ Below B w w' := by
  rcases OwnL.row (by rw [← hn]; exact h : OwnL w B v l.length (lkC l)) with ⟨rfl, rfl⟩ | ⟨g, c, rfl, hg, hr⟩
  · refine (delf_nil pv w).mono ?_
    rintro e w' ⟨rfl, b⟩
    exact ⟨_, rfl, World.ownsRow_nil _ _ _ _, b.mono hB⟩
  · have hbl : ∀ {w'}, w.grownBy w' (some g) → Below B w w' := fun hgr => ⟨hgr.os, hgr.tape, hgr.output, hgr.size, fun i hi => hgr.block i (by omega) (by simp; omega)⟩
    refine (delf_any g l.length c pv l p w hr (by omega) (fun x w' hgr => HC x w' (hbl hgr))).mono ?_
    rintro e w' ⟨rfl, h1, h2⟩
    exact ⟨_, rfl, h1.own hg, hbl h2⟩
def passN (now ticks : Int) : Int := min 274877906944 (now + min 1073741824 (max 0 ticks))
def overB (now : Int) (x : Lk) : Bool := decide (x.u ≤ now)
def lostL (l : List Lk) (now : Int) : List UInt64 := (l.filter (overB now)).map Lk.o
theorem lost_take (l : List Lk) (now : Int) (j : Nat) (h : j < l.length) : lostL (l.take (j + 1)) now = lostL (l.take j) now ++ (if overB now l[j] = true then [l[j].o] else []) := by
  unfold lostL
  rw [List.take_succ_eq_append_getElem h, List.filter_append, List.map_append]
  congr 1
  cases hp : overB now l[j] <;> simp [hp]
theorem lost_len (l : List Lk) (now : Int) : (lostL l now).length ≤ l.length := by
  unfold lostL
  rw [List.length_map]
  exact List.length_filter_le _ _
set_option maxRecDepth 20000 in
set_option maxHeartbeats 6000000 in
theorem pass_any (now : Int) (v : Value) (l : List Lk) (ticks : Int) (w : World) (hv : LksN w v l) (hl : l.length ≤ 100000) (h0 : 0 ≤ now) (h1 : now ≤ 1000000000000) :
    Calls Try.prog 8 #[Lc now v, .int .i64 ticks] w fun e w' => ∃ v' u, e = .returned (.tuple #[Lc (passN now ticks) v', u]) ∧ LksN w' v' (keepL l (overB (passN now ticks))) ∧ UsB w' u (lostL l (passN now ticks)) ∧ Below w.heap.size w w' := by
  have HV := Lib.hid hv
  have HL := Lib.hid hl
  obtain ⟨A, c, rfl, h2, h3, h4⟩ := hv.1
  have hc9 : c ≤ 9223372036854775807 := by unfold maxLen at h3; omega
  have HC4 := Lib.hid h4
  obtain ⟨n, hn⟩ : ∃ n, n = l.length := ⟨_, rfl⟩
  have HN := Lib.hid hn
  rw [← hn] at HV h2
  unfold Lc
  rw [← hn]
  clear hn h3 h4 hv hl
  obtain ⟨now2, hm3⟩ : ∃ now2, min 274877906944 (now + min 1073741824 (max 0 ticks)) = now2 := ⟨_, rfl⟩
  have hpn : passN now ticks = now2 := hm3
  rw [hpn]
  clear hpn
  obtain ⟨wq, hwq⟩ : ∃ wq, wq = (((w.alloc (.cells #[.int .i64 now, .slice A n c] 27)).alloc (.cells #[.int .i64 0, .slice none 0 0] 27)).alloc (.cells #[.int .i64 now2, .slice A n c] 57)).alloc (.cells #[.pointer (some ⟨w.heap.size + 1 + 1, 0, none⟩)] 55) := ⟨_, rfl⟩
  obtain ⟨q1, q2, q3, q4⟩ := heap4 w (.cells #[.int .i64 now, .slice A n c] 27) (.cells #[.int .i64 0, .slice none 0 0] 27) (.cells #[.int .i64 now2, .slice A n c] 57) (.cells #[.pointer (some ⟨w.heap.size + 1 + 1, 0, none⟩)] 55)
  have HSX : Hid (wq.heap.size = w.heap.size + 4) := by unfold Hid; rw [hwq]; simp
  have HBx : Hid (Below w.heap.size w wq) := by unfold Hid; rw [hwq]; exact ((((Below.refl _ _).alloc (Nat.le_refl _) _).alloc (by simp) _).alloc (by simp; omega) _).alloc (by simp; omega) _
  rw [← hwq] at q1 q2 q3 q4
  have AT : Hid (Hid (∀ w', Below wq.heap.size wq w' → w'.cell? ⟨w.heap.size, 1, none⟩ = some (.slice A n c) ∧ w'.cell? ⟨w.heap.size + 1, 0, none⟩ = some (.int .i64 0) ∧ w'.cell? ⟨w.heap.size + 1, 1, none⟩ = some (.slice none 0 0) ∧ w'.cell? ⟨w.heap.size + 1 + 1, 0, none⟩ = some (.int .i64 now2) ∧ w'.cell? ⟨w.heap.size + 1 + 1, 1, none⟩ = some (.slice A n c) ∧ w'.cell? ⟨w.heap.size + 1 + 1 + 1, 0, none⟩ = some (.pointer (some ⟨w.heap.size + 1 + 1, 0, none⟩)) ∧ w'.frozen? ⟨w.heap.size + 1, 0, none⟩ = false ∧ w'.frozen? ⟨w.heap.size + 1, 1, none⟩ = false ∧ w'.frozen? ⟨w.heap.size + 1 + 1, 1, none⟩ = false)) := by
    intro w' b
    have hs := HSX.out
    exact ⟨(b.cell (p := ⟨w.heap.size, 1, none⟩) (by dsimp only; omega)).trans (cells2 q1).2.1, (b.cell (p := ⟨w.heap.size + 1, 0, none⟩) (by dsimp only; omega)).trans (cells2 q2).1, (b.cell (p := ⟨w.heap.size + 1, 1, none⟩) (by dsimp only; omega)).trans (cells2 q2).2.1, (b.cell (p := ⟨w.heap.size + 1 + 1, 0, none⟩) (by dsimp only; omega)).trans (cells2 q3).1, (b.cell (p := ⟨w.heap.size + 1 + 1, 1, none⟩) (by dsimp only; omega)).trans (cells2 q3).2.1, (b.cell (p := ⟨w.heap.size + 1 + 1 + 1, 0, none⟩) (by dsimp only; omega)).trans (cells1 q4), (b.frozen (p := ⟨w.heap.size + 1, 0, none⟩) (by dsimp only; omega)).trans ((cells2 q2).2.2 0), (b.frozen (p := ⟨w.heap.size + 1, 1, none⟩) (by dsimp only; omega)).trans ((cells2 q2).2.2 1), (b.frozen (p := ⟨w.heap.size + 1 + 1, 1, none⟩) (by dsimp only; omega)).trans ((cells2 q3).2.2 1)⟩
  have HPS : Hid (Hid (∀ (x : Lk) w', Below wq.heap.size wq w' → Calls Try.prog 31 #[.agg #[.int .u64 x.o.toNat, .bool x.s, .int .i64 x.u], .pointer (some ⟨w.heap.size + 1 + 1 + 1, 0, none⟩)] w' fun e w'' => e = .returned (.bool (overB now2 x)) ∧ Below w'.heap.size w' w'')) :=
    fun x w' b => pass1_any x (w.heap.size + 1 + 1 + 1) (w.heap.size + 1 + 1) now2 w' (AT.out w' b).2.2.2.2.2.1 (AT.out w' b).2.2.2.1 (by have := HSX.out; have := b.size; omega) (by have := HSX.out; have := b.size; omega)
  have HWQ := Lib.hid hwq
  clear q1 q2 q3 q4 hwq
  go_enter Try.func8, Try.ntmps8
  go_wp2_with fail
  rw [← HWQ.out]
  clear HWQ hm3
  go_loopw [8, 29] (fun u a wr => ∃ j : Nat, j ≤ n ∧ a = .int .i64 j ∧ Hid (wr.ownsRow wq.heap.size 22 1 u (lostL (l.take j) now2).length (uC (lostL (l.take j) now2))) ∧ Hid (Below wq.heap.size wq wr)) (fun _ a _ => n - (RowKit.intOf a).toNat)
  case atStart => exact ⟨0, Nat.zero_le _, rfl, World.ownsRow_nil _ _ _ _, Below.refl _ _⟩
  case round =>
    obtain ⟨j, hj, rfl, HU, HBr⟩ := hrel
    by_cases hlt : j < n
    · have hlt' : (j : Int) < (n : Int) := by omega
      have hnn := HN.out
      have hjl : j < l.length := by omega
      obtain ⟨b, off, rfl, hblt, hcells⟩ := HC4.out (by omega)
      obtain ⟨x1, x2, x3⟩ := hcells j hjl
      have HBW : Hid (Below w.heap.size w wr) := HBx.out.trans (HBr.out.mono (by have := HSX.out; omega))
      have y1 := (HBW.out.cell (p := ⟨b, off + j * 3, none⟩) hblt).trans x1
      have y2 := (HBW.out.cell (p := ⟨b, off + j * 3 + 1, none⟩) hblt).trans x2
      have y3 := (HBW.out.cell (p := ⟨b, off + j * 3 + 2, none⟩) hblt).trans x3
      have HLT := Lib.hid (lost_take l now2 j hjl)
      have HLL : Hid ((lostL (l.take j) now2).length ≤ 1000000) := by
        have h1 := lost_len (l.take j) now2
        rw [List.length_take] at h1
        have := HL.out
        unfold Hid; omega
      generalize hxe : l[j] = x at *
      have hj0 : (0 : Int) ≤ (j : Int) := by omega
      have HBq : Hid (Below wr.heap.size wr (wr.alloc (.cells #[.int .u64 x.o.toNat, .bool x.s, .int .i64 x.u] 62))) := (Below.refl _ _).alloc (Nat.le_refl _) _
      have HBE : Hid (Below wq.heap.size wq (wr.alloc (.cells #[.int .u64 x.o.toNat, .bool x.s, .int .i64 x.u] 62))) := HBr.out.trans (HBq.out.mono HBr.out.size)
      have HPx := Lib.hid (HPS.out x _ HBE.out)
      have X0 : (wr.alloc (.cells #[.int .u64 x.o.toNat, .bool x.s, .int .i64 x.u] 62)).cell? ⟨wr.heap.size, 0, none⟩ = some (.int .u64 x.o.toNat) := by simp
      clear hxe hnn x1 x2 x3 hcells
      cases hp : overB now2 x with
      | false =>
        rw [hp] at HPx HLT
        rw [if_neg (by decide), List.append_nil] at HLT
        clear X0
        go_wp2_with fail
        refine HPx.out.mono ?_
        rintro e w2 ⟨rfl, b2⟩
        have HB2 : Hid (Below wq.heap.size wq w2) := HBE.out.trans (b2.mono HBE.out.size)
        have HU2 : Hid (w2.ownsRow wq.heap.size 22 1 u8 (lostL (l.take (j + 1)) now2).length (uC (lostL (l.take (j + 1)) now2))) := by
          unfold Hid
          rw [HLT.out]
          have hb : Below wr.heap.size wr w2 := HBq.out.trans (b2.mono (by simp))
          refine ⟨HU.out.1, ?_⟩
          rcases HU.out.2 with h | ⟨g, cap, cur, hv, hg, hr, r⟩
          · exact .inl h
          · exact .inr ⟨g, cap, cur, hv, hg, (hb.block g (Array.getElem?_eq_some_iff.1 hr).1).trans hr, r⟩
        clear b2 y1 y2 y3 HU
        go_wp2_with fail
        go_roundw
        case rel => exact ⟨j + 1, by omega, by go_num, HU2, HB2⟩
        case measure => simp [RowKit.intOf]; omega
      | true =>
        rw [hp] at HPx HLT
        rw [if_pos rfl] at HLT
        go_wp2_with fail
        refine HPx.out.mono ?_
        rintro e w2 ⟨rfl, b2⟩
        have HB2 : Hid (Below wq.heap.size wq w2) := HBE.out.trans (b2.mono HBE.out.size)
        have z0 := (b2.cell (p := ⟨wr.heap.size, 0, none⟩) (by simp)).trans X0
        have hzl : wr.heap.size < w2.heap.size := Nat.lt_of_lt_of_le (by simp) b2.size
        have HU2 : Hid ((w2.alloc (.cells #[.int .u64 x.o.toNat] 22)).ownsRow wq.heap.size 22 1 u8 (lostL (l.take j) now2).length (uC (lostL (l.take j) now2))) := by
          unfold Hid
          have hb : Below wr.heap.size wr w2 := HBq.out.trans (b2.mono (by simp))
          refine World.ownsRow.alloc ⟨HU.out.1, ?_⟩ _
          rcases HU.out.2 with h | ⟨g, cap, cur, hv, hg, hr, r⟩
          · exact .inl h
          · exact .inr ⟨g, cap, cur, hv, hg, (hb.block g (Array.getElem?_eq_some_iff.1 hr).1).trans hr, r⟩
        have HBA : Hid (Below wq.heap.size wq (w2.alloc (.cells #[.int .u64 x.o.toNat] 22))) := HB2.out.alloc HB2.out.size _
        have HUO : Hid (∀ k, u8.ownBlock = some k → wq.heap.size ≤ k) := by
          intro k hk
          rcases HU.out.2 with ⟨h, _⟩ | ⟨g, cap, cur, hv, hg, hr, r⟩
          · rw [h] at hk; cases hk
          · rw [hv] at hk; cases hk; exact hg
        obtain ⟨w2z, hw2z⟩ : ∃ w2z, w2z = w2.heap.size := ⟨_, rfl⟩
        clear b2 y1 y2 y3 X0 HU
        go_wp2_with (at_builtin; refine wpList_pushU rfl _ _ rfl wq.heap.size u8 rfl _ HU2.out w2.heap.size 1 x.o rfl (by simp) HLL.out HBA.out.size ?_)
        intro uv wv hu hgu
        have HBv : Hid (Below wq.heap.size wq wv) := HBA.out.grown hgu HBA.out.size HUO.out
        have HU3 : Hid (wv.ownsRow wq.heap.size 22 1 uv (lostL (l.take (j + 1)) now2).length (uC (lostL (l.take (j + 1)) now2))) := by unfold Hid; rw [HLT.out, List.length_append]; exact hu
        clear hu hgu hw2z
        go_wp2_with fail
        go_roundw
        case rel => exact ⟨j + 1, by omega, by go_num, HU3, HBv⟩
        case measure => simp [RowKit.intOf]; omega
    · obtain rfl : j = n := by omega
      have HU9 : Hid (wr.ownsRow wq.heap.size 22 1 u8 (lostL l now2).length (uC (lostL l now2))) := by
        have h := HU.out
        rw [List.take_of_length_le (by rw [← HN.out]; omega)] at h
        exact h
      have hu8 : ∃ uA uc, u8 = .slice uA (lostL l now2).length uc := by
        rcases HU9.out.2 with ⟨h, h9⟩ | ⟨g, cap, cur, hv, _⟩
        · exact ⟨none, 0, by rw [h, h9]⟩
        · exact ⟨_, _, hv⟩
      obtain ⟨uA, uc, rfl⟩ := hu8
      have HU7 := Lib.hid (UsB.of_owns HU9.out)
      generalize (lostL l now2).length = ul at *
      clear HU HU9
      go_wp2_with fail
      have HBw : Hid (Below w.heap.size w wr.drew) := HBx.out.trans (HBr.out.drew.mono (by have := HSX.out; omega))
      have HBq : Hid (Below wq.heap.size wq wr.drew) := HBr.out.drew
      have HU6 : Hid (UsB wr.drew (.slice uA ul uc) (lostL l now2)) := HU7.out.below ((Below.refl _ _).drew) (Nat.le_refl _)
      obtain ⟨X1', _, _, _, _, P0', _, _, _⟩ := AT.out _ HBq.out
      refine wp_region_noPanic ?_
      refine wp_region_held_drew (S := fun w' => w'.cell? ⟨w.heap.size, 1, none⟩ = some (.slice A j c) ∧ w'.cell? ⟨w.heap.size + 1 + 1 + 1, 0, none⟩ = some (.pointer (some ⟨w.heap.size + 1 + 1, 0, none⟩))) (by kernel_rfl) ⟨X1', P0'⟩ (fun hHeld => ?_)
      obtain ⟨wx, hwx⟩ : ∃ wx, wx = wr.drew := ⟨_, rfl⟩
      rw [← hwx] at HBw HBq HU6 hHeld ⊢
      clear hwx HBr HU7 X1' P0'
      refine wpAnyH_take (i := 0) (v := .pointer (some ⟨w.heap.size + 1 + 1, 0, none⟩)) rfl (by kernel_rfl) (by kernel_rfl) (by kernel_rfl) (fun _ _ _ h => h) (Or.inl ⟨by kernel_rfl, ?_⟩) hHeld ?_
      · intro w hSw
        have hh := hSw.2
        go_simp
      try simp only [Act.put, List.setIfInBounds_toArray, List.set_cons_zero, List.set_cons_succ]
      refine' wpAnyH_take (i := 1) (v := ?v1) rfl (by kernel_rfl) (by kernel_rfl) (by kernel_rfl) (fun _ _ _ h => h) (Or.inl ⟨by kernel_rfl, ?hy1⟩) (by assumption) ?rest1
      case hy1 => (intro w hSw; (try dsimp only at hSw); go_simp; try with_reducible rfl)
      try simp only [Act.put, List.setIfInBounds_toArray, List.set_cons_zero, List.set_cons_succ]
      refine wpAnyH_take (i := 2) (v := .slice A j c) rfl (by kernel_rfl) (by kernel_rfl) (by kernel_rfl) (fun _ _ _ h => h) (Or.inl ⟨by kernel_rfl, ?_⟩) hHeld ?_
      · intro w hSw
        have hh := hSw.1
        go_simp
      try simp only [Act.put, List.setIfInBounds_toArray, List.set_cons_zero, List.set_cons_succ]
      refine' wpAnyH_take (i := 4) (v := ?v2) rfl (by kernel_rfl) (by kernel_rfl) (by kernel_rfl) (fun _ _ _ h => h) (Or.inl ⟨by kernel_rfl, ?hy2⟩) (by assumption) ?rest2
      case hy2 => (intro w hSw; (try dsimp only at hSw); go_simp; try with_reducible rfl)
      try simp only [Act.put, List.setIfInBounds_toArray, List.set_cons_zero, List.set_cons_succ]
      refine wpAnyH_ready (rs := [3]) (by kernel_rfl) (by simp) ?_
      refine AllReadyH.cons rfl (fun K hK => ?_) AllReadyH.nil
      go_simp
      go_at_call 30
      refine (cloneL_any _ l _ (HV.out.below HBw.out (Nat.le_refl _)) (by have := HL.out; omega)).mono ?_
      rintro er wa ⟨vc, rfl, hoc, ba⟩
      have HOC := Lib.hid hoc
      have HBA : Hid (Below wx.heap.size wx wa) := ba
      have HBQ : Hid (Below wq.heap.size wq wa) := HBq.out.trans (ba.mono HBq.out.size)
      obtain ⟨X1a, _, _, _, _, P0a, _, _, _⟩ := AT.out _ HBQ.out
      obtain ⟨vA, vcc, rfl⟩ := OwnL.form hoc
      clear hoc ba
      go_wp2_with fail
      refine hK.out _ _ ⟨X1a, P0a⟩ (fun hHeld => ?_)
      clear hK K X1a P0a
      try simp only [Act.put, List.setIfInBounds_toArray, List.set_cons_zero, List.set_cons_succ]
      refine wpAnyH_ready (rs := [5]) (by kernel_rfl) (by simp) ?_
      refine AllReadyH.cons rfl (fun K hK => ?_) AllReadyH.nil
      go_simp
      go_at_call 32
      refine (delfV_any wx.heap.size (w.heap.size + 1 + 1 + 1) l.length _ l (overB now2) wa rfl HOC.out (by have := HL.out; omega) HBA.out.size (fun x w' b => HPS.out x w' (HBQ.out.trans (b.mono HBq.out.size)))).mono ?_
      rintro er wz ⟨vz, rfl, hoz, bz⟩
      have HBZ : Hid (Below wq.heap.size wq wz) := HBQ.out.trans (bz.mono HBq.out.size)
      have HBZx : Hid (Below wx.heap.size wx wz) := HBA.out.trans bz
      obtain ⟨y1, r0, r1, k0, k1, p1, fr0, fr1, fk1⟩ := AT.out _ HBZ.out
      have HBW : Hid (Below w.heap.size w wz) := HBx.out.trans (HBZ.out.mono (by have := HSX.out; omega))
      have HSV : Hid (w.heap.size + 4 ≤ wx.heap.size) := by have := HSX.out; have := HBq.out.size; unfold Hid; omega
      obtain ⟨zA, zc, rfl⟩ := OwnL.form hoz
      have HOZ := Lib.hid hoz
      have HUZ : Hid (UsB wz (.slice uA ul uc) (lostL l now2)) := HU6.out.below HBZx.out (Nat.le_refl _)
      clear bz hoz HBA HOC HBZ HBQ
      have HEND : Hid (LksN (((wz.setCell ⟨w.heap.size + 1 + 1, 1, none⟩ (.slice zA (keepL l (overB now2)).length zc)).setCell ⟨w.heap.size + 1, 0, none⟩ (.int .i64 now2)).setCell ⟨w.heap.size + 1, 1, none⟩ (.slice zA (keepL l (overB now2)).length zc)) (.slice zA (keepL l (overB now2)).length zc) (keepL l (overB now2))) :=
        LksN.of_owns (((HOZ.out.set_lt (by have := HSV.out; omega)).set_lt (by have := HSV.out; omega)).set_lt (by have := HSV.out; omega))
      have HENDU : Hid (UsB (((wz.setCell ⟨w.heap.size + 1 + 1, 1, none⟩ (.slice zA (keepL l (overB now2)).length zc)).setCell ⟨w.heap.size + 1, 0, none⟩ (.int .i64 now2)).setCell ⟨w.heap.size + 1, 1, none⟩ (.slice zA (keepL l (overB now2)).length zc)) (.slice uA ul uc) (lostL l now2)) := by
        obtain ⟨uA', uc', e, a2, a3, a4⟩ := HUZ.out
        cases e
        refine ⟨_, _, rfl, a2, a3, fun hl => ?_⟩
        obtain ⟨b, off, e1, e2, e3⟩ := a4 hl
        have hne : ∀ i, i < 2 → ∀ j, j < (lostL l now2).length → ∀ o, (⟨b, off + j, none⟩ : Addr) ≠ ⟨w.heap.size + 1 + i, o, none⟩ ∨ o ≥ 2 := by
          intro i hi j hj o
          by_cases ho : o < 2
          · left
            intro e
            have e4 := e3 j hj
            rw [e] at e4
            match i, hi, o, ho with
            | 0, _, 0, _ => rw [r0] at e4; cases e4
            | 0, _, 1, _ => rw [r1] at e4; cases e4
            | 1, _, 0, _ => rw [k0] at e4; cases e4
            | 1, _, 1, _ => rw [k1] at e4; cases e4
          · right; omega
        have hn1 := fun j hj => (hne 0 (by omega) j hj 0).resolve_right (by omega)
        have hn2 := fun j hj => (hne 0 (by omega) j hj 1).resolve_right (by omega)
        have hn3 := fun j hj => (hne 1 (by omega) j hj 1).resolve_right (by omega)
        refine ⟨b, off, e1, by simp only [World.size_setCell]; exact e2, fun j hj => ?_⟩
        rw [World.cell?_setCell_other _ _ _ _ (Ne.symm (hn2 j hj)), World.cell?_setCell_other _ _ _ _ (Ne.symm (hn1 j hj)), World.cell?_setCell_other _ _ _ _ (Ne.symm (hn3 j hj))]
        exact e3 j hj
      generalize (keepL l (overB now2)).length = kl at *
      go_wp2_with fail
      refine hK.out _ _ ⟨y1, p1⟩ (fun hHeld => ?_)
      clear hK K
      try simp only [Act.put, List.setIfInBounds_toArray, List.set_cons_zero, List.set_cons_succ]
      refine' wpAnyH_take (i := 6) (v := ?v3) rfl (by kernel_rfl) (by kernel_rfl) (by kernel_rfl) (fun _ _ _ h => h) (Or.inl ⟨by kernel_rfl, ?hy3⟩) (by assumption) ?rest3
      case hy3 => (intro w hSw; (try dsimp only at hSw); go_simp; try with_reducible rfl)
      try simp only [Act.put, List.setIfInBounds_toArray, List.set_cons_zero, List.set_cons_succ]
      refine' wpAnyH_take (i := 7) (v := ?v4) rfl (by kernel_rfl) (by kernel_rfl) (by kernel_rfl) (fun _ _ _ h => h) (Or.inl ⟨by kernel_rfl, ?hy4⟩) (by assumption) ?rest4
      case hy4 => (intro w hSw; (try dsimp only at hSw); go_simp; try with_reducible rfl)
      try simp only [Act.put, List.setIfInBounds_toArray, List.set_cons_zero, List.set_cons_succ]
      refine' wpAnyH_take (i := 8) (v := ?v5) rfl (by kernel_rfl) (by kernel_rfl) (by kernel_rfl) (fun _ _ _ h => h) (Or.inl ⟨by kernel_rfl, ?hy5⟩) (by assumption) ?rest5
      case hy5 => (intro w hSw; (try dsimp only at hSw); go_simp; try with_reducible rfl)
      try simp only [Act.put, List.setIfInBounds_toArray, List.set_cons_zero, List.set_cons_succ]
      refine wpAnyH_ready (rs := [9]) (by kernel_rfl) (by simp) ?_
      refine AllReadyH.cons rfl (fun K hK => ?_) AllReadyH.nil
      go_simp
      refine hK.out _ _ ⟨(World.cell?_setCell_other _ _ _ _ (by intro e; injection e with e _; omega)).trans y1, (World.cell?_setCell_other _ _ _ _ (by intro e; injection e with e _; omega)).trans p1⟩ (fun hHeld => ?_)
      clear hK K
      try simp only [Act.put, List.setIfInBounds_toArray, List.set_cons_zero, List.set_cons_succ]
      refine wpAnyH_done (by kernel_rfl) ?_ _
      refine NoPanic.normal ?_
      have p2 := hHeld.2
      go_wp2_with fail
      (try simp only [Exit.inBlock, Exit.then])
      refine bodyPost_cell (V := .agg #[.int .i64 now2, .slice zA kl zc]) rfl rfl ?_ rfl ?_
      · go_simp
      · exact ⟨_, _, rfl, HEND.out, HENDU.out, ((HBW.out.setCell (p := ⟨w.heap.size + 1 + 1, 1, none⟩) (by dsimp only; omega) _).setCell (p := ⟨w.heap.size + 1, 0, none⟩) (by dsimp only; omega) _).setCell (p := ⟨w.heap.size + 1, 1, none⟩) (by dsimp only; omega) _⟩
end Go.Proofs.Ytffnkgfpbjmkbaa
