/- RetainAll: the law. -/
import Derived.Test.YtlikmdmdmljiaaaDoorRetKeep
import Derived.Test.YtlikmdmdmljiaaaDoorRetIn
import Derived.Test.YtlikmdmdmljiaaaDoorRetStep
import Derived.Test.YtlikmdmdmljiaaaDoorRetAwake
import Derived.Deep.DeepCutAuto
import Derived.Deep.RegionHeld3
namespace Go.Proofs.YtlikmdmdmljiaaaDoor
open Go.RowKit Go.Shelf
set_option linter.unusedVariables false
set_option linter.unusedSimpArgs false
/-- a call's step by its contract -/
theorem oper_call {P : Program} {o : Oper} {a : Act} {w : World} {K : Act → World → Prop} {Q : Exit → Act → World → Prop} (d : Option Tmp) (hd : o.dst = d) (f : FuncId) (args : Array Value)
    (hrun : (execOp a.eval o).run P w = .ok (.enter f args) w) (R : Value → World → Prop) (hc : Calls P f args w fun e w'' => ∃ v, e = .returned v ∧ R v w'') (h : ∀ v w'', R v w'' → K (a.put d v) w'') : o.wp P a w K Q := by
  subst hd
  unfold Oper.wp
  rw [hrun, Oper.upon_enter]
  refine hc.mono fun e w'' hh => ?_
  obtain ⟨v, rfl, hr⟩ := hh
  exact h _ _ hr
theorem oper_pure {P : Program} {o : Oper} {a : Act} {w : World} {K : Act → World → Prop} {Q : Exit → Act → World → Prop} (d : Option Tmp) (hd : o.dst = d) (f : FuncId) (args : Array Value)
    (hrun : (execOp a.eval o).run P w = .ok (.enter f args) w) (v : Value) (hc : Calls P f args w fun e w'' => e = .returned v ∧ w = w'') (h : K (a.put d v) w) : o.wp P a w K Q := by
  subst hd
  unfold Oper.wp
  rw [hrun, Oper.upon_enter]
  refine hc.mono fun e w'' hh => ?_
  obtain ⟨rfl, rfl⟩ := hh
  exact h
theorem yieldsIf_loadAt {P : Program} {ops : Array Oper} {S : World → Prop} {op : Oper} {a : Act} (hw : Region.wanted op (yielded ops a.tmps) = true) (ty : TypeId) (x : Operand) (ho : op.op = .load ty x)
    (p v : Value) (hx : a.eval x = p) (hS : ∀ w, S w → (Instr.loadAt ty p).run P w = .ok v w) : YieldsIf P ops S op v a :=
  .inl ⟨hw, fun w hw' => by
    unfold execOp
    simp only [ho, hx, Sem.run_bind, hS w hw', Result.andThen_ok, Sem.run_pure]⟩
def someB (p : Pol) : Bool := decide (0 < p.a) || (decide (0 < p.b) || (decide (0 < p.c) || (decide (0 < p.d) || (decide (0 < p.e) || decide (0 < p.f)))))
theorem someB_true {p : Pol} (h : someB p = true) : 1 ≤ p.a ∨ 1 ≤ p.b ∨ 1 ≤ p.c ∨ 1 ≤ p.d ∨ 1 ≤ p.e ∨ 1 ≤ p.f := by
  unfold someB at h
  simp only [Bool.or_eq_true, decide_eq_true_iff] at h
  omega
theorem someB_false {p : Pol} (h : someB p = false) : p.a < 1 ∧ p.b < 1 ∧ p.c < 1 ∧ p.d < 1 ∧ p.e < 1 ∧ p.f < 1 := by
  unfold someB at h
  simp only [Bool.or_eq_false_iff, decide_eq_false_iff_not] at h
  omega
/-- more: six small numbers -/
abbrev morO (m : Nat → Nat) : Obj := .cells #[.int .u8 (m 0 : Nat), .int .u8 (m 1 : Nat), .int .u8 (m 2 : Nat), .int .u8 (m 3 : Nat), .int .u8 (m 4 : Nat), .int .u8 (m 5 : Nat)] 24
/-- what the law reads while nothing of it is written -/
structure EnvR (W : World) (p : Pol) (m : Nat → Nat) (v : Value) (l : List Mk) (w : World) : Prop where
  pb : w.heap[W.heap.size]? = some (polO p)
  mb : w.heap[W.heap.size + 1]? = some (morO m)
  ml : MkN w v l
  tab : Tab w
  low : Below W.heap.size W w
theorem EnvR.below {W : World} {p : Pol} {m : Nat → Nat} {v : Value} {l : List Mk} {w w' : World} (h : EnvR W p m v l w) (b : Below w.heap.size w w') : EnvR W p m v l w' :=
  ⟨(b.block _ (Array.getElem?_eq_some_iff.1 h.pb).1).trans h.pb, (b.block _ (Array.getElem?_eq_some_iff.1 h.mb).1).trans h.mb, h.ml.below b (Nat.le_refl _), h.tab.below b (Nat.le_refl _), h.low.trans (b.mono h.low.size)⟩
theorem owns_lit {w : World} {B : Nat} {x : Mk} (hB : B ≤ w.heap.size) (b : Nat) (hb : b = w.heap.size) : (w.alloc (.cells #[.string x.1, .int .i64 x.2] 29)).ownsRow B 29 2 (.slice (some ⟨b, 0, none⟩) 1 1) [x].length (mkC [x]) := by
  subst hb
  exact ⟨rfl, .inr ⟨w.heap.size, 1, _, rfl, hB, heap_alloc_new _ _, Nat.le_refl _, by unfold maxLen; omega, rfl, rfl⟩⟩
theorem owns_below {w w' : World} {B e k n : Nat} {v : Value} {xs : List Value} (h : w.ownsRow B e k v n xs) (hb : Below w.heap.size w w') : w'.ownsRow B e k v n xs := by
  refine h.kept (row := none) ⟨hb.os, hb.tape, hb.output, hb.size, fun i hi _ => hb.block i hi⟩ ?_
  cases hv : v.ownBlock with
  | none => exact .inl rfl
  | some j => exact .inr (by simp)
theorem briefB_of {l : List Mk} (h : briefB l = true) : l.length ≤ 40 ∧ ∀ x ∈ l, x.1.size ≤ 100 := by
  unfold briefB at h
  rw [Bool.and_eq_true, decide_eq_true_iff, List.all_eq_true] at h
  exact ⟨h.1, fun x hx => of_decide_eq_true (h.2 x hx)⟩
set_option maxRecDepth 20000 in
set_option maxHeartbeats 8000000 in
theorem retAll_any (W : World) (p : Pol) (m : Nat → Nat) (v : Value) (l : List Mk) (hp : PolI p) (hm : ∀ i, m i < 256) (hv : MkN W v l) (ht : Tab W) :
    Calls Tryd.prog 3 #[polV p, .agg #[.int .u8 (m 0 : Nat), .int .u8 (m 1 : Nat), .int .u8 (m 2 : Nat), .int .u8 (m 3 : Nat), .int .u8 (m 4 : Nat), .int .u8 (m 5 : Nat)], v] W fun e w' => e = .returned (.bool true) ∧ Below W.heap.size W w' := by
  have HP := Lib.hid hp
  have HMB := Lib.hid hm
  have HV := Lib.hid hv
  obtain ⟨wE, hwE⟩ : ∃ wE, wE = (W.alloc (polO p)).alloc (morO m) := ⟨_, rfl⟩
  have HWE := Lib.hid hwE.symm
  have hbE : Below W.heap.size W wE := by rw [hwE]; exact ((Below.refl _ _).alloc (Nat.le_refl _) _).alloc (by simp) _
  have HE : Hid (EnvR W p m v l wE) := ⟨by rw [hwE]; exact (heap_alloc_old _ _ (by simp)).trans (heap_alloc_new _ _), by rw [hwE]; exact heap_alloc_at (by simp), hv.below hbE (Nat.le_refl _), ht.below hbE (Nat.le_refl _), hbE⟩
  have HAW := Lib.hid retAwake_any
  have HBR := Lib.hid (brief_any wE v l HE.out.ml)
  obtain ⟨⟨A, c, rfl, h2, h3, _⟩, _⟩ := hv
  have hc9 : c ≤ 9223372036854775807 := by unfold maxLen at h3; omega
  obtain ⟨n, hn⟩ : ∃ n, n = l.length := ⟨_, rfl⟩
  have HN := Lib.hid hn
  rw [← hn] at h2 HV HE HBR
  rw [← hn]
  have HT0 := Lib.hid ht
  clear hwE hbE hp hm h3 hn ht
  cases hbr : briefB l with
  | false =>
    rw [hbr] at HBR
    clear hbr
    go_enter Tryd.func3, Tryd.ntmps3
    go_wp2_with fail
    rw [HWE.out]
    go_wp2_with fail
    refine HBR.out.mono ?_
    rintro e w1 ⟨rfl, b1⟩
    have HE1 := Lib.hid (HE.out.below b1)
    clear b1
    go_wp2_with fail
    refine (HAW.out _ HE1.out.tab).mono ?_
    rintro e w2 ⟨rfl, b2⟩
    have HL2 := Lib.hid (HE1.out.low.trans (b2.mono HE1.out.low.size))
    clear b2
    go_wp2_with fail
    go_ret
    exact ⟨rfl, HL2.out⟩
  | true =>
    rw [hbr] at HBR
    obtain ⟨hl40, hl100⟩ := briefB_of hbr
    have HL100 := Lib.hid hl100
    rw [← HN.out] at hl40
    clear hbr hl100
    go_enter Tryd.func3, Tryd.ntmps3
    go_wp2_with fail
    rw [HWE.out]
    go_wp2_with fail
    refine HBR.out.mono ?_
    rintro e w1 ⟨rfl, b1⟩
    have HE1 := Lib.hid (HE.out.below b1)
    clear b1 HE HBR
    go_wp2_with fail
    have HO0 : Hid (w1.ownsRow w1.heap.size 29 2 (.slice none 0 0) (l.take 0).reverse.length (mkC (l.take 0).reverse)) := World.ownsRow_nil _ _ _ _
    go_loopw [7, 8, 9, 33] (fun u i8 b9 i wr => ∃ j : Nat, j ≤ n ∧ i = .int .i64 j ∧ Hid (wr.ownsRow w1.heap.size 29 2 u (l.take j).reverse.length (mkC (l.take j).reverse)) ∧ Hid (Below w1.heap.size w1 wr) ∧ Hid (UnlTo l j)) (fun _ _ _ i _ => n - (intOf i).toNat)
    case atStart => exact ⟨0, Nat.zero_le _, rfl, HO0, Below.refl _ _, fun a b x y _ hb => absurd hb (Nat.not_lt_zero _)⟩
    case round =>
      obtain ⟨j, hj, rfl, HO, HW, HU⟩ := hrel
      clear HO0
      have HEr := Lib.hid (HE1.out.below HW.out)
      by_cases hlt : j < n
      · have hlt' : (j : Int) < (n : Int) := by omega
        have hjl : j < l.length := by rw [← HN.out]; exact hlt
        obtain ⟨⟨A9, c9, hv9, _, _, hz9⟩, _⟩ := HEr.out.ml
        injection hv9 with hv9a hv9b hv9c
        subst hv9a hv9c
        obtain ⟨b0, off, rfl, hb0, hc⟩ := hz9 (by omega)
        have HCC := Lib.hid hc
        obtain ⟨e1, e2⟩ := hc j hjl
        have HXE : Hid (l[j] = (l[j].1, l[j].2)) := rfl
        have HGJ : Hid (l[j]? = some l[j]) := List.getElem?_eq_getElem hjl
        have HRV := Lib.hid (rev_step l j hjl)
        clear hc hz9 hv9b
        generalize l[j].1 = k at *
        generalize l[j].2 = y at *
        rw [HXE.out] at HRV HGJ
        obtain ⟨wx, hwx⟩ : ∃ wx, wx = wr.alloc (.cells #[.string k, .int .i64 y] 29) := ⟨_, rfl⟩
        have HWX := Lib.hid hwx.symm
        have hbx : Below wr.heap.size wr wx := by rw [hwx]; exact (Below.refl _ _).alloc (Nat.le_refl _) _
        have hx9 : wx.heap[wr.heap.size]? = some (.cells #[.string k, .int .i64 y] 29) := by rw [hwx]; exact heap_alloc_new _ _
        have HX9 := Lib.hid hx9
        have hl9 : wr.heap.size < wx.heap.size := (Array.getElem?_eq_some_iff.1 hx9).1
        have HBX := Lib.hid hbx
        have HOX := Lib.hid (owns_below HO.out hbx)
        have HEX := Lib.hid (HEr.out.below hbx)
        have HWX1 : Hid (Below w1.heap.size w1 wx) := HW.out.trans (hbx.mono HW.out.size)
        clear hwx hbx hx9 HO
        have hjc : (j : Int) ≤ (c : Int) := by omega
        go_wp2_with fail
        rw [HWX.out]
        go_wp2_with fail
        generalize wr = w5 at *
        go_loopw [11, 42] (fun u11 i wr => ∃ q : Nat, q ≤ j ∧ i = .int .i64 q ∧ Hid (∀ (a : Nat) (x : Mk), a < q → l[a]? = some x → k ≠ x.1) ∧ Hid (Below wx.heap.size wx wr)) (fun _ i _ => j - (intOf i).toNat)
        case atStart => exact ⟨0, Nat.zero_le _, rfl, fun a x ha => absurd ha (Nat.not_lt_zero _), Below.refl _ _⟩
        case round =>
          obtain ⟨q, hq, rfl, HD, HWq⟩ := hrel
          have hq9 : wr.heap[w5.heap.size]? = some (.cells #[.string k, .int .i64 y] 29) := (HWq.out.block _ hl9).trans HX9.out
          have x0 : wr.cell? ⟨w5.heap.size, 0, none⟩ = some (.string k) := by unfold World.cell?; rw [hq9]; rfl
          have x1 : wr.cell? ⟨w5.heap.size, 1, none⟩ = some (.int .i64 y) := by unfold World.cell?; rw [hq9]; rfl
          clear hq9
          by_cases hqj : q < j
          · have hqj' : (q : Int) < (j : Int) := by omega
            have hql : q < l.length := by omega
            obtain ⟨f1, f2⟩ := HCC.out q hql
            have g1 := (HWq.out.cell (p := ⟨b0, off + q * 2, none⟩) (Nat.lt_of_lt_of_le hb0 HBX.out.size)).trans ((HBX.out.cell (p := ⟨b0, off + q * 2, none⟩) hb0).trans f1)
            have g2 := (HWq.out.cell (p := ⟨b0, off + q * 2 + 1, none⟩) (Nat.lt_of_lt_of_le hb0 HBX.out.size)).trans ((HBX.out.cell (p := ⟨b0, off + q * 2 + 1, none⟩) hb0).trans f2)
            have HGQ : Hid (l[q]? = some l[q]) := List.getElem?_eq_getElem hql
            have HYE : Hid (l[q] = (l[q].1, l[q].2)) := rfl
            have hbq : Below wr.heap.size wr (wr.alloc (.cells #[.string l[q].1, .int .i64 l[q].2] 29)) := (Below.refl _ _).alloc (Nat.le_refl _) _
            have HB2 : Hid (Below wx.heap.size wx (wr.alloc (.cells #[.string l[q].1, .int .i64 l[q].2] 29))) := HWq.out.trans (hbq.mono HWq.out.size)
            have hn0 : (wr.alloc (.cells #[.string l[q].1, .int .i64 l[q].2] 29)).cell? ⟨w5.heap.size, 0, none⟩ = some (.string k) := (hbq.cell (p := ⟨w5.heap.size, 0, none⟩) (Nat.lt_of_lt_of_le hl9 HWq.out.size)).trans x0
            clear f1 f2 hbq
            generalize l[q].1 = k2 at *
            generalize l[q].2 = y2 at *
            rw [HYE.out] at HGQ
            by_cases hkk : k = k2
            · have HT2 := Lib.hid ((HEX.out.below HB2.out).tab)
              have HLO := Lib.hid ((HEX.out.below HB2.out).low)
              subst hkk
              have hs := str_beq_self k
              go_wp2_with fail
              refine (HAW.out _ HT2.out).mono ?_
              rintro e w3 ⟨rfl, b3⟩
              have HL3 := Lib.hid (HLO.out.trans (b3.mono HLO.out.size))
              clear b3
              go_wp2_with fail
              go_ret
              exact ⟨rfl, HL3.out⟩
            · have hs := str_beq_ne hkk
              have HD2 : Hid (∀ (a : Nat) (x : Mk), a < q + 1 → l[a]? = some x → k ≠ x.1) := by
                intro a x ha hx
                rcases (show a < q ∨ a = q by omega) with h | rfl
                · exact HD.out a x h hx
                · rw [HGQ.out] at hx; cases hx; exact hkk
              clear hkk
              go_wp2_with fail
              go_roundw
              case rel => exact ⟨q + 1, by omega, by go_num, HD2, HB2⟩
              case measure => simp [intOf]; omega
          · obtain rfl : q = j := by omega
            have HU2 : Hid (UnlTo l (q + 1)) := unlTo_step HU.out (fun a x z ha hx hz => by rw [HGJ.out] at hz; cases hz; exact HD.out a x ha hx)
            have HOq := Lib.hid (owns_below HOX.out HWq.out)
            have HWq1 : Hid (Below w1.heap.size w1 wr) := HWX1.out.trans (HWq.out.mono HWX1.out.size)
            have hrl : (l.take q).reverse.length ≤ 40 := by simp; omega
            have hzq : w1.heap.size ≤ wr.heap.size := HWq1.out.size
            generalize (l.take q).reverse = R at *
            generalize hR1 : (l.take (q + 1)).reverse = R1 at *
            go_wp2_with (at_builtin; refine wpList_append_mks rfl _ _ _ rfl Tryd.underlying25 w1.heap.size (.slice (some ⟨wr.heap.size, 0, none⟩) 1 1) [(k, y)] rfl (owns_lit (x := (k, y)) hzq _ rfl) _ R rfl (MkN.of_owns (HOq.out.alloc _)) (by simp; omega) (by simp; omega) ?_)
            intro v7 w7 ho7 hg7
            have HB7 : Hid (Below w1.heap.size w1 w7) := (HWq1.out.alloc HWq1.out.size _).grown hg7 (by simp; omega) (fun j e => by cases e; exact HWq1.out.size)
            have HO7 : Hid (w7.ownsRow w1.heap.size 29 2 v7 R1.length (mkC R1)) := by unfold Hid; rw [HRV.out]; exact ho7
            clear ho7 hg7
            go_wp2_with fail
            go_roundw
            case rel => exact ⟨q + 1, by omega, by go_num, by rw [hR1]; exact HO7, HB7, HU2⟩
            case measure => simp [intOf]; omega
      · obtain rfl : j = n := by omega
        have hU : Unl l := unlTo_all (by rw [← HN.out]; exact HU.out)
        have hrp : (l.take j).reverse.Perm l := by rw [HN.out, List.take_length]; exact List.reverse_perm l
        have hml := MkN.of_owns HO.out
        have hrlen : (l.take j).reverse.length = j := by have := HN.out; simp; omega
        rw [hrlen] at HO
        generalize (l.take j).reverse = R at *
        go_upto_region 15 with fail
        obtain ⟨KL, hKL⟩ : ∃ KL, KL = keepL bl partI p l := ⟨_, rfl⟩
        obtain ⟨DL, hDL⟩ : ∃ DL, DL = dropL bl partI p l := ⟨_, rfl⟩
        have HKL := Lib.hid hKL
        have HDL := Lib.hid hDL
        have HUU := Lib.hid hU
        have HKP : Hid (∀ w', EnvR W p m (.slice A j c) l w' → Calls Tryd.prog 8 #[.agg #[.int .i64 p.a, .int .i64 p.b, .int .i64 p.c, .int .i64 p.d, .int .i64 p.e, .int .i64 p.f], .slice A j c] w' fun e w'' => ∃ v', e = .returned v' ∧ StrsB w'' v' KL ∧ Below w'.heap.size w' w'') := fun w' h => by rw [hKL]; exact keep_any p l _ w' HP.out h.ml hU HL100.out (by rw [← HN.out]; omega)
        have HDP : Hid (∀ w', EnvR W p m (.slice A j c) l w' → Calls Tryd.prog 9 #[.agg #[.int .i64 p.a, .int .i64 p.b, .int .i64 p.c, .int .i64 p.d, .int .i64 p.e, .int .i64 p.f], .slice A j c] w' fun e w'' => ∃ v', e = .returned v' ∧ StrsB w'' v' DL ∧ Below w'.heap.size w' w'') := fun w' h => by rw [hDL]; exact drop_any p l _ w' HP.out h.ml hU HL100.out (by rw [← HN.out]; omega)
        have HML := Lib.hid hml
        have HRP := Lib.hid hrp
        clear hKL hDL hU hml hrp HO HW HU hlt
        go_cut [12, 13] from 58 to 63 (fun s12 s13 wx => ∃ (A1 : Option Addr) (c1 : Nat) (A2 : Option Addr) (c2 : Nat), s12 = .slice A1 KL.length c1 ∧ s13 = .slice A2 DL.length c2 ∧ Hid (StrsB wx (.slice A1 KL.length c1) KL) ∧ Hid (StrsB wx (.slice A2 DL.length c2) DL) ∧ Hid (Below wr.heap.size wr wx))
        case first =>
          have hbd : Below wr.heap.size wr wr.drew := (Below.refl _ _).drew
          refine wp_region_noPanic ?_
          refine wp_region_held_drew (S := fun w' => Below wr.drew.heap.size wr.drew w') (by kernel_rfl) (Below.refl _ _) (fun hHeld => ?_)
          have HBD := Lib.hid hbd
          have HEd := Lib.hid (HEr.out.below hbd)
          clear hbd
          generalize wr.drew = wd at *
          have HPC : Hid (∀ w', Below wd.heap.size wd w' → w'.cell? ⟨W.heap.size, 0, none⟩ = some (.int .i64 p.a) ∧ w'.cell? ⟨W.heap.size, 1, none⟩ = some (.int .i64 p.b) ∧ w'.cell? ⟨W.heap.size, 2, none⟩ = some (.int .i64 p.c) ∧ w'.cell? ⟨W.heap.size, 3, none⟩ = some (.int .i64 p.d) ∧ w'.cell? ⟨W.heap.size, 4, none⟩ = some (.int .i64 p.e) ∧ w'.cell? ⟨W.heap.size, 5, none⟩ = some (.int .i64 p.f)) := fun w' b => pol_cells (HEd.out.below b).pb
          refine wpAnyH_take (i := 0) (v := .agg #[.int .i64 p.a, .int .i64 p.b, .int .i64 p.c, .int .i64 p.d, .int .i64 p.e, .int .i64 p.f]) rfl (by kernel_rfl) (by kernel_rfl) (by kernel_rfl) (fun _ _ _ h => h) (Or.inl ⟨by kernel_rfl, ?_⟩) hHeld ?_
          · intro wz hSw
            obtain ⟨x0, x1, x2, x3, x4, x5⟩ := HPC.out wz hSw
            go_simp
          try simp only [Act.put, List.getElem_toArray, List.getElem_cons_succ, List.getElem_cons_zero, List.setIfInBounds_toArray, List.set_cons_zero, List.set_cons_succ]
          refine wpAnyH_take (i := 3) (v := .agg #[.int .i64 p.a, .int .i64 p.b, .int .i64 p.c, .int .i64 p.d, .int .i64 p.e, .int .i64 p.f]) rfl (by kernel_rfl) (by kernel_rfl) (by kernel_rfl) (fun _ _ _ h => h) (Or.inl ⟨by kernel_rfl, ?_⟩) hHeld ?_
          · intro wz hSw
            obtain ⟨x0, x1, x2, x3, x4, x5⟩ := HPC.out wz hSw
            go_simp
          try simp only [Act.put, List.getElem_toArray, List.getElem_cons_succ, List.getElem_cons_zero, List.setIfInBounds_toArray, List.set_cons_zero, List.set_cons_succ]
          refine' wpAnyH_take (i := 1) (v := ?v1) rfl (by kernel_rfl) (by kernel_rfl) (by kernel_rfl) (fun _ _ _ h => h) (Or.inl ⟨by kernel_rfl, ?hy1⟩) (by assumption) ?rest1
          case hy1 => (intro w hSw; (try dsimp only at hSw); go_simp; try with_reducible rfl)
          try simp only [Act.put, List.getElem_toArray, List.getElem_cons_succ, List.getElem_cons_zero, List.setIfInBounds_toArray, List.set_cons_zero, List.set_cons_succ]
          refine' wpAnyH_take (i := 4) (v := ?v2) rfl (by kernel_rfl) (by kernel_rfl) (by kernel_rfl) (fun _ _ _ h => h) (Or.inl ⟨by kernel_rfl, ?hy2⟩) (by assumption) ?rest2
          case hy2 => (intro w hSw; (try dsimp only at hSw); go_simp; try with_reducible rfl)
          try simp only [Act.put, List.getElem_toArray, List.getElem_cons_succ, List.getElem_cons_zero, List.setIfInBounds_toArray, List.set_cons_zero, List.set_cons_succ]
          refine wpAnyH_ready (rs := [2]) (by kernel_rfl) (by simp) ?_
          refine AllReadyH.cons rfl (fun K hK => ?_) AllReadyH.nil
          refine oper_call (some 60) rfl 8 #[.agg #[.int .i64 p.a, .int .i64 p.b, .int .i64 p.c, .int .i64 p.d, .int .i64 p.e, .int .i64 p.f], .slice A j c] (by kernel_rfl) (fun v w2 => StrsB w2 v KL ∧ Below wd.heap.size wd w2) (HKP.out _ HEd.out) ?_
          rintro vk w2 ⟨hk, b2⟩
          have HK2 := Lib.hid hk
          obtain ⟨A1, c1, rfl, _, _⟩ := hk.len
          have HB2 := Lib.hid b2
          have HE2 := Lib.hid (HEd.out.below b2)
          clear hk b2
          refine hK.out _ _ HB2.out (fun hHeld => ?_)
          clear hK K
          try simp only [Act.put, List.getElem_toArray, List.getElem_cons_succ, List.getElem_cons_zero, List.setIfInBounds_toArray, List.set_cons_zero, List.set_cons_succ]
          refine wpAnyH_ready (rs := [5]) (by kernel_rfl) (by simp) ?_
          refine AllReadyH.cons rfl (fun K hK => ?_) AllReadyH.nil
          refine oper_call (some 63) rfl 9 #[.agg #[.int .i64 p.a, .int .i64 p.b, .int .i64 p.c, .int .i64 p.d, .int .i64 p.e, .int .i64 p.f], .slice A j c] (by kernel_rfl) (fun v w3 => StrsB w3 v DL ∧ Below w2.heap.size w2 w3) (HDP.out _ HE2.out) ?_
          rintro vd w3 ⟨hd, b3⟩
          have HD3 := Lib.hid hd
          obtain ⟨A2, c2, rfl, _, _⟩ := hd.len
          have HB3 := Lib.hid (HB2.out.trans (b3.mono HB2.out.size))
          have HK3 := Lib.hid (HK2.out.below b3 (Nat.le_refl _))
          clear hd b3 HK2
          refine hK.out _ _ HB3.out (fun hHeld => ?_)
          clear hK K
          try simp only [Act.put, List.getElem_toArray, List.getElem_cons_succ, List.getElem_cons_zero, List.setIfInBounds_toArray, List.set_cons_zero, List.set_cons_succ]
          refine' wpAnyH_take (i := 6) (v := ?v3) rfl (by kernel_rfl) (by kernel_rfl) (by kernel_rfl) (fun _ _ _ h => h) (Or.inl ⟨by kernel_rfl, ?hy3⟩) (by assumption) ?rest3
          case hy3 => (intro w hSw; (try dsimp only at hSw); go_simp; try with_reducible rfl)
          try simp only [Act.put, List.getElem_toArray, List.getElem_cons_succ, List.getElem_cons_zero, List.setIfInBounds_toArray, List.set_cons_zero, List.set_cons_succ]
          refine' wpAnyH_take (i := 7) (v := ?v4) rfl (by kernel_rfl) (by kernel_rfl) (by kernel_rfl) (fun _ _ _ h => h) (Or.inl ⟨by kernel_rfl, ?hy4⟩) (by assumption) ?rest4
          case hy4 => (intro w hSw; (try dsimp only at hSw); go_simp; try with_reducible rfl)
          try simp only [Act.put, List.getElem_toArray, List.getElem_cons_succ, List.getElem_cons_zero, List.setIfInBounds_toArray, List.set_cons_zero, List.set_cons_succ]
          refine wpAnyH_done (by kernel_rfl) ?_ _
          refine NoPanic.normal ?_
          go_wp2_with fail
          go_meet
          exact ⟨A1, c1, A2, c2, rfl, rfl, HK3, HD3, HBD.out.trans (HB3.out.mono HBD.out.size)⟩
        case rest =>
        obtain ⟨A1, c1, A2, c2, rfl, rfl, HK, HD, HWc⟩ := hcut
        have HEc := Lib.hid (HEr.out.below HWc.out)
        have HMLc : Hid (MkN wc u7 R) := HML.out.below HWc.out (Nat.le_refl _)
        obtain ⟨Am, cm, hum⟩ : ∃ Am cm, u7 = .slice Am j cm := by
          obtain ⟨⟨A9, c9, h9, _⟩, _⟩ := HML.out
          exact ⟨A9, c9, by rw [h9, hrlen]⟩
        subst hum
        clear HML HWc HEr HE1
        have HBS0 : Hid ((0 : Int) = ((okTo l 0).length : Nat) ∧ (-1 : Int) = (bestL bl (okTo l 0)).2 ∧ (⟨#[]⟩ : ByteArray) = (bestL bl (okTo l 0)).1) := by
          have e : okTo l 0 = [] := by simp [okTo]
          rw [e]
          exact ⟨rfl, rfl, rfl⟩
        go_wp2_with fail
        go_loopw [14, 15, 16, 18, 66] (fun a b s b18 i w3 => ∃ q : Nat, q ≤ j ∧ i = .int .i64 q ∧ a = .int .i64 ((okTo l q).length : Nat) ∧ b = .int .i64 (bestL bl (okTo l q)).2 ∧ s = .string (bestL bl (okTo l q)).1 ∧ Hid (Below wc.heap.size wc w3)) (fun _ _ _ _ i _ => j - (intOf i).toNat)
        case atStart => exact ⟨0, Nat.zero_le _, rfl, by rw [← HBS0.out.1], by rw [← HBS0.out.2.1], by rw [← HBS0.out.2.2], Below.refl _ _⟩
        case round =>
          obtain ⟨q, hq, rfl, rfl, rfl, rfl, HW3⟩ := hrel
          clear HBS0
          have HE3 := Lib.hid (HEc.out.below HW3.out)
          by_cases hqj : q < j
          · have hqj' : (q : Int) < (j : Int) := by omega
            have hql : q < l.length := by rw [← HN.out]; exact hqj
            obtain ⟨⟨A9, c9, hv9, _, _, hz9⟩, _⟩ := HE3.out.ml
            injection hv9 with hv9a hv9b hv9c
            subst hv9a hv9c
            obtain ⟨b0, off, rfl, hb0, hc⟩ := hz9 (by omega)
            obtain ⟨e1, e2⟩ := hc q hql
            have HXE : Hid (l[q] = (l[q].1, l[q].2)) := rfl
            have HST := Lib.hid (okTo_step l q hql)
            have hone := fun ho => ret_one (nlt := bl) (fs := partI) HUU.out p (List.getElem_mem hql) ho
            rw [← HKL.out, ← HDL.out] at hone
            have HONE := Lib.hid hone
            have hklen := okTo_le l q
            rw [← HN.out] at hklen
            clear hc hz9 hv9b hone
            generalize l[q].1 = k at *
            generalize l[q].2 = y at *
            rw [HXE.out] at HST HONE
            generalize hK1 : okTo l (q + 1) = K1 at *
            generalize okTo l q = KO at *
            have h40 : KO.length ≤ 40 := by omega
            have HWx : Hid (Below wc.heap.size wc (wr.alloc (.cells #[.string k, .int .i64 y] 29))) := HW3.out.alloc HW3.out.size _
            by_cases hok : okAt (k, y) = true
            · rw [if_pos hok] at HST
              have hon := HONE.out hok
              have hy : 0 ≤ y ∧ y ≤ 274877906944 := by simpa [okAt] using hok
              have hy1 : decide (y < 0) = false := by rw [decide_eq_false_iff_not]; omega
              have hy2 : decide (274877906944 < y) = false := by rw [decide_eq_false_iff_not]; omega
              have HBK : Hid (bestL bl K1 = bestStep bl (bestL bl KO) (k, y)) := by unfold Hid; rw [HST.out, best_snoc]
              have HNK : Hid (((K1.length : Nat) : Int) = (KO.length : Int) + 1) := by unfold Hid; rw [HST.out]; simp
              generalize hbb : bestL bl KO = B0 at *
              obtain ⟨bn, ba⟩ := B0
              have heq : (inB KL k == inB DL k) = false := by
                have h1 := inB_iff KL k
                have h2 := inB_iff DL k
                cases ha : inB KL k with
                | true => cases hb : inB DL k with
                  | true => exact absurd (h2.1 hb) (hon.1 (h1.1 ha))
                  | false => rfl
                | false => cases hb : inB DL k with
                  | true => rfl
                  | false => exact absurd (hon.2 (fun h => by rw [h2.2 h] at hb; cases hb)) (fun h => by rw [h1.2 h] at ha; cases ha)
              have HEQ := Lib.hid heq
              have HIK := Lib.hid (fun w' (h : StrsB w' (.slice A1 KL.length c1) KL) => in_any w' _ KL k h)
              have HID := Lib.hid (fun w' (h : StrsB w' (.slice A2 DL.length c2) DL) => in_any w' _ DL k h)
              have HKx := Lib.hid (HK.out.below HWx.out (Nat.le_refl _))
              have HDx := Lib.hid (HD.out.below HWx.out (Nat.le_refl _))
              generalize inB KL k = ik at *
              generalize inB DL k = id0 at *
              clear hok hon HONE hbb
              obtain ⟨wy, hwy⟩ : ∃ wy, wy = wr.alloc (.cells #[.string k, .int .i64 y] 29) := ⟨_, rfl⟩
              have HWY := Lib.hid hwy.symm
              have hcy : wy.heap[wr.heap.size]? = some (.cells #[.string k, .int .i64 y] 29) := by rw [hwy]; exact heap_alloc_new _ _
              have HCY : Hid (∀ nq, (wy.drewN nq).cell? ⟨wr.heap.size, 0, none⟩ = some (.string k) ∧ (wy.drewN nq).cell? ⟨wr.heap.size, 1, none⟩ = some (.int .i64 y)) := fun nq => ⟨by show wy.cell? _ = _; unfold World.cell?; rw [hcy]; rfl, by show wy.cell? _ = _; unfold World.cell?; rw [hcy]; rfl⟩
              rw [← hwy] at HWx HKx HDx
              have y0 : wy.cell? ⟨wr.heap.size, 0, none⟩ = some (.string k) := (HCY.out 0).1
              have y1 : wy.cell? ⟨wr.heap.size, 1, none⟩ = some (.int .i64 y) := (HCY.out 0).2
              clear hwy hcy
              go_upto_region 22 with (rw [HWY.out])
              go_cut [95] from 80 to 95 (fun s95 wx => s95 = .bool (ltM bl (k, y) (bn, ba)) ∧ wx = wy)
              case first =>
                by_cases h1 : ba < y
                · have d1 : decide (ba < y) = true := by simpa using h1
                  have HLT : Hid (ltM bl (k, y) (bn, ba) = true) := by unfold Hid ltM; simp [h1]
                  go_wp2_with fail
                  go_meet
                  exact ⟨by rw [HLT.out], rfl⟩
                · have d1 : decide (ba < y) = false := by simpa using h1
                  by_cases h2 : y = ba
                  · have d2 : (y == ba) = true := by simpa using h2
                    have HLT : Hid (ltM bl (k, y) (bn, ba) = bl k bn) := by unfold Hid ltM; simp [h1, h2]
                    have hbs : Op.bytesLess k.toList bn.toList = bl k bn := by rw [toList_data, toList_data]; rfl
                    generalize bl k bn = bb at *
                    subst h2
                    go_wp2_with fail
                    go_meet
                    exact ⟨by rw [HLT.out], rfl⟩
                  · have d2 : (y == ba) = false := by simpa using h2
                    have HLT : Hid (ltM bl (k, y) (bn, ba) = false) := by unfold Hid ltM; simp [h1, h2]
                    go_wp2_with fail
                    go_meet
                    exact ⟨by rw [HLT.out], rfl⟩
              case rest =>
              obtain ⟨rfl, hwc⟩ := hcut
              replace hwc := hwc.symm
              subst hwc
              have HBE : Hid (bestStep bl (bn, ba) (k, y) = if ltM bl (k, y) (bn, ba) then (k, y) else (bn, ba)) := rfl
              cases hlm : ltM bl (k, y) (bn, ba) with
              | true =>
                rw [hlm, if_pos rfl] at HBE
                go_wp2_with fail
                refine wp_region_noPanic ?_
                refine wp_region_held_drew (S := fun w' => w'.cell? ⟨wr.heap.size, 0, none⟩ = some (.string k) ∧ w'.cell? ⟨wr.heap.size, 1, none⟩ = some (.int .i64 y)) (by kernel_rfl) ⟨y0, y1⟩ (fun hHeld => ?_)
                refine wpAnyH_take (i := 0) (v := .pointer (some ⟨wr.heap.size, 1, none⟩)) rfl (by kernel_rfl) (by kernel_rfl) (by kernel_rfl) (fun _ _ _ h => h) (Or.inl ⟨by kernel_rfl, fun w hSw => by kernel_rfl⟩) hHeld ?_
                try simp only [Act.put, List.getElem_toArray, List.getElem_cons_succ, List.getElem_cons_zero, List.setIfInBounds_toArray, List.set_cons_zero, List.set_cons_succ]
                refine wpAnyH_take (i := 2) (v := .pointer (some ⟨wr.heap.size, 0, none⟩)) rfl (by kernel_rfl) (by kernel_rfl) (by kernel_rfl) (fun _ _ _ h => h) (Or.inl ⟨by kernel_rfl, fun w hSw => by kernel_rfl⟩) hHeld ?_
                try simp only [Act.put, List.getElem_toArray, List.getElem_cons_succ, List.getElem_cons_zero, List.setIfInBounds_toArray, List.set_cons_zero, List.set_cons_succ]
                refine wpAnyH_take (i := 1) (v := .int .i64 y) rfl (by kernel_rfl) (by kernel_rfl) (by kernel_rfl) (fun _ _ _ h => h) (yieldsIf_loadAt (by kernel_rfl) 2 (.tmp 96) rfl (.pointer (some ⟨wr.heap.size, 1, none⟩)) (.int .i64 y) (by kernel_rfl) (fun w hSw => by have hh := hSw.2; go_simp)) hHeld ?_
                try simp only [Act.put, List.getElem_toArray, List.getElem_cons_succ, List.getElem_cons_zero, List.setIfInBounds_toArray, List.set_cons_zero, List.set_cons_succ]
                refine wpAnyH_take (i := 3) (v := .string k) rfl (by kernel_rfl) (by kernel_rfl) (by kernel_rfl) (fun _ _ _ h => h) (yieldsIf_loadAt (by kernel_rfl) 9 (.tmp 98) rfl (.pointer (some ⟨wr.heap.size, 0, none⟩)) (.string k) (by kernel_rfl) (fun w hSw => by have hh := hSw.1; go_simp)) hHeld ?_
                try simp only [Act.put, List.getElem_toArray, List.getElem_cons_succ, List.getElem_cons_zero, List.setIfInBounds_toArray, List.set_cons_zero, List.set_cons_succ]
                refine wpAnyH_take (i := 4) (v := .int .i64 y) rfl (by kernel_rfl) (by kernel_rfl) (by kernel_rfl) (fun _ _ _ h => h) (Or.inl ⟨by kernel_rfl, fun w hSw => by kernel_rfl⟩) hHeld ?_
                try simp only [Act.put, List.getElem_toArray, List.getElem_cons_succ, List.getElem_cons_zero, List.setIfInBounds_toArray, List.set_cons_zero, List.set_cons_succ]
                refine wpAnyH_take (i := 5) (v := .string k) rfl (by kernel_rfl) (by kernel_rfl) (by kernel_rfl) (fun _ _ _ h => h) (Or.inl ⟨by kernel_rfl, fun w hSw => by kernel_rfl⟩) hHeld ?_
                try simp only [Act.put, List.getElem_toArray, List.getElem_cons_succ, List.getElem_cons_zero, List.setIfInBounds_toArray, List.set_cons_zero, List.set_cons_succ]
                refine wpAnyH_done (by kernel_rfl) ?_ _
                refine NoPanic.normal ?_
                go_wp2_with fail
                refine wp_region_noPanic ?_
                refine wp_region_held_drew (S := fun w' => w'.cell? ⟨wr.heap.size, 0, none⟩ = some (.string k) ∧ Below wc.heap.size wc w') (by kernel_rfl) ⟨by show wy.cell? _ = _; exact y0, HWx.out.drew.drew⟩ (fun hHeld => ?_)
                refine wpAnyH_take (i := 0) (v := .slice A1 KL.length c1) rfl (by kernel_rfl) (by kernel_rfl) (by kernel_rfl) (fun _ _ _ h => h) (Or.inl ⟨by kernel_rfl, fun w hSw => by kernel_rfl⟩) hHeld ?_
                try simp only [Act.put, List.getElem_toArray, List.getElem_cons_succ, List.getElem_cons_zero, List.setIfInBounds_toArray, List.set_cons_zero, List.set_cons_succ]
                refine wpAnyH_take (i := 1) (v := .pointer (some ⟨wr.heap.size, 0, none⟩)) rfl (by kernel_rfl) (by kernel_rfl) (by kernel_rfl) (fun _ _ _ h => h) (Or.inl ⟨by kernel_rfl, fun w hSw => by kernel_rfl⟩) hHeld ?_
                try simp only [Act.put, List.getElem_toArray, List.getElem_cons_succ, List.getElem_cons_zero, List.setIfInBounds_toArray, List.set_cons_zero, List.set_cons_succ]
                refine wpAnyH_take (i := 4) (v := .slice A2 DL.length c2) rfl (by kernel_rfl) (by kernel_rfl) (by kernel_rfl) (fun _ _ _ h => h) (Or.inl ⟨by kernel_rfl, fun w hSw => by kernel_rfl⟩) hHeld ?_
                try simp only [Act.put, List.getElem_toArray, List.getElem_cons_succ, List.getElem_cons_zero, List.setIfInBounds_toArray, List.set_cons_zero, List.set_cons_succ]
                refine wpAnyH_take (i := 5) (v := .pointer (some ⟨wr.heap.size, 0, none⟩)) rfl (by kernel_rfl) (by kernel_rfl) (by kernel_rfl) (fun _ _ _ h => h) (Or.inl ⟨by kernel_rfl, fun w hSw => by kernel_rfl⟩) hHeld ?_
                try simp only [Act.put, List.getElem_toArray, List.getElem_cons_succ, List.getElem_cons_zero, List.setIfInBounds_toArray, List.set_cons_zero, List.set_cons_succ]
                refine wpAnyH_take (i := 2) (v := .string k) rfl (by kernel_rfl) (by kernel_rfl) (by kernel_rfl) (fun _ _ _ h => h) (yieldsIf_loadAt (by kernel_rfl) 9 (.tmp 101) rfl (.pointer (some ⟨wr.heap.size, 0, none⟩)) (.string k) (by kernel_rfl) (fun w hSw => by have hh := hSw.1; go_simp)) hHeld ?_
                try simp only [Act.put, List.getElem_toArray, List.getElem_cons_succ, List.getElem_cons_zero, List.setIfInBounds_toArray, List.set_cons_zero, List.set_cons_succ]
                refine wpAnyH_take (i := 6) (v := .string k) rfl (by kernel_rfl) (by kernel_rfl) (by kernel_rfl) (fun _ _ _ h => h) (yieldsIf_loadAt (by kernel_rfl) 9 (.tmp 105) rfl (.pointer (some ⟨wr.heap.size, 0, none⟩)) (.string k) (by kernel_rfl) (fun w hSw => by have hh := hSw.1; go_simp)) hHeld ?_
                try simp only [Act.put, List.getElem_toArray, List.getElem_cons_succ, List.getElem_cons_zero, List.setIfInBounds_toArray, List.set_cons_zero, List.set_cons_succ]
                refine wpAnyH_ready (rs := [3]) (by kernel_rfl) (by simp) ?_
                refine AllReadyH.cons rfl (fun K hK => ?_) AllReadyH.nil
                refine oper_pure (some 103) rfl 10 #[.slice A1 KL.length c1, .string k] (by kernel_rfl) (.bool ik) (HIK.out _ (HK.out.below hHeld.2 (Nat.le_refl _))) ?_
                refine hK.out _ _ hHeld (fun hHeld => ?_)
                clear hK K
                try simp only [Act.put, List.getElem_toArray, List.getElem_cons_succ, List.getElem_cons_zero, List.setIfInBounds_toArray, List.set_cons_zero, List.set_cons_succ]
                refine wpAnyH_ready (rs := [7]) (by kernel_rfl) (by simp) ?_
                refine AllReadyH.cons rfl (fun K hK => ?_) AllReadyH.nil
                refine oper_pure (some 107) rfl 10 #[.slice A2 DL.length c2, .string k] (by kernel_rfl) (.bool id0) (HID.out _ (HD.out.below hHeld.2 (Nat.le_refl _))) ?_
                refine hK.out _ _ hHeld (fun hHeld => ?_)
                clear hK K
                try simp only [Act.put, List.getElem_toArray, List.getElem_cons_succ, List.getElem_cons_zero, List.setIfInBounds_toArray, List.set_cons_zero, List.set_cons_succ]
                refine wpAnyH_take (i := 8) (v := .bool false) rfl (by kernel_rfl) (by kernel_rfl) (by kernel_rfl) (fun _ _ _ h => h) (Or.inl ⟨by kernel_rfl, fun w hSw => by rw [← HEQ.out]; kernel_rfl⟩) hHeld ?_
                try simp only [Act.put, List.getElem_toArray, List.getElem_cons_succ, List.getElem_cons_zero, List.setIfInBounds_toArray, List.set_cons_zero, List.set_cons_succ]
                refine wpAnyH_done (by kernel_rfl) ?_ _
                refine NoPanic.normal ?_
                go_wp2_with fail
                go_roundw
                case rel => exact ⟨q + 1, by omega, by go_num, by rw [hK1, HNK.out], by rw [hK1, HBK.out, HBE.out], by rw [hK1, HBK.out, HBE.out], hHeld.2⟩
                case measure => simp [intOf]; omega
              | false =>
                rw [hlm, if_neg (by decide)] at HBE
                go_wp2_with fail
                refine wp_region_noPanic ?_
                refine wp_region_held_drew (S := fun w' => w'.cell? ⟨wr.heap.size, 0, none⟩ = some (.string k) ∧ Below wc.heap.size wc w') (by kernel_rfl) ⟨by show wy.cell? _ = _; exact y0, HWx.out.drew⟩ (fun hHeld => ?_)
                refine wpAnyH_take (i := 0) (v := .slice A1 KL.length c1) rfl (by kernel_rfl) (by kernel_rfl) (by kernel_rfl) (fun _ _ _ h => h) (Or.inl ⟨by kernel_rfl, fun w hSw => by kernel_rfl⟩) hHeld ?_
                try simp only [Act.put, List.getElem_toArray, List.getElem_cons_succ, List.getElem_cons_zero, List.setIfInBounds_toArray, List.set_cons_zero, List.set_cons_succ]
                refine wpAnyH_take (i := 1) (v := .pointer (some ⟨wr.heap.size, 0, none⟩)) rfl (by kernel_rfl) (by kernel_rfl) (by kernel_rfl) (fun _ _ _ h => h) (Or.inl ⟨by kernel_rfl, fun w hSw => by kernel_rfl⟩) hHeld ?_
                try simp only [Act.put, List.getElem_toArray, List.getElem_cons_succ, List.getElem_cons_zero, List.setIfInBounds_toArray, List.set_cons_zero, List.set_cons_succ]
                refine wpAnyH_take (i := 4) (v := .slice A2 DL.length c2) rfl (by kernel_rfl) (by kernel_rfl) (by kernel_rfl) (fun _ _ _ h => h) (Or.inl ⟨by kernel_rfl, fun w hSw => by kernel_rfl⟩) hHeld ?_
                try simp only [Act.put, List.getElem_toArray, List.getElem_cons_succ, List.getElem_cons_zero, List.setIfInBounds_toArray, List.set_cons_zero, List.set_cons_succ]
                refine wpAnyH_take (i := 5) (v := .pointer (some ⟨wr.heap.size, 0, none⟩)) rfl (by kernel_rfl) (by kernel_rfl) (by kernel_rfl) (fun _ _ _ h => h) (Or.inl ⟨by kernel_rfl, fun w hSw => by kernel_rfl⟩) hHeld ?_
                try simp only [Act.put, List.getElem_toArray, List.getElem_cons_succ, List.getElem_cons_zero, List.setIfInBounds_toArray, List.set_cons_zero, List.set_cons_succ]
                refine wpAnyH_take (i := 2) (v := .string k) rfl (by kernel_rfl) (by kernel_rfl) (by kernel_rfl) (fun _ _ _ h => h) (yieldsIf_loadAt (by kernel_rfl) 9 (.tmp 101) rfl (.pointer (some ⟨wr.heap.size, 0, none⟩)) (.string k) (by kernel_rfl) (fun w hSw => by have hh := hSw.1; go_simp)) hHeld ?_
                try simp only [Act.put, List.getElem_toArray, List.getElem_cons_succ, List.getElem_cons_zero, List.setIfInBounds_toArray, List.set_cons_zero, List.set_cons_succ]
                refine wpAnyH_take (i := 6) (v := .string k) rfl (by kernel_rfl) (by kernel_rfl) (by kernel_rfl) (fun _ _ _ h => h) (yieldsIf_loadAt (by kernel_rfl) 9 (.tmp 105) rfl (.pointer (some ⟨wr.heap.size, 0, none⟩)) (.string k) (by kernel_rfl) (fun w hSw => by have hh := hSw.1; go_simp)) hHeld ?_
                try simp only [Act.put, List.getElem_toArray, List.getElem_cons_succ, List.getElem_cons_zero, List.setIfInBounds_toArray, List.set_cons_zero, List.set_cons_succ]
                refine wpAnyH_ready (rs := [3]) (by kernel_rfl) (by simp) ?_
                refine AllReadyH.cons rfl (fun K hK => ?_) AllReadyH.nil
                refine oper_pure (some 103) rfl 10 #[.slice A1 KL.length c1, .string k] (by kernel_rfl) (.bool ik) (HIK.out _ (HK.out.below hHeld.2 (Nat.le_refl _))) ?_
                refine hK.out _ _ hHeld (fun hHeld => ?_)
                clear hK K
                try simp only [Act.put, List.getElem_toArray, List.getElem_cons_succ, List.getElem_cons_zero, List.setIfInBounds_toArray, List.set_cons_zero, List.set_cons_succ]
                refine wpAnyH_ready (rs := [7]) (by kernel_rfl) (by simp) ?_
                refine AllReadyH.cons rfl (fun K hK => ?_) AllReadyH.nil
                refine oper_pure (some 107) rfl 10 #[.slice A2 DL.length c2, .string k] (by kernel_rfl) (.bool id0) (HID.out _ (HD.out.below hHeld.2 (Nat.le_refl _))) ?_
                refine hK.out _ _ hHeld (fun hHeld => ?_)
                clear hK K
                try simp only [Act.put, List.getElem_toArray, List.getElem_cons_succ, List.getElem_cons_zero, List.setIfInBounds_toArray, List.set_cons_zero, List.set_cons_succ]
                refine wpAnyH_take (i := 8) (v := .bool false) rfl (by kernel_rfl) (by kernel_rfl) (by kernel_rfl) (fun _ _ _ h => h) (Or.inl ⟨by kernel_rfl, fun w hSw => by rw [← HEQ.out]; kernel_rfl⟩) hHeld ?_
                try simp only [Act.put, List.getElem_toArray, List.getElem_cons_succ, List.getElem_cons_zero, List.setIfInBounds_toArray, List.set_cons_zero, List.set_cons_succ]
                refine wpAnyH_done (by kernel_rfl) ?_ _
                refine NoPanic.normal ?_
                go_wp2_with fail
                go_roundw
                case rel => exact ⟨q + 1, by omega, by go_num, by rw [hK1, HNK.out], by rw [hK1, HBK.out, HBE.out], by rw [hK1, HBK.out, HBE.out], hHeld.2⟩
                case measure => simp [intOf]; omega
            · have hok' : okAt (k, y) = false := by simpa using hok
              rw [if_neg hok] at HST
              clear HONE
              by_cases hy0 : y < 0
              · have hy1 : decide (y < 0) = true := by simpa using hy0
                go_wp2_with fail
                go_roundw
                case rel => exact ⟨q + 1, by omega, by go_num, by rw [hK1, HST.out], by rw [hK1, HST.out], by rw [hK1, HST.out], HWx⟩
                case measure => simp [intOf]; omega
              · have hy1 : decide (y < 0) = false := by simpa using hy0
                have hy2 : decide (274877906944 < y) = true := by
                  rw [decide_eq_true_iff]
                  refine Decidable.byContradiction fun h => hok ?_
                  simp [okAt]; omega
                go_wp2_with fail
                go_roundw
                case rel => exact ⟨q + 1, by omega, by go_num, by rw [hK1, HST.out], by rw [hK1, HST.out], by rw [hK1, HST.out], HWx⟩
                case measure => simp [intOf]; omega
          · obtain rfl : q = j := by omega
            have HOA : Hid (okTo l q = l.filter okAt) := by unfold Hid; rw [HN.out]; exact okTo_all l
            rw [HOA.out]
            have hlen := ret_len (nlt := bl) (fs := partI) p l
            rw [← HKL.out, ← HDL.out] at hlen
            have hfl : (l.filter okAt).length ≤ q := by rw [HN.out]; exact List.length_filter_le _ _
            have hsum : ((KL.length : Int) + (DL.length : Int) != ((l.filter okAt).length : Int)) = false := by rw [bne_eq_false_iff_eq]; omega
            have hk40 : KL.length ≤ 40 := by omega
            have hd40 : DL.length ≤ 40 := by omega
            have HKR : Hid (∀ w', MkN w' (.slice Am q cm) R → Calls Tryd.prog 8 #[.agg #[.int .i64 p.a, .int .i64 p.b, .int .i64 p.c, .int .i64 p.d, .int .i64 p.e, .int .i64 p.f], .slice Am q cm] w' fun e w'' => ∃ v', e = .returned v' ∧ StrsB w'' v' KL ∧ Below w'.heap.size w' w'') := fun w' hm => by
              have hr := ret_rev (fs := partI) nord_bl p HRP.out
              have hk := keep_any p R _ w' HP.out hm (unl_perm HUU.out HRP.out) (fun x hx => HL100.out x (HRP.out.mem_iff.1 hx)) (by rw [HRP.out.length_eq, ← HN.out]; omega)
              rw [hr, ← HKL.out] at hk
              exact hk
            have HTX : Hid (∀ w' v', StrsB w' v' KL → StrsB w' (.slice A1 KL.length c1) KL → Calls Tryd.prog 11 #[v', .slice A1 KL.length c1] w' fun e w'' => e = .returned (.bool true) ∧ Below w'.heap.size w' w'') := fun w' v' h1 h2 => by
              have h := texts_any w' v' _ KL KL h1 h2
              rw [sameB_self] at h
              exact h
            have hmr : MkN wr (.slice Am q cm) R := HMLc.out.below HW3.out (Nat.le_refl _)
            have HMR := Lib.hid hmr
            have HKw := Lib.hid (HK.out.below HW3.out (Nat.le_refl _))
            obtain ⟨x0, x1, x2, x3, x4, x5⟩ := pol_cells HE3.out.pb
            clear HMLc hmr HW3 HK HD HEc hqj hfl hlen
            obtain ⟨best, hbest⟩ : ∃ best, bestL bl (l.filter okAt) = best := ⟨_, rfl⟩
            have HBEST := Lib.hid hbest
            rw [hbest]
            clear hbest
            go_wp2_with fail
            refine (HKR.out _ HMR.out).mono ?_
            rintro e w4 ⟨vk, rfl, hk4, b4⟩
            have HE4 := Lib.hid (HE3.out.below b4)
            have HK4 := Lib.hid (HKw.out.below b4 (Nat.le_refl _))
            have HT4 := Lib.hid (HTX.out w4 vk hk4 HK4.out)
            obtain ⟨A4, c4, rfl, _, _⟩ := hk4.len
            clear hk4 b4 HKR HMR HE3 HKw HTX x0 x1 x2 x3 x4 x5
            go_wp2_with fail
            refine HT4.out.mono ?_
            rintro e w5 ⟨rfl, b5⟩
            have HE5 := Lib.hid (HE4.out.below b5)
            have HK5 := Lib.hid (HK4.out.below b5 (Nat.le_refl _))
            clear b5 HE4 HK4 HT4
            have HWY : Hid (Calls Tryd.prog 12 #[.agg #[.int .i64 p.a, .int .i64 p.b, .int .i64 p.c, .int .i64 p.d, .int .i64 p.e, .int .i64 p.f], .slice A q c] w5 fun e w'' => ∃ v' D, e = .returned v' ∧ MkN w'' v' D ∧ D.map (·.1) = KL ∧ (∀ r ∈ D, 1 ≤ r.2 ∧ r.2 ≤ 63) ∧ Below w5.heap.size w5 w'') := by
              have h := why_any p l _ w5 HP.out HE5.out.ml HUU.out HL100.out (by rw [← HN.out]; omega)
              rw [← HKL.out] at h
              exact h
            obtain ⟨x0, x1, x2, x3, x4, x5⟩ := pol_cells HE5.out.pb
            go_wp2_with fail
            refine HWY.out.mono ?_
            rintro e w6 ⟨v6, DR, rfl, hm6, hD6, hr6, b6⟩
            have HE6 := Lib.hid (HE5.out.below b6)
            have HK6 := Lib.hid (HK5.out.below b6 (Nat.le_refl _))
            have HD6 := Lib.hid hD6
            have HR6 := Lib.hid hr6
            obtain ⟨⟨A6, c6, rfl, y2, y3, y4⟩, _⟩ := hm6
            have HC6 := Lib.hid y4
            have hc96 : c6 ≤ 9223372036854775807 := by unfold maxLen at y3; omega
            obtain ⟨dn, hdn⟩ : ∃ dn, dn = DR.length := ⟨_, rfl⟩
            have HDN := Lib.hid hdn
            have hdn40 : dn ≤ 40 := by
              have : KL.length = DR.length := by rw [← hD6]; simp
              omega
            rw [← hdn] at y2
            rw [← hdn]
            clear hD6 hr6 b6 HWY HE5 HK5 y3 y4 hdn x0 x1 x2 x3 x4 x5
            go_wp2_with fail
            go_loopw [20, 129] (fun u i w7 => ∃ z : Nat, z ≤ dn ∧ i = .int .i64 z ∧ Hid (Below w6.heap.size w6 w7)) (fun _ i _ => dn - (intOf i).toNat)
            case atStart => exact ⟨0, Nat.zero_le _, rfl, Below.refl _ _⟩
            case round =>
              obtain ⟨z, hz, rfl, HW7⟩ := hrel
              by_cases hzd : z < dn
              · have hzd' : (z : Int) < (dn : Int) := by omega
                have hzl : z < DR.length := by rw [← HDN.out]; exact hzd
                obtain ⟨b0, off, rfl, hb0, hc⟩ := HC6.out (by omega)
                obtain ⟨e1, e2⟩ := hc z hzl
                have z1 := (HW7.out.cell (p := ⟨b0, off + z * 2, none⟩) hb0).trans e1
                have z2 := (HW7.out.cell (p := ⟨b0, off + z * 2 + 1, none⟩) hb0).trans e2
                have hrb := HR6.out DR[z] (List.getElem_mem hzl)
                have hin : inB KL DR[z].1 = true := by
                  rw [inB_iff, ← HD6.out]
                  exact List.mem_map.2 ⟨DR[z], List.getElem_mem hzl, rfl⟩
                clear hc e1 e2
                generalize DR[z].1 = k at *
                generalize DR[z].2 = y at *
                have hy1 : decide (y < 1) = false := by rw [decide_eq_false_iff_not]; omega
                have hy2 : decide (63 < y) = false := by rw [decide_eq_false_iff_not]; omega
                have HWy : Hid (Below w6.heap.size w6 (wr.alloc (.cells #[.string k, .int .i64 y] 37))) := HW7.out.alloc HW7.out.size _
                have HIN := Lib.hid (in_any _ _ KL k (HK6.out.below HWy.out (Nat.le_refl _)))
                rw [hin] at HIN
                clear hin hrb
                go_wp2_with fail
                refine HIN.out.mono ?_
                rintro e w' ⟨rfl, rfl⟩
                go_wp2_with fail
                go_roundw
                case rel => exact ⟨z + 1, by omega, by go_num, HWy⟩
                case measure => simp [intOf]; omega
              · obtain rfl : z = dn := by omega
                have HE7 := Lib.hid (HE6.out.below HW7.out)
                have HK7 := Lib.hid (HK6.out.below HW7.out (Nat.le_refl _))
                clear HE6 HK6 HC6 HD6 HR6 HW7 hzd
                go_upto_region 35 with fail
                go_cut [21] from 149 to 176 (fun s21 wx => s21 = .bool (someB p) ∧ wx = wr)
                case first =>
                  obtain ⟨x0, x1, x2, x3, x4, x5⟩ := pol_cells HE7.out.pb
                  by_cases qa : 0 < p.a
                  · have da : decide (0 < p.a) = true := by simpa using qa
                    have HSB : Hid (someB p = true) := by unfold Hid someB; simp [qa]
                    go_wp2_with fail
                    go_meet
                    exact ⟨by rw [HSB.out], rfl⟩
                  · have da : decide (0 < p.a) = false := by rw [decide_eq_false_iff_not]; exact qa
                    by_cases qb : 0 < p.b
                    · have db : decide (0 < p.b) = true := by simpa using qb
                      have HSB : Hid (someB p = true) := by unfold Hid someB; simp [qa, qb]
                      go_wp2_with fail
                      go_meet
                      exact ⟨by rw [HSB.out], rfl⟩
                    · have db : decide (0 < p.b) = false := by rw [decide_eq_false_iff_not]; exact qb
                      by_cases qc : 0 < p.c
                      · have dc : decide (0 < p.c) = true := by simpa using qc
                        have HSB : Hid (someB p = true) := by unfold Hid someB; simp [qa, qb, qc]
                        go_wp2_with fail
                        go_meet
                        exact ⟨by rw [HSB.out], rfl⟩
                      · have dc : decide (0 < p.c) = false := by rw [decide_eq_false_iff_not]; exact qc
                        by_cases qd : 0 < p.d
                        · have dd : decide (0 < p.d) = true := by simpa using qd
                          have HSB : Hid (someB p = true) := by unfold Hid someB; simp [qa, qb, qc, qd]
                          go_wp2_with fail
                          go_meet
                          exact ⟨by rw [HSB.out], rfl⟩
                        · have dd : decide (0 < p.d) = false := by rw [decide_eq_false_iff_not]; exact qd
                          by_cases qe : 0 < p.e
                          · have de : decide (0 < p.e) = true := by simpa using qe
                            have HSB : Hid (someB p = true) := by unfold Hid someB; simp [qa, qb, qc, qd, qe]
                            go_wp2_with fail
                            go_meet
                            exact ⟨by rw [HSB.out], rfl⟩
                          · have de : decide (0 < p.e) = false := by rw [decide_eq_false_iff_not]; exact qe
                            by_cases qf : 0 < p.f
                            · have df : decide (0 < p.f) = true := by simpa using qf
                              have HSB : Hid (someB p = true) := by unfold Hid someB; simp [qa, qb, qc, qd, qe, qf]
                              go_wp2_with fail
                              go_meet
                              exact ⟨by rw [HSB.out], rfl⟩
                            · have df : decide (0 < p.f) = false := by rw [decide_eq_false_iff_not]; exact qf
                              have HSB : Hid (someB p = false) := by unfold Hid someB; simp [qa, qb, qc, qd, qe, qf]
                              go_wp2_with fail
                              go_meet
                              exact ⟨by rw [HSB.out], rfl⟩
                case rest =>
                obtain ⟨rfl, hwc⟩ := hcut
                replace hwc := hwc.symm
                subst hwc
                go_upto_region 36 with fail
                go_cut [196] from 177 to 196 (fun s196 wx => s196 = .bool false ∧ wx = wr)
                case first =>
                  have HSE := Lib.hid (fun h => someB_false (p := p) h)
                  have HSO := Lib.hid (fun h => someB_true (p := p) h)
                  generalize someB p = sb at *
                  cases hfl0 : decide (0 < (l.filter okAt).length) with
                  | true =>
                    have hfl0' : decide ((0 : Int) < ((l.filter okAt).length : Int)) = true := by rw [decide_eq_true_iff] at hfl0 ⊢; omega
                    cases sb with
                    | true =>
                      have hbest := ret_best (fs := partI) nord_bl part_ne p l (fun e => by rw [e] at hfl0; simp at hfl0) (HSO.out rfl)
                      rw [HBEST.out, ← HKL.out] at hbest
                      have hin : inB KL best.1 = true := (inB_iff _ _).2 hbest
                      have HIN := Lib.hid (in_any _ _ KL best.1 HK7.out)
                      rw [hin] at HIN
                      clear hin hbest
                      go_wp2_with fail
                      refine HIN.out.mono ?_
                      rintro e w' ⟨rfl, rfl⟩
                      go_wp2_with fail
                      go_meet
                      exact ⟨rfl, rfl⟩
                    | false =>
                      have hno := HSE.out rfl
                      have hkn : KL = [] := by rw [HKL.out]; exact ret_none (nlt := bl) (fs := partI) p l hno.1 hno.2.1 hno.2.2.1 hno.2.2.2.1 hno.2.2.2.2.1 hno.2.2.2.2.2
                      have hk0 : decide ((0 : Int) < (KL.length : Int)) = false := by rw [hkn]; rfl
                      have hk0' : decide (0 < KL.length) = false := by rw [hkn]; rfl
                      clear hkn
                      go_wp2_with fail
                      go_meet
                      exact ⟨rfl, rfl⟩
                  | false =>
                    have hfl0' : decide ((0 : Int) < ((l.filter okAt).length : Int)) = false := by rw [decide_eq_false_iff_not] at hfl0 ⊢; omega
                    cases sb with
                    | true =>
                      go_wp2_with fail
                      go_meet
                      exact ⟨rfl, rfl⟩
                    | false =>
                      have hno := HSE.out rfl
                      have hkn : KL = [] := by rw [HKL.out]; exact ret_none (nlt := bl) (fs := partI) p l hno.1 hno.2.1 hno.2.2.1 hno.2.2.2.1 hno.2.2.2.2.1 hno.2.2.2.2.2
                      have hk0 : decide ((0 : Int) < (KL.length : Int)) = false := by rw [hkn]; rfl
                      have hk0' : decide (0 < KL.length) = false := by rw [hkn]; rfl
                      clear hkn
                      go_wp2_with fail
                      go_meet
                      exact ⟨rfl, rfl⟩
                case rest =>
                obtain ⟨rfl, hwc⟩ := hcut
                replace hwc := hwc.symm
                subst hwc
                go_wp2_with fail
                generalize hwq : wr.alloc (.cells #[.pointer (some ⟨W.heap.size, 0, none⟩), .pointer (some ⟨W.heap.size, 1, none⟩), .pointer (some ⟨W.heap.size, 2, none⟩), .pointer (some ⟨W.heap.size, 3, none⟩), .pointer (some ⟨W.heap.size, 4, none⟩), .pointer (some ⟨W.heap.size, 5, none⟩)] 38) = wq
                have hbq : Below wr.heap.size wr wq := by rw [← hwq]; exact (Below.refl _ _).alloc (Nat.le_refl _) _
                have hq0 : wq.heap[wr.heap.size]? = some (.cells #[.pointer (some ⟨W.heap.size, 0, none⟩), .pointer (some ⟨W.heap.size, 1, none⟩), .pointer (some ⟨W.heap.size, 2, none⟩), .pointer (some ⟨W.heap.size, 3, none⟩), .pointer (some ⟨W.heap.size, 4, none⟩), .pointer (some ⟨W.heap.size, 5, none⟩)] 38) := by rw [← hwq]; exact heap_alloc_new _ _
                have HEq := Lib.hid (HE7.out.below hbq)
                have HKq := Lib.hid (HK7.out.below hbq (Nat.le_refl _))
                have HPQ : Hid (∀ i, i < 6 → wq.cell? ⟨wr.heap.size, i, none⟩ = some (.pointer (some ⟨W.heap.size, i, none⟩))) := fun i hi => by
                  rcases (show i = 0 ∨ i = 1 ∨ i = 2 ∨ i = 3 ∨ i = 4 ∨ i = 5 by omega) with rfl | rfl | rfl | rfl | rfl | rfl <;> (unfold World.cell?; rw [hq0]; rfl)
                have HMQ : Hid (∀ i, i < 6 → wq.cell? ⟨W.heap.size + 1, i, none⟩ = some (.int .u8 (m i : Nat))) := fun i hi => by
                  have hb := HEq.out.mb
                  rcases (show i = 0 ∨ i = 1 ∨ i = 2 ∨ i = 3 ∨ i = 4 ∨ i = 5 by omega) with rfl | rfl | rfl | rfl | rfl | rfl <;> (unfold World.cell?; rw [hb]; rfl)
                have HPW0 : Hid (PwS W wq W.heap.size (fTo p m 0) wq) := by
                  refine ⟨fun i hi => ?_, kpX_refl _ _ _, HEq.out.low, Nat.le_refl _⟩
                  have hb := HEq.out.pb
                  rcases (show i = 0 ∨ i = 1 ∨ i = 2 ∨ i = 3 ∨ i = 4 ∨ i = 5 by omega) with rfl | rfl | rfl | rfl | rfl | rfl <;> exact ⟨by unfold World.cell?; rw [hb]; rfl, by unfold World.frozen?; rw [hb]; rfl⟩
                have hlq : wr.heap.size < wq.heap.size := (Array.getElem?_eq_some_iff.1 hq0).1
                have hlw : W.heap.size + 1 < wr.heap.size := (Array.getElem?_eq_some_iff.1 HE7.out.mb).1
                obtain ⟨bq, hbq2⟩ : ∃ bq, bq = wr.heap.size := ⟨_, rfl⟩
                rw [← hbq2] at HPQ hlq hlw
                rw [← hbq2]
                clear hwq hbq hq0 HE7 HK7 hbq2
                go_loopw [22, 23, 205] (fun s22 s23 i w8 => ∃ z : Nat, z ≤ 6 ∧ i = .int .i64 z ∧ Hid (PwS W wq W.heap.size (fTo p m z) w8)) (fun _ _ i _ => 6 - (intOf i).toNat)
                case atStart => exact ⟨0, Nat.zero_le _, rfl, HPW0⟩
                case round =>
                  obtain ⟨z, hz, rfl, HPW⟩ := hrel
                  clear HPW0
                  by_cases hz6 : z < 6
                  · have hz6' : (z : Int) < 6 := by omega
                    have q1 : wr.cell? ⟨bq, z, none⟩ = some (.pointer (some ⟨W.heap.size, z, none⟩)) := (World.cell?_of_block (HPW.out.kp.1 bq hlq (by omega))).trans (HPQ.out z hz6)
                    have q2 : wr.cell? ⟨W.heap.size + 1, z, none⟩ = some (.int .u8 (m z : Nat)) := (World.cell?_of_block (HPW.out.kp.1 (W.heap.size + 1) (by omega) (by omega))).trans (HMQ.out z hz6)
                    obtain ⟨q3, q4⟩ := HPW.out.box z hz6
                    rw [fTo_at] at q3
                    have hI := pf_I HP.out z
                    have hmz := HMB.out z
                    by_cases hx : pf p z < 1073741824
                    · have dx : decide (pf p z < 1073741824) = true := by simpa using hx
                      have HNX : Hid (PwS W wq W.heap.size (fTo p m (z + 1)) (wr.drew.setCell ⟨W.heap.size, z, none⟩ (.int .i64 (pf p z + (m z : Nat))))) := HPW.out.drew.set (Nat.le_refl _) hz6 hx
                      have q2' : wr.drew.cell? ⟨W.heap.size + 1, z, none⟩ = some (.int .u8 (m z : Nat)) := q2
                      have q3' : wr.drew.cell? ⟨W.heap.size, z, none⟩ = some (.int .i64 (pf p z)) := q3
                      have q4' : wr.drew.frozen? ⟨W.heap.size, z, none⟩ = false := q4
                      generalize pf p z = x at *
                      generalize m z = mz at *
                      go_wp2_with fail
                      refine wp_region_noPanic ?_
                      refine wp_region_held_drew (S := fun _ => True) (by kernel_rfl) trivial (fun hHeld => ?_)
                      refine wpAnyH_take (i := 0) (v := .pointer (some ⟨W.heap.size, z, none⟩)) rfl (by kernel_rfl) (by kernel_rfl) (by kernel_rfl) (fun _ _ _ h => h) (Or.inl ⟨by kernel_rfl, fun w hSw => by kernel_rfl⟩) hHeld ?_
                      try simp only [Act.put, List.getElem_toArray, List.getElem_cons_succ, List.getElem_cons_zero, List.setIfInBounds_toArray, List.set_cons_zero, List.set_cons_succ]
                      refine wpAnyH_take (i := 1) (v := .pointer (some ⟨W.heap.size, z, none⟩)) rfl (by kernel_rfl) (by kernel_rfl) (by kernel_rfl) (fun _ _ _ h => h) (Or.inl ⟨by kernel_rfl, fun w hSw => by kernel_rfl⟩) hHeld ?_
                      try simp only [Act.put, List.getElem_toArray, List.getElem_cons_succ, List.getElem_cons_zero, List.setIfInBounds_toArray, List.set_cons_zero, List.set_cons_succ]
                      refine wpAnyH_take (i := 3) (v := .int .i64 (z : Nat)) rfl (by kernel_rfl) (by kernel_rfl) (by kernel_rfl) (fun _ _ _ h => h) (Or.inl ⟨by kernel_rfl, fun w hSw => by kernel_rfl⟩) hHeld ?_
                      try simp only [Act.put, List.getElem_toArray, List.getElem_cons_succ, List.getElem_cons_zero, List.setIfInBounds_toArray, List.set_cons_zero, List.set_cons_succ]
                      refine wpAnyH_take (i := 4) (v := .pointer (some ⟨W.heap.size + 1, z, none⟩)) rfl (by kernel_rfl) (by kernel_rfl) (by kernel_rfl) (fun _ _ _ h => h) (Or.inl ⟨by kernel_rfl, fun w hSw => exec_ix _ _ _ _ rfl (W.heap.size + 1) z (by kernel_rfl) (by kernel_rfl) hz6 w⟩) hHeld ?_
                      try simp only [Act.put, List.getElem_toArray, List.getElem_cons_succ, List.getElem_cons_zero, List.setIfInBounds_toArray, List.set_cons_zero, List.set_cons_succ]
                      refine wpAnyH_ready (rs := [2, 5]) (by kernel_rfl) (by simp) ?_
                      refine AllReadyH.cons rfl (fun K hK => ?_) (AllReadyH.cons rfl (fun K hK => ?_) AllReadyH.nil)
                      · refine oper_value (.int .i64 x) (exec_load _ _ 3 _ rfl (.pointer (some ⟨W.heap.size, z, none⟩)) _ (by kernel_rfl) wr.drew (load_int _ _ _ q3')) ?_
                        refine hK.out _ _ trivial (fun hHeld => ?_)
                        clear hK K
                        try simp only [Act.put, List.getElem_toArray, List.getElem_cons_succ, List.getElem_cons_zero, List.setIfInBounds_toArray, List.set_cons_zero, List.set_cons_succ]
                        refine wpAnyH_ready (rs := [5]) (by kernel_rfl) (by simp) ?_
                        refine AllReadyH.cons rfl (fun K hK => ?_) AllReadyH.nil
                        refine oper_value (.int .u8 (mz : Nat)) (exec_load _ _ 5 _ rfl (.pointer (some ⟨W.heap.size + 1, z, none⟩)) _ (by kernel_rfl) wr.drew (load_u8 _ _ _ q2')) ?_
                        refine hK.out _ _ trivial (fun hHeld => ?_)
                        clear hK K
                        try simp only [Act.put, List.getElem_toArray, List.getElem_cons_succ, List.getElem_cons_zero, List.setIfInBounds_toArray, List.set_cons_zero, List.set_cons_succ]
                        refine wpAnyH_take (i := 6) (v := .int .i64 (mz : Nat)) rfl (by kernel_rfl) (by kernel_rfl) (by kernel_rfl) (fun _ _ _ h => h) (Or.inl ⟨by kernel_rfl, fun w hSw => exec_conv _ _ _ rfl mz (by kernel_rfl) hmz w⟩) hHeld ?_
                        try simp only [Act.put, List.getElem_toArray, List.getElem_cons_succ, List.getElem_cons_zero, List.setIfInBounds_toArray, List.set_cons_zero, List.set_cons_succ]
                        refine wpAnyH_take (i := 7) (v := .int .i64 (x + (mz : Nat))) rfl (by kernel_rfl) (by kernel_rfl) (by kernel_rfl) (fun _ _ _ h => h) (Or.inl ⟨by kernel_rfl, fun w hSw => exec_add _ _ _ _ 0 0 rfl x (mz : Nat) (by kernel_rfl) (by kernel_rfl) (by omega) (by omega) w⟩) hHeld ?_
                        try simp only [Act.put, List.getElem_toArray, List.getElem_cons_succ, List.getElem_cons_zero, List.setIfInBounds_toArray, List.set_cons_zero, List.set_cons_succ]
                        refine wpAnyH_take (i := 8) (v := .pointer (some ⟨W.heap.size, z, none⟩)) rfl (by kernel_rfl) (by kernel_rfl) (by kernel_rfl) (fun _ _ _ h => h) (Or.inl ⟨by kernel_rfl, fun w hSw => by kernel_rfl⟩) hHeld ?_
                        try simp only [Act.put, List.getElem_toArray, List.getElem_cons_succ, List.getElem_cons_zero, List.setIfInBounds_toArray, List.set_cons_zero, List.set_cons_succ]
                        refine wpAnyH_ready (rs := [9]) (by kernel_rfl) (by simp) ?_
                        refine AllReadyH.cons rfl (fun K hK => ?_) AllReadyH.nil
                        refine oper_skip (exec_store _ _ _ _ rfl ⟨W.heap.size, z, none⟩ (x + (mz : Nat)) x (by kernel_rfl) (by kernel_rfl) wr.drew q3' q4') ?_
                        refine hK.out _ _ trivial (fun hHeld => ?_)
                        clear hK K
                        try simp only [Act.put, List.getElem_toArray, List.getElem_cons_succ, List.getElem_cons_zero, List.setIfInBounds_toArray, List.set_cons_zero, List.set_cons_succ]
                        generalize wr.drew.setCell ⟨W.heap.size, z, none⟩ (.int .i64 (x + (mz : Nat))) = w9 at *
                        refine wpAnyH_done (by kernel_rfl) ?_ _
                        refine NoPanic.normal ?_
                        go_wp2_with fail
                        go_roundw
                        case rel => exact ⟨z + 1, by omega, by go_num, HNX⟩
                        case measure => simp [intOf]; omega
                      · refine oper_value (.int .u8 (mz : Nat)) (exec_load _ _ 5 _ rfl (.pointer (some ⟨W.heap.size + 1, z, none⟩)) _ (by kernel_rfl) wr.drew (load_u8 _ _ _ q2')) ?_
                        refine hK.out _ _ trivial (fun hHeld => ?_)
                        clear hK K
                        try simp only [Act.put, List.getElem_toArray, List.getElem_cons_succ, List.getElem_cons_zero, List.setIfInBounds_toArray, List.set_cons_zero, List.set_cons_succ]
                        refine wpAnyH_take (i := 6) (v := .int .i64 (mz : Nat)) rfl (by kernel_rfl) (by kernel_rfl) (by kernel_rfl) (fun _ _ _ h => h) (Or.inl ⟨by kernel_rfl, fun w hSw => exec_conv _ _ _ rfl mz (by kernel_rfl) hmz w⟩) hHeld ?_
                        try simp only [Act.put, List.getElem_toArray, List.getElem_cons_succ, List.getElem_cons_zero, List.setIfInBounds_toArray, List.set_cons_zero, List.set_cons_succ]
                        refine wpAnyH_ready (rs := [2]) (by kernel_rfl) (by simp) ?_
                        refine AllReadyH.cons rfl (fun K hK => ?_) AllReadyH.nil
                        refine oper_value (.int .i64 x) (exec_load _ _ 3 _ rfl (.pointer (some ⟨W.heap.size, z, none⟩)) _ (by kernel_rfl) wr.drew (load_int _ _ _ q3')) ?_
                        refine hK.out _ _ trivial (fun hHeld => ?_)
                        clear hK K
                        try simp only [Act.put, List.getElem_toArray, List.getElem_cons_succ, List.getElem_cons_zero, List.setIfInBounds_toArray, List.set_cons_zero, List.set_cons_succ]
                        refine wpAnyH_take (i := 7) (v := .int .i64 (x + (mz : Nat))) rfl (by kernel_rfl) (by kernel_rfl) (by kernel_rfl) (fun _ _ _ h => h) (Or.inl ⟨by kernel_rfl, fun w hSw => exec_add _ _ _ _ 0 0 rfl x (mz : Nat) (by kernel_rfl) (by kernel_rfl) (by omega) (by omega) w⟩) hHeld ?_
                        try simp only [Act.put, List.getElem_toArray, List.getElem_cons_succ, List.getElem_cons_zero, List.setIfInBounds_toArray, List.set_cons_zero, List.set_cons_succ]
                        refine wpAnyH_take (i := 8) (v := .pointer (some ⟨W.heap.size, z, none⟩)) rfl (by kernel_rfl) (by kernel_rfl) (by kernel_rfl) (fun _ _ _ h => h) (Or.inl ⟨by kernel_rfl, fun w hSw => by kernel_rfl⟩) hHeld ?_
                        try simp only [Act.put, List.getElem_toArray, List.getElem_cons_succ, List.getElem_cons_zero, List.setIfInBounds_toArray, List.set_cons_zero, List.set_cons_succ]
                        refine wpAnyH_ready (rs := [9]) (by kernel_rfl) (by simp) ?_
                        refine AllReadyH.cons rfl (fun K hK => ?_) AllReadyH.nil
                        refine oper_skip (exec_store _ _ _ _ rfl ⟨W.heap.size, z, none⟩ (x + (mz : Nat)) x (by kernel_rfl) (by kernel_rfl) wr.drew q3' q4') ?_
                        refine hK.out _ _ trivial (fun hHeld => ?_)
                        clear hK K
                        try simp only [Act.put, List.getElem_toArray, List.getElem_cons_succ, List.getElem_cons_zero, List.setIfInBounds_toArray, List.set_cons_zero, List.set_cons_succ]
                        generalize wr.drew.setCell ⟨W.heap.size, z, none⟩ (.int .i64 (x + (mz : Nat))) = w9 at *
                        refine wpAnyH_done (by kernel_rfl) ?_ _
                        refine NoPanic.normal ?_
                        go_wp2_with fail
                        go_roundw
                        case rel => exact ⟨z + 1, by omega, by go_num, HNX⟩
                        case measure => simp [intOf]; omega
                    · have dx : decide (pf p z < 1073741824) = false := by rw [decide_eq_false_iff_not]; exact hx
                      have HNX : Hid (PwS W wq W.heap.size (fTo p m (z + 1)) wr) := HPW.out.skip hx
                      generalize pf p z = x at *
                      go_wp2_with fail
                      go_roundw
                      case rel => exact ⟨z + 1, by omega, by go_num, HNX⟩
                      case measure => simp [intOf]; omega
                  · obtain rfl : z = 6 := by omega
                    obtain ⟨x0, x1, x2, x3, x4, x5⟩ := HPW.out.all
                    have HT8 := Lib.hid (HT0.out.below HPW.out.low (Nat.le_refl _))
                    have hk8 : StrsB wr (.slice A1 KL.length c1) KL := HKq.out.kp (fun o s => pol_nostr HEq.out.pb o s) HPW.out.kp
                    have HK8 := Lib.hid hk8
                    have hv8 : MkN wr (.slice A q c) l := HV.out.below HPW.out.low (Nat.le_refl _)
                    have hk2 := keep_any (polUp p m) l _ wr (polUp_I HP.out HMB.out) hv8 HUU.out HL100.out (by rw [← HN.out]; omega)
                    have HKP2 := Lib.hid hk2
                    have HMONO : Hid (∀ s ∈ KL, inB (keepL bl partI (polUp p m) l) s = true) := fun s hs => by
                      rw [inB_iff]
                      rw [HKL.out] at hs
                      exact ret_mono (nlt := bl) (fs := partI) p (polUp p m) l (up_le _ _) (up_le _ _) (up_le _ _) (up_le _ _) (up_le _ _) (up_le _ _) s hs
                    have HLOW8 := Lib.hid HPW.out.low
                    clear hk8 hv8 hk2 HPW HEq HKq HPQ HMQ hlq hz6
                    generalize keepL bl partI (polUp p m) l = K2 at *
                    generalize polUp p m = p2 at *
                    unfold polV at HKP2
                    go_wp2_with fail
                    refine HKP2.out.mono ?_
                    rintro e w10 ⟨v10, rfl, hk10, b10⟩
                    have HW10 := Lib.hid hk10
                    have HK10 := Lib.hid (HK8.out.below b10 (Nat.le_refl _))
                    have HT10 := Lib.hid (HT8.out.below b10 (Nat.le_refl _))
                    have HL10 := Lib.hid (HLOW8.out.trans (b10.mono HLOW8.out.size))
                    obtain ⟨A10, c10, rfl, _, _⟩ := hk10.len
                    obtain ⟨A9, c9, hv9, _, hm9, hz9⟩ := HK10.out
                    injection hv9 with hv9a hv9b hv9c
                    subst hv9a hv9c
                    have HZ9 := Lib.hid hz9
                    clear hk10 b10 HKP2 HK8 HT8 HLOW8 x0 x1 x2 x3 x4 x5 hz9 hv9b hm9
                    go_wp2_with fail
                    go_loopw [26, 229] (fun s26 i w11 => ∃ t : Nat, t ≤ KL.length ∧ i = .int .i64 t ∧ Hid (w10 = w11)) (fun _ i _ => KL.length - (intOf i).toNat)
                    case atStart => exact ⟨0, Nat.zero_le _, rfl, rfl⟩
                    case round =>
                      obtain ⟨t, ht, rfl, HWW⟩ := hrel
                      obtain rfl := HWW.out
                      by_cases htk : t < KL.length
                      · have htk' : (t : Int) < (KL.length : Int) := by omega
                        obtain ⟨b0, off, rfl, hb0, hc⟩ := HZ9.out (by omega)
                        have e1 := hc t htk
                        rw [List.getElem?_eq_getElem htk, Option.map_some] at e1
                        have hin := HMONO.out KL[t] (List.getElem_mem htk)
                        have HIN := Lib.hid (in_any _ _ K2 KL[t] HW10.out)
                        rw [hin] at HIN
                        clear hc hin
                        generalize KL[t] = s at *
                        go_wp2_with fail
                        refine HIN.out.mono ?_
                        rintro e w' ⟨rfl, rfl⟩
                        go_wp2_with fail
                        go_roundw
                        case rel => exact ⟨t + 1, by omega, by go_num, Lib.hid trivial⟩
                        case measure => simp [intOf]; omega
                      · obtain rfl : t = KL.length := by omega
                        go_wp2_with fail
                        refine (HAW.out _ HT10.out).mono ?_
                        rintro e w12 ⟨rfl, b12⟩
                        have HL12 := Lib.hid (HL10.out.trans (b12.mono HL10.out.size))
                        clear b12
                        go_wp2_with fail
                        go_ret
                        exact ⟨rfl, HL12.out⟩
end Go.Proofs.YtlikmdmdmljiaaaDoor
