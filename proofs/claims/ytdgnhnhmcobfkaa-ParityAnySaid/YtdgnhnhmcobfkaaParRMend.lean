/- siloref36.Mend: walk (written by gen-par-rmend.py). -/
import Derived.Test.YtdgnhnhmcobfkaaParMend
import Derived.Maps.AppendAt
namespace Go.Proofs.Ytdgnhnhmcobfkaa
open Go.RowKit
set_option linter.unusedVariables false
set_option linter.unusedSimpArgs false
theorem pickJ_take (l : List ByteArray) (h : List Bool) (n : Nat) (N : Nat) : ∀ j, j ≤ N → pickJ l h n j = (pickJ l h N j).take n
  | 0, _ => by simp [pickJ]
  | j + 1, hj => by
    have ih := pickJ_take l h n N j (by omega)
    have hl := pickJ_len l h N j
    rw [pickJ_succ, pickJ_succ]
    by_cases e : h.getD j false = true
    · rw [if_pos (show ((pickJ l h N j).length : Int) < (N : Int) ∧ _ from ⟨by omega, e⟩)]
      by_cases e2 : (pickJ l h N j).length < n
      · have e3 : (pickJ l h n j) = pickJ l h N j := by rw [ih, List.take_of_length_le (by omega)]
        rw [e3, if_pos ⟨by omega, e⟩, List.take_of_length_le (by rw [List.length_append]; simp; omega)]
      · have e3 : (pickJ l h n j).length = n := by rw [ih, List.length_take]; omega
        rw [if_neg (fun e4 => by have := e4.1; omega), ih, List.take_append_of_le_length (by omega)]
    · rw [if_neg (fun e4 => e e4.2), if_neg (fun e4 => e e4.2), ih]
theorem wpList_push_str_at {w : World} {ops : Array Oper} {rest : List Oper} {o : Oper} {a : Act} {Q : Exit → Act → World → Prop} (hgd : o.guard = none) (s x : Operand) (t : TypeId)
    (ho : o.op = .call { callee := .builtin .append, args := #[s, x], argTypes := #[t, t] }) (ht : Try.prog.underlying t = some (.slice 9))
    (base : Nat) (v : Value) (xs : List ByteArray) (hs : a.eval s = v) (hown : w.ownsRow base 9 1 v xs.length (xs.map .string))
    (ad : Addr) (c : Nat) (y : ByteArray) (hx : a.eval x = .slice (some ad) 1 c) (hc : w.cell? ad = some (.string y)) (hle : xs.length + 1 ≤ 1000000000) (hbase : base ≤ w.heap.size)
    (h : ∀ v' w', w'.ownsRow base 9 1 v' (xs ++ [y]).length ((xs ++ [y]).map .string) → w.grownBy w' v.ownBlock → (v'.ownBlock = v.ownBlock ∨ v'.ownBlock = some w.heap.size) → wpList Try.prog ops Q rest (a.put o.dst v') w') : wpList Try.prog ops Q (o :: rest) a w := by
  obtain ⟨i0, hi, hz0, hz1, hz2⟩ := info_parts strInfo
  refine wpList_append_own_at w hgd s x t ho base 9 i0 (.string ByteArray.empty) 1 16 ht hi hz0 hz1 hz2 rfl (by decide) v _ _ hs hown ad 1 c [.string y] hx rfl ?_ ?_ (by unfold maxLen; omega) (by omega) hbase ?_
  · intro j u' hj
    match j, hj with
    | 0, hj =>
      simp at hj; subst hj
      rw [← hc]; congr 1
  · intro u' hu'
    simp at hu'; subst hu'; rfl
  · intro v' w' h1 h2 _ h4
    exact h v' w' (by simpa using h1) h2 h4
/-- two rows of the call's own lie apart -/
def Apart (v u : Value) : Prop := v.ownBlock = none ∨ u.ownBlock = none ∨ v.ownBlock ≠ u.ownBlock
theorem Apart.kept {v u : Value} (h : Apart v u) : u.ownBlock = none ∨ u.ownBlock ≠ v.ownBlock := by
  rcases h with e | e | e
  · by_cases e2 : u.ownBlock = none
    · exact .inl e2
    · exact .inr (by rw [e]; exact e2)
  · exact .inl e
  · exact .inr (fun e2 => e e2.symm)
theorem Apart.symm {v u : Value} (h : Apart v u) : Apart u v := by
  rcases h with e | e | e
  · exact .inr (.inl e)
  · exact .inl e
  · exact .inr (.inr (fun e2 => e e2.symm))
theorem Apart.grow {v v' u : Value} {n : Nat} (h : Apart v u) (hv : v'.ownBlock = v.ownBlock ∨ v'.ownBlock = some n) (hu : ∀ b, u.ownBlock = some b → b < n) : Apart v' u := by
  rcases hv with e | e
  · unfold Apart; rw [e]; exact h
  · cases hb : u.ownBlock with
    | none => exact .inr (.inl hb)
    | some b => exact .inr (.inr (by rw [e, hb]; intro e2; injection e2 with e2; have := hu b hb; omega))
set_option maxRecDepth 20000 in
set_option maxHeartbeats 6000000 in
theorem rmend_head (w : World) (va vh : Value) (l : List ByteArray) (h : List Bool) (k : Nat) (E : Int) (R : List ByteArray) (ha : StrsB w va l) (hb : BoolB w vh h) (hl : l.length = h.length) (hk0 : 0 < k) (hk : k ≤ 16) (hp0 : k < l.length) (hp : l.length ≤ k + 16)
    (hE : E = 5 ∧ R = [] ∧ (mendA l h).length < k ∨ E = 2 ∧ R = [] ∧ k ≤ (mendA l h).length ∧ evenL (mendA l h) = false ∨ E = 0 ∧ R = mendR l h k ∧ k ≤ (mendA l h).length ∧ evenL (mendA l h) = true ∧ firstN ((mendA l h).take k) ≤ 1000000000) :
    Calls Try.prog 28 #[va, vh, .int .i64 k] w fun e w' => ∃ v, e = .returned (.tuple #[v, .int .i64 E]) ∧ StrsN w' v R ∧ Below w.heap.size w w' := by
  have HK : Hid (∀ w, Calls Try.prog 54 #[.int .i64 k] w fun e w' => e = .returned (.bool true) ∧ w = w') := fun w => by
    have h := prfew_any k w; rwa [show fewN k = true by unfold fewN; simp; omega] at h
  obtain ⟨p, hpd⟩ : ∃ p, p = l.length - k := ⟨_, rfl⟩
  have hpk : (l.length : Int) - (k : Int) = (p : Int) := by omega
  have hp1 : 0 < p := by omega
  have hp2 : p ≤ 16 := by omega
  have hkp : k + p = l.length := by omega
  have HRW := Lib.hid (fun i hi w => row_any k p i w hk0 hk hp1 hp2 hi)
  have HA := Lib.hid ha
  have HBo := Lib.hid hb
  have HL := Lib.hid hl
  have HHL : Hid (k < h.length) := by unfold Hid; omega
  have HE := Lib.hid hE
  have HKP := Lib.hid hkp
  have hne : ((h.length : Int) != (l.length : Int)) = false := by rw [bne_eq_false_iff_eq]; omega
  have hg1 : decide ((l.length : Int) ≤ (k : Int)) = false := by simp; omega
  have hg2 : decide ((k : Int) + 16 < (l.length : Int)) = false := by simp; omega
  have hn1 : ¬ l.length ≤ k := by omega
  obtain ⟨A, c, rfl, h1, h2⟩ := ha.len
  obtain ⟨A2, c2, rfl, h3, h4⟩ := hb.len
  have hlI : l.length ≤ 9223372036854775807 := by omega
  have HPD := Lib.hid hpd
  clear ha hb h1 h2 h3 h4 hl hE hkp hpd
  go_enter Try.func28, Try.ntmps28
  go_wp2_with fail
  refine (HK.out _).mono ?_
  rintro e w' ⟨rfl, rfl⟩
  go_wp2_with fail
  clear hne hg1 hg2 hn1
  go_loopw [8, 9, 10] (fun v u q wr => ∃ i : Nat, i ≤ l.length ∧ q = .int .i64 i ∧ Hid (wr.ownsRow w.heap.size 9 1 v (pickJ l h l.length i).length ((pickJ l h l.length i).map .string)) ∧ Hid (wr.ownsRow w.heap.size 9 1 u (pickJ (rowsP k p) h l.length i).length ((pickJ (rowsP k p) h l.length i).map .string)) ∧ Hid (Apart v u) ∧ Hid (Below w.heap.size w wr)) (fun _ _ q _ => l.length - (intOf q).toNat)
  case atStart => exact ⟨0, Nat.zero_le _, rfl, World.ownsRow_nil _ _ _ _, World.ownsRow_nil _ _ _ _, .inl rfl, Below.refl _ _⟩
  case round =>
    obtain ⟨i, hi, rfl, HO, HU, HAP, HB⟩ := hrel
    have hpl1 := pickJ_len l h l.length i
    have hpl2 := pickJ_len (rowsP k p) h l.length i
    by_cases hlt : i < l.length
    · have hlt' : (i : Int) < (l.length : Int) := by omega
      have hih : i < h.length := by rw [← HL.out]; exact hlt
      have hih' : (i : Int) < (h.length : Int) := by omega
      obtain ⟨A7, c7, hv7, _, _, hc7⟩ := HBo.out
      obtain ⟨b7, o7, hA7, hb7, hcell7⟩ := hc7 (by omega)
      cases hv7
      subst hA7
      have e2 : wr.cell? ⟨b7, o7 + i, none⟩ = some (.bool h[i]) := (HB.out.cell (p := ⟨b7, o7 + i, none⟩) hb7).trans (hcell7 i hih)
      obtain ⟨b8, o8, rfl, hb8, hcell8⟩ := HA.out.cells (by omega)
      have e3 : wr.cell? ⟨b8, o8 + i, none⟩ = some (.string l[i]) := (HB.out.cell (p := ⟨b8, o8 + i, none⟩) hb8).trans (hcell8 i hlt)
      have hgd : h.getD i false = h[i] := by rw [List.getD_eq_getElem?_getD, List.getElem?_eq_getElem hih]; rfl
      have hld : l.getD i .empty = l[i] := by rw [List.getD_eq_getElem?_getD, List.getElem?_eq_getElem hlt]; rfl
      have HP1 : Hid (pickJ l h l.length (i + 1) = if h[i] = true then pickJ l h l.length i ++ [l[i]] else pickJ l h l.length i) := by
        unfold Hid; rw [pickJ_succ, hgd, hld]
        by_cases e : h[i] = true
        · rw [if_pos ⟨by omega, e⟩, if_pos e]
        · rw [if_neg (fun e5 => e e5.2), if_neg e]
      have HP2 : Hid (pickJ (rowsP k p) h l.length (i + 1) = if h[i] = true then pickJ (rowsP k p) h l.length i ++ [(rowsP k p).getD i .empty] else pickJ (rowsP k p) h l.length i) := by
        unfold Hid; rw [pickJ_succ, hgd]
        by_cases e : h[i] = true
        · rw [if_pos ⟨by omega, e⟩, if_pos e]
        · rw [if_neg (fun e5 => e e5.2), if_neg e]
      have HRI := Lib.hid (HRW.out i (by rw [HKP.out]; exact hlt))
      generalize pickJ l h l.length i = o1 at *
      generalize pickJ (rowsP k p) h l.length i = o2 at *
      generalize (rowsP k p).getD i .empty = rw1 at *
      clear hcell7 hcell8 hc7 hgd hld
      cases hq : h[i] with
      | false =>
        rw [hq] at e2 HP1 HP2
        have HN1 : Hid (pickJ l h l.length (i + 1) = o1) := by unfold Hid; rw [HP1.out, if_neg (by simp)]
        have HN2 : Hid (pickJ (rowsP k p) h l.length (i + 1) = o2) := by unfold Hid; rw [HP2.out, if_neg (by simp)]
        clear HP1 HP2 hq e3
        go_wp2_with fail
        go_roundw
        case rel => exact ⟨i + 1, by omega, by go_num, by rw [HN1.out]; exact HO, by rw [HN2.out]; exact HU, HAP, HB⟩
        case measure => simp [intOf]; omega
      | true =>
        rw [hq] at e2 HP1 HP2
        have HN1 : Hid (pickJ l h l.length (i + 1) = o1 ++ [l[i]]) := by unfold Hid; rw [HP1.out, if_pos rfl]
        have HN2 : Hid (pickJ (rowsP k p) h l.length (i + 1) = o2 ++ [rw1]) := by unfold Hid; rw [HP2.out, if_pos rfl]
        generalize l[i] = x at *
        clear HP1 HP2 hq
        have hown1 := HO.out
        have hs1 := HB.out.size
        go_wp2_with (at_builtin; refine wpList_push_str_at rfl _ _ 31 rfl Try.underlying31 w.heap.size _ o1 rfl (hown1.alloc _) ⟨wr.heap.size, 0, none⟩ _ x rfl (by simp) (by omega) (by simp; omega) ?_)
        intro v' w3 hown3 hg3 hbv
        have HO3 : Hid (w3.ownsRow w.heap.size 9 1 v' (o1 ++ [x]).length ((o1 ++ [x]).map .string)) := by unfold Hid; simpa using hown3
        have HU3 : Hid (w3.ownsRow w.heap.size 9 1 u9 o2.length (o2.map .string)) := (HU.out.alloc _).kept hg3 HAP.out.kept
        have HAP3 : Hid (Apart v' u9) := HAP.out.grow hbv (fun b hb => by have := (HU.out.lt b hb).2; simp; omega)
        have HB3 : Hid (Below w.heap.size w w3) := (HB.out.alloc hs1 _).grown hg3 (by simp; omega) (fun k hk => (hown1.lt k hk).1)
        clear hown1 hown3 hg3 hbv HO HU HAP HB e2 e3
        go_wp2_with fail
        refine (HRI.out _).mono ?_
        rintro e w4 ⟨rfl, b4⟩
        have hs3 := HB3.out.size
        have HO4 : Hid (w4.ownsRow w.heap.size 9 1 v' (o1 ++ [x]).length ((o1 ++ [x]).map .string)) := HO3.out.kept (grown_of_below b4 none) (by
          by_cases e : v'.ownBlock = none
          · exact .inl e
          · exact .inr e)
        have hown4 : w4.ownsRow w.heap.size 9 1 u9 o2.length (o2.map .string) := HU3.out.kept (grown_of_below b4 none) (by
          by_cases e : u9.ownBlock = none
          · exact .inl e
          · exact .inr e)
        have HB4 : Hid (Below w.heap.size w w4) := HB3.out.trans (b4.mono hs3)
        have hs4 := HB4.out.size
        clear b4 HO3 HU3 HB3 HRI
        go_wp2_with (at_builtin; refine wpList_push_str_at rfl _ _ 31 rfl Try.underlying31 w.heap.size _ o2 rfl (hown4.alloc _) ⟨w4.heap.size, 0, none⟩ _ rw1 rfl (by simp) (by omega) (by simp; omega) ?_)
        intro v5 w5 hown5 hg5 hbv5
        have HU5 : Hid (w5.ownsRow w.heap.size 9 1 v5 (pickJ (rowsP k p) h l.length (i + 1)).length ((pickJ (rowsP k p) h l.length (i + 1)).map .string)) := by unfold Hid; rw [HN2.out]; simpa using hown5
        have HO5 : Hid (w5.ownsRow w.heap.size 9 1 v' (pickJ l h l.length (i + 1)).length ((pickJ l h l.length (i + 1)).map .string)) := by unfold Hid; rw [HN1.out]; exact (HO4.out.alloc _).kept hg5 HAP3.out.symm.kept
        have HAP5 : Hid (Apart v' v5) := (HAP3.out.symm.grow hbv5 (fun b hb => by have := (HO4.out.lt b hb).2; simp; omega)).symm
        have HB5 : Hid (Below w.heap.size w w5) := (HB4.out.alloc hs4 _).grown hg5 (by simp; omega) (fun k hk => (hown4.lt k hk).1)
        clear hown4 hown5 hg5 hbv5 HO4 HAP3 HB4 HN1 HN2
        go_wp2_with fail
        go_roundw
        case rel => exact ⟨i + 1, by omega, by go_num, HO5, HU5, HAP5, HB5⟩
        case measure => simp [intOf]; omega
    · obtain rfl : i = l.length := by omega
      obtain ⟨Ao, co, hvo⟩ := own_sl HO.out
      obtain ⟨Au, cu, hvu⟩ := own_sl HU.out
      subst hvo
      subst hvu
      have H1 := Lib.hid (StrsN.of_owns HO.out)
      have H2 := Lib.hid (StrsN.of_owns HU.out)
      have hcnt : (pickJ (rowsP k p) h l.length l.length).length = (pickJ l h l.length l.length).length := by rw [pickJ_count, pickJ_count]
      have HTK : Hid ((pickJ (rowsP k p) h l.length l.length).take k = mendM l h k) := by
        unfold Hid mendM
        rw [← pickJ_take (rowsP k p) h k l.length l.length (Nat.le_refl _), HPD.out]
      have hall : pickJ l h l.length l.length = mendA l h := rfl
      rw [hall] at H1 hcnt ⊢
      clear hall HO HU HAP hpl1 hpl2 HRW
      generalize pickJ (rowsP k p) h l.length l.length = RW at *
      have HMF := Lib.hid (fun (a : k ≤ (mendA l h).length) (b : evenL (mendA l h) = true) => mend_facts hk0 hk hp0 hp a b)
      rcases HE.out with ⟨rfl, rfl, hlt5⟩ | ⟨rfl, rfl, hge, hev⟩ | ⟨rfl, hR, hge, hev, hsz⟩
      · clear HMF
        generalize mendA l h = all at *
        have hd : decide ((all.length : Int) < (k : Int)) = true := by simp; omega
        go_wp2_with fail
        go_ret2
        exact ⟨_, rfl, strsN_nil _, HB.out⟩
      · clear HMF
        have HEV := Lib.hid (preven_any _ _ (mendA l h) H1.out.1)
        rw [hev] at HEV
        clear hev
        generalize mendA l h = all at *
        have hd : decide ((all.length : Int) < (k : Int)) = false := by simp; omega
        have hnk2 : ¬ all.length < k := by omega
        go_wp2_with fail
        refine HEV.out.mono ?_
        rintro e w' ⟨rfl, n1, rfl⟩
        go_wp2_with fail
        go_ret2
        exact ⟨_, rfl, strsN_nil _, Below.drewN HB.out n1⟩
      · replace HMF := Lib.hid (HMF.out hge hev)
        have HMR : Hid (mendR l h k = (List.range k).map (fillL l h (timesL (invL (mendM l h k)) ((mendA l h).take k)) k)) := rfl
        have HR := Lib.hid hR; clear hR
        have HEV := Lib.hid (preven_any _ _ (mendA l h) H1.out.1)
        rw [hev] at HEV
        have HSZ := Lib.hid hsz
        clear hev hsz
        generalize mendM l h k = M at *
        generalize mendA l h = all at *
        have hd : decide ((all.length : Int) < (k : Int)) = false := by simp; omega
        have hnk2 : ¬ all.length < k := by omega
        obtain ⟨A8, c8, hv8, h5, h6⟩ := H1.out.1.len
        obtain ⟨A9, c9, hv9, h7, h8⟩ := H2.out.1.len
        cases hv8
        cases hv9
        have hcaR : k ≤ RW.length := by omega
        have hcRI : (k : Int) ≤ (RW.length : Int) := by omega
        have hcaI : (k : Int) ≤ (all.length : Int) := by omega
        have hcoI : co ≤ 9223372036854775807 := by unfold maxLen at h6; omega
        have hcuI : cu ≤ 9223372036854775807 := by unfold maxLen at h8; omega
        go_wp2_with fail
        refine HEV.out.mono ?_
        rintro e w' ⟨rfl, n1, rfl⟩
        have HB1 : Hid (Below w.heap.size w (wr.drewN n1)) := Below.drewN HB.out n1
        have H11 := Lib.hid (H1.out.1.drewN n1)
        have H21 := Lib.hid (H2.out.1.drewN n1)
        generalize wr.drewN n1 = wd at *
        have HI := Lib.hid (mrinvert_any wd _ _ (H21.out.take k hcaR))
        rw [HTK.out, HMF.out.1] at HI
        clear HEV H1 H2 HB H21
        go_wp2_with fail
        refine HI.out.mono ?_
        rintro e w5 ⟨v5, rfl, s5, b5⟩
        have HW := Lib.hid (HB1.out.trans (b5.mono HB1.out.size))
        have H12 := Lib.hid (H11.out.below b5 (Nat.le_refl _))
        have HT := Lib.hid (rtimes_own w5 v5 _ (invL M) (all.take k) s5.1 (H12.out.take k hge) HMF.out.2.2.1 HSZ.out)
        clear s5 b5 HI H11 HB1
        go_wp2_with fail
        refine HT.out.mono ?_
        rintro e w6 ⟨v6, rfl, o6, b6⟩
        obtain ⟨out, hout⟩ : ∃ out, out = timesL (invL M) (all.take k) := ⟨_, rfl⟩
        have hol : out.length = k := by rw [hout]; exact HMF.out.2.2.2
        rw [← hout] at o6 HMR
        rcases o6.2 with ⟨_, h0⟩ | ⟨g, cap, cur, hv6, _⟩
        · omega
        · subst hv6
          obtain ⟨hS, hgB, _, hcap1, hcap2⟩ := SRow.of_owns o6
          rw [hol] at hS hcap1
          have HS : Hid (SRow w6 g k (fillL l h out 0)) := hS.congr fun j hj => by unfold fillL; rw [if_neg (fun e => by omega)]
          have HG : Hid (w5.heap.size ≤ g) := hgB
          have HB6 := Lib.hid b6
          have HCAP : Hid (k ≤ cap ∧ cap ≤ maxLen) := ⟨hcap1, hcap2⟩
          rw [hol]
          clear o6 b6 hS hgB hout HT H12 hcap1 hcap2
          have hcapI : cap ≤ 9223372036854775807 := by have := HCAP.out.2; unfold maxLen at this; omega
          have HLS := Lib.hid (HA.out.below HW.out (Nat.le_refl _))
          have HBS := Lib.hid (HBo.out.below HW.out (Nat.le_refl _))
          clear HE HTK HA HBo
          go_wp2_with fail
          go_loopw [15] (fun q wr => ∃ i : Nat, i ≤ k ∧ q = .int .i64 i ∧ Hid (SRow wr g k (fillL l h out i)) ∧ Hid (Below w5.heap.size w5 wr)) (fun q _ => k - (intOf q).toNat)
          case atStart => exact ⟨0, Nat.zero_le _, rfl, HS.out, HB6.out⟩
          case round =>
            obtain ⟨i, hi, rfl, HSi, HBi⟩ := hrel
            by_cases hlt : i < k
            · have hlt' : (i : Int) < (k : Int) := by omega
              have hih : i < h.length := by have := HHL.out; omega
              have hih' : (i : Int) < (h.length : Int) := by omega
              have hil : i < l.length := by omega
              have hil' : (i : Int) < (l.length : Int) := by omega
              obtain ⟨A7, c7, hv7, _, _, hc7⟩ := HBS.out
              obtain ⟨b7, o7, hA7, hb7, hcell7⟩ := hc7 (by omega)
              cases hv7
              subst hA7
              have e2 : wr.cell? ⟨b7, o7 + i, none⟩ = some (.bool h[i]) := (HBi.out.cell (p := ⟨b7, o7 + i, none⟩) hb7).trans (hcell7 i hih)
              obtain ⟨b8, o8, rfl, hb8, hcell8⟩ := HLS.out.cells (by omega)
              have e3 : wr.cell? ⟨b8, o8 + i, none⟩ = some (.string l[i]) := (HBi.out.cell (p := ⟨b8, o8 + i, none⟩) hb8).trans (hcell8 i hil)
              have e4 : wr.cell? ⟨g, i, none⟩ = some (.string (fillL l h out i i)) := HSi.out.cell i hlt
              have f4 : wr.frozen? ⟨g, i, none⟩ = false := HSi.out.free i hlt
              obtain ⟨hst1, hst2⟩ := fillL_step (l := l) (h := h) out i hil hih
              cases hq : h[i] with
              | false =>
                have HN : Hid (SRow wr g k (fillL l h out (i + 1))) := by unfold Hid; rw [← hst2 hq]; exact HSi.out
                rw [hq] at e2
                clear hst1 hst2 hq hcell7 hcell8 e3 e4 f4 hc7 HSi
                go_wp2_with fail
                go_roundw
                case rel => exact ⟨i + 1, by omega, by go_num, HN, HBi⟩
                case measure => simp [intOf]; omega
              | true =>
                have HN : Hid (SRow (wr.setCell ⟨g, i, none⟩ (.string l[i])) g k (fillL l h out (i + 1))) := by
                  unfold Hid; rw [← hst1 hq]; exact HSi.out.set i l[i] hlt
                have HN2 : Hid (Below w5.heap.size w5 (wr.setCell ⟨g, i, none⟩ (.string l[i]))) := HBi.out.setCell (p := ⟨g, i, none⟩) HG.out _
                rw [hq] at e2
                generalize fillL l h out i i = y4 at *
                generalize l[i] = x at *
                clear hst1 hst2 hq hcell7 hcell8 hc7 HSi HBi
                go_wp2_with fail
                go_roundw
                case rel => exact ⟨i + 1, by omega, by go_num, HN, HN2⟩
                case measure => simp [intOf]; omega
            · obtain rfl : i = k := by omega
              have hst := HSi.out.strsC HCAP.out.1 HCAP.out.2
              have HST : Hid (StrsN wr (.slice (some ⟨g, 0, none⟩) i cap) R) := by unfold Hid; rw [HR.out, HMR.out]; exact hst
              clear hst HSi
              go_wp2_with fail
              go_ret2
              exact ⟨_, rfl, HST.out, HW.out.trans (HBi.out.mono HW.out.size)⟩
end Go.Proofs.Ytdgnhnhmcobfkaa
