/- siloref46.with at any locks. -/
import Derived.Test.YtffnkgfpbjmkbaaLkR2
namespace Go.Proofs.Ytffnkgfpbjmkbaa
open Go.RowKit
set_option linter.unusedVariables false
set_option linter.unusedSimpArgs false
theorem bodyPost_cell1 {P : Program} {fn : Func} {R : Ending → World → Prop} {a : Act} {w : World} {V : Value} {a1 : Tmp} {t1 : TypeId} {ad : Addr} (h : fn.results = #[.cell a1 t1]) (hp : a.tmps.getD a1 undef = .pointer (some ad)) (hl : (loadVar t1 ad).run P w = .ok V w) (hd : a.defers = [])
    (hR : R (.returned V) w) : bodyPost P fn R .ret a w :=
  ⟨hd, _, by simp only [results, h, List.mapM_toArray, List.mapM_cons, List.mapM_nil, hp, asAddr]; simp [hl], hR⟩
theorem new_src (w : World) (x : Lk) : ∀ j u, (lkC [x])[j]? = some u → (w.alloc (.cells #[.int .u64 x.o.toNat, .bool x.s, .int .i64 x.u] 62)).cell? ((⟨w.heap.size, 0, none⟩ : Addr).add j) = some u := by
  intro j u hj
  rw [Addr.add_lit]
  match j, hj with
  | 0, hj => simp [lkC, Lk.c] at hj; subst hj; simp
  | 1, hj => simp [lkC, Lk.c] at hj; subst hj; simp
  | 2, hj => simp [lkC, Lk.c] at hj; subst hj; simp
  | j + 3, hj => simp [lkC, Lk.c] at hj
def hN (l : List Lk) (k : UInt64) : Nat := if hasO l k = true then 1 else 0
/-- what has come out behind j locks -/
def wOut (l : List Lk) (x : Lk) (j : Nat) : List Lk := if j ≤ placeO l x.o then l.take j else l.take (placeO l x.o) ++ [x] ++ (l.take j).drop (placeO l x.o + hN l x.o)
def withL (l : List Lk) (x : Lk) : List Lk := l.take (placeO l x.o) ++ [x] ++ l.drop (placeO l x.o + hN l x.o)
theorem take1 (l : List Lk) (j : Nat) (h : j < l.length) : l.take (j + 1) = l.take j ++ [l[j]] := List.take_succ_eq_append_getElem h
theorem wOut_lt (l : List Lk) (x : Lk) (j : Nat) (h : j < l.length) (hp : j < placeO l x.o) : wOut l x (j + 1) = wOut l x j ++ [l[j]] := by
  unfold wOut
  rw [if_pos (by omega), if_pos (by omega), take1 l j h]
theorem wOut_gt (l : List Lk) (x : Lk) (j : Nat) (h : j < l.length) (hp : placeO l x.o < j) : wOut l x (j + 1) = wOut l x j ++ [l[j]] := by
  unfold wOut
  have hn : hN l x.o ≤ 1 := by unfold hN; split <;> omega
  have hl : (l.take j).length = j := by rw [List.length_take]; omega
  rw [if_neg (by omega), if_neg (by omega), take1 l j h, List.drop_append_of_le_length (by omega)]
  simp
theorem wOut_no (l : List Lk) (x : Lk) (j : Nat) (h : j < l.length) (hp : j = placeO l x.o) (hh : hasO l x.o = false) : wOut l x (j + 1) = wOut l x j ++ [x] ++ [l[j]] := by
  have e : hN l x.o = 0 := by unfold hN; rw [hh]; rfl
  unfold wOut
  have hl : (l.take j).length = j := by rw [List.length_take]; omega
  rw [e, if_neg (by omega), if_pos (by omega), ← hp, take1 l j h, Nat.add_zero, List.drop_append_of_le_length (by omega), List.drop_eq_nil_of_le (by omega)]
  simp
theorem wOut_yes (l : List Lk) (x : Lk) (j : Nat) (h : j < l.length) (hp : j = placeO l x.o) (hh : hasO l x.o = true) : wOut l x (j + 1) = wOut l x j ++ [x] := by
  have e : hN l x.o = 1 := by unfold hN; rw [hh]; rfl
  unfold wOut
  have hl : (l.take (j + 1)).length = j + 1 := by rw [List.length_take]; omega
  rw [e, if_neg (by omega), if_pos (by omega), ← hp, List.drop_eq_nil_of_le (by omega)]
  simp
theorem wOut_end (l : List Lk) (x : Lk) (h : placeO l x.o < l.length) : wOut l x l.length = withL l x := by
  unfold wOut withL
  rw [if_neg (by omega), List.take_of_length_le (Nat.le_refl l.length)]
theorem wOut_end2 (l : List Lk) (x : Lk) (h : placeO l x.o = l.length) : wOut l x l.length ++ [x] = withL l x := by
  unfold wOut withL
  rw [if_pos (by omega), h, List.take_of_length_le (Nat.le_refl l.length), List.drop_eq_nil_of_le (by omega)]
  simp
theorem wOut_len (l : List Lk) (x : Lk) (j : Nat) : (wOut l x j).length ≤ l.length + 1 := by
  unfold wOut
  have := placeO_le l x.o
  split
  · rw [List.length_take]; omega
  · simp; omega
set_option maxRecDepth 20000 in
set_option maxHeartbeats 8000000 in
theorem rwith_any (now : Int) (v : Value) (l : List Lk) (x : Lk) (w : World) (hv : LksB w v l) (hr : RisO l) (hl : l.length ≤ 100000) :
    Calls Try.prog 39 #[Lc now v, .agg #[.int .u64 x.o.toNat, .bool x.s, .int .i64 x.u]] w fun e w' => ∃ v', e = .returned (Lc now v') ∧ OwnL w' w.heap.size v' (withL l x).length (lkC (withL l x)) ∧ Below w.heap.size w w' := by
  have HR := Lib.hid (placeO_lt l x.o hr)
  have HPO := Lib.hid (fun j h => place_of (k := x.o) hr j h)
  have hpl := placeO_le l x.o
  have HL := Lib.hid hl
  have HV := Lib.hid hv
  obtain ⟨A, c, rfl, h2, h3, h4⟩ := hv
  have hc9 : c ≤ 9223372036854775807 := by unfold maxLen at h3; omega
  have HC := Lib.hid h4
  obtain ⟨n, hn⟩ : ∃ n, n = l.length := ⟨_, rfl⟩
  have HN := Lib.hid hn
  obtain ⟨p, hp⟩ : ∃ p, p = placeO l x.o := ⟨_, rfl⟩
  have HP := Lib.hid hp
  rw [← hn, ← hp] at hpl
  rw [← hn] at h2
  unfold Lc
  rw [← hn]
  clear hn h3 h4 hr hl hp
  have HB3 : Hid (Below w.heap.size w (((w.alloc (.cells #[.int .i64 now, .slice A n c] 27)).alloc (.cells #[.int .u64 x.o.toNat, .bool x.s, .int .i64 x.u] 62)).alloc (.cells #[.int .i64 0, .slice none 0 0] 27))) := (((Below.refl _ _).alloc (Nat.le_refl _) _).alloc (by simp) _).alloc (by simp; omega) _
  have HSZ : Hid ((((w.alloc (.cells #[.int .i64 now, .slice A n c] 27)).alloc (.cells #[.int .u64 x.o.toNat, .bool x.s, .int .i64 x.u] 62)).alloc (.cells #[.int .i64 0, .slice none 0 0] 27)).heap.size = w.heap.size + 3) := by unfold Hid; simp
  have q3 : (((w.alloc (.cells #[.int .i64 now, .slice A n c] 27)).alloc (.cells #[.int .u64 x.o.toNat, .bool x.s, .int .i64 x.u] 62)).alloc (.cells #[.int .i64 0, .slice none 0 0] 27)).heap[w.heap.size + 1 + 1]? = some (.cells #[.int .i64 0, .slice none 0 0] 27) := by
    have := heap_alloc_new ((w.alloc (.cells #[.int .i64 now, .slice A n c] 27)).alloc (.cells #[.int .u64 x.o.toNat, .bool x.s, .int .i64 x.u] 62)) (.cells #[.int .i64 0, .slice none 0 0] 27)
    simpa using this
  have q2 : (((w.alloc (.cells #[.int .i64 now, .slice A n c] 27)).alloc (.cells #[.int .u64 x.o.toNat, .bool x.s, .int .i64 x.u] 62)).alloc (.cells #[.int .i64 0, .slice none 0 0] 27)).heap[w.heap.size + 1]? = some (.cells #[.int .u64 x.o.toNat, .bool x.s, .int .i64 x.u] 62) := by
    rw [heap_alloc_old _ _ (by simp)]
    have := heap_alloc_new (w.alloc (.cells #[.int .i64 now, .slice A n c] 27)) (.cells #[.int .u64 x.o.toNat, .bool x.s, .int .i64 x.u] 62)
    simpa using this
  have q1 : (((w.alloc (.cells #[.int .i64 now, .slice A n c] 27)).alloc (.cells #[.int .u64 x.o.toNat, .bool x.s, .int .i64 x.u] 62)).alloc (.cells #[.int .i64 0, .slice none 0 0] 27)).heap[w.heap.size]? = some (.cells #[.int .i64 now, .slice A n c] 27) := by
    rw [heap_alloc_old _ _ (by simp; omega), heap_alloc_old _ _ (by simp)]
    exact heap_alloc_new _ _
  obtain ⟨wE, hwE⟩ : ∃ wE, wE = (((w.alloc (.cells #[.int .i64 now, .slice A n c] 27)).alloc (.cells #[.int .u64 x.o.toNat, .bool x.s, .int .i64 x.u] 62)).alloc (.cells #[.int .i64 0, .slice none 0 0] 27)) := ⟨_, rfl⟩
  rw [← hwE] at HB3 HSZ q1 q2 q3
  have HWE := Lib.hid hwE.symm
  clear hwE
  have AT : Hid (Hid (∀ w', Below wE.heap.size wE w' → w'.cell? ⟨w.heap.size, 0, none⟩ = some (.int .i64 now) ∧ w'.cell? ⟨w.heap.size, 1, none⟩ = some (.slice A n c) ∧ w'.cell? ⟨w.heap.size + 1, 0, none⟩ = some (.int .u64 x.o.toNat) ∧ w'.cell? ⟨w.heap.size + 1, 1, none⟩ = some (.bool x.s) ∧ w'.cell? ⟨w.heap.size + 1, 2, none⟩ = some (.int .i64 x.u) ∧ w'.cell? ⟨w.heap.size + 1 + 1, 0, none⟩ = some (.int .i64 0) ∧ w'.cell? ⟨w.heap.size + 1 + 1, 1, none⟩ = some (.slice none 0 0) ∧ (∀ j, w'.frozen? ⟨w.heap.size, j, none⟩ = false) ∧ (∀ j, w'.frozen? ⟨w.heap.size + 1 + 1, j, none⟩ = false) ∧ Below w.heap.size w w' ∧ w.heap.size + 3 ≤ w'.heap.size)) := by
    intro w' b
    have hs := HSZ.out
    have e1 := cells2 (w := w') ((b.block _ (by omega)).trans q1)
    have e3 := cells2 (w := w') ((b.block _ (by omega)).trans q3)
    have e2 := (b.block (w.heap.size + 1) (by omega)).trans q2
    exact ⟨e1.1, e1.2.1, by unfold World.cell?; simp [e2], by unfold World.cell?; simp [e2], by unfold World.cell?; simp [e2], e3.1, e3.2.1, e1.2.2, e3.2.2, HB3.out.trans (b.mono HB3.out.size), by have := b.size; omega⟩
  clear q1 q2 q3
  go_enter Try.func39, Try.ntmps39
  go_wp2_with fail
  rw [HWE.out]
  clear HWE
  go_loopw [5, 6, 7] (fun u d a wr => ∃ j : Nat, j ≤ n ∧ a = .int .i64 j ∧ d = .bool (decide (p < j)) ∧ Hid (OwnL wr wE.heap.size u (wOut l x j).length (lkC (wOut l x j))) ∧ Hid (Below wE.heap.size wE wr)) (fun _ _ a _ => n - (intOf a).toNat)
  case atStart => exact ⟨0, Nat.zero_le _, rfl, by simp, by rw [show wOut l x 0 = [] by simp [wOut]]; exact World.ownsRow_nil _ _ _ _, Below.refl _ _⟩
  case round =>
    obtain ⟨j, hj, rfl, rfl, HU, HBr⟩ := hrel
    obtain ⟨X0, X1, Y0, Y1, Y2, R0, R1, FX, FR, bw, hsz⟩ := AT.out _ HBr.out
    have HBW := Lib.hid bw
    by_cases hlt : j < n
    · have hlt' : (j : Int) < (n : Int) := by omega
      have hnn := HN.out
      obtain ⟨b, off, rfl, hblt, hcells⟩ := HC.out (by omega)
      have hml : j < l.length := by omega
      have hj0 : (0 : Int) ≤ (j : Int) := by omega
      have HCL : Hid (∀ w', Below w.heap.size w w' → w'.cell? ⟨b, off + j * 3, none⟩ = some (.int .u64 l[j].o.toNat) ∧ w'.cell? ⟨b, off + j * 3 + 1, none⟩ = some (.bool l[j].s) ∧ w'.cell? ⟨b, off + j * 3 + 2, none⟩ = some (.int .i64 l[j].u)) := fun w' b' => ⟨(b'.cell (p := ⟨b, off + j * 3, none⟩) hblt).trans (hcells j hml).1, (b'.cell (p := ⟨b, off + j * 3 + 1, none⟩) hblt).trans (hcells j hml).2.1, (b'.cell (p := ⟨b, off + j * 3 + 2, none⟩) hblt).trans (hcells j hml).2.2⟩
      obtain ⟨y1, y2, y3⟩ := HCL.out _ HBW.out
      have HLE : Hid ((wOut l x j).length ≤ 200000) := by have h1 := wOut_len l x j; have h2 := HL.out; unfold Hid; omega
      have hlo := HR.out j hml
      have hpo := HPO.out j hml
      have hpe := HP.out
      rw [← hpe] at hlo hpo
      have HW1 : Hid (j < p → wOut l x (j + 1) = wOut l x j ++ [l[j]]) := fun h => wOut_lt l x j hml (by omega)
      have HW2 : Hid (p < j → wOut l x (j + 1) = wOut l x j ++ [l[j]]) := fun h => wOut_gt l x j hml (by omega)
      have HW3 : Hid (j = p → hasO l x.o = false → wOut l x (j + 1) = wOut l x j ++ [x] ++ [l[j]]) := fun h hh => wOut_no l x j hml (by omega) hh
      have HW4 : Hid (j = p → hasO l x.o = true → wOut l x (j + 1) = wOut l x j ++ [x]) := fun h hh => wOut_yes l x j hml (by omega) hh
      have HHA : Hid (hasO l x.o = true → j = p → l[j].o = x.o) := fun hh e => by
        have h1 := hasO_at hh
        have e2 : placeO l x.o = j := by omega
        simp only [e2] at h1
        exact h1
      have HNO : Hid (hasO l x.o = false → ¬ l[j].o = x.o) := fun hh e => by have := (hpo e).2; rw [hh] at this; cases this
      have HRI : Hid (p < j → ¬ l[j].o = x.o) := fun h e => by
        have := (hpo e).1
        omega
      generalize l[j] = y at *
      have HLO := Lib.hid hlo
      clear hcells hnn hpe hlo hpo bw
      have HUO : Hid (∀ k, u5.ownBlock = some k → wE.heap.size ≤ k) := by
        intro k hk
        rcases HU.out.2 with ⟨h, _⟩ | ⟨g, cap, cur, hv, hg, hr, r⟩
        · rw [h] at hk; cases hk
        · rw [hv] at hk; cases hk; exact hg
      rcases Nat.lt_trichotomy j p with hjp | hjp | hjp
      · have dp : decide (p < j) = false := by simp; omega
        have hyx := HLO.out.2 hjp
        have hyx' : y.o.toNat < x.o.toNat := hyx
        have g1 : decide ((x.o.toNat : Int) ≤ (y.o.toNat : Int)) = false := by simp; omega
        have g2 : decide (x.o.toNat ≤ y.o.toNat) = false := by simp; omega
        have hne : ¬ y.o = x.o := fun e => by rw [e] at hyx; exact absurd hyx (UInt64.lt_irrefl _)
        have ne1 : ((y.o.toNat : Int) != (x.o.toNat : Int)) = true := by rw [bne_iff_ne]; intro e; exact hne (UInt64.toNat_inj.1 (by omega))
        have ne2 : (y.o.toNat != x.o.toNat) = true := by rw [bne_iff_ne]; intro e; exact hne (UInt64.toNat_inj.1 e)
        have HW := Lib.hid (HW1.out hjp)
        have HD : Hid (decide (p < j + 1) = false) := by unfold Hid; simp; omega
        rw [dp]
        clear dp hyx hyx' hne HW1 HW2 HW3 HW4 HHA HRI HLO FX FR hjp
        go_wp2_with fail
        go_quiet (fail)
        go_wp2_with fail
        go_quiet (fail)
        have hb9 := HBr.out
        go_wp2_with (at_builtin; refine wpList_append_lN rfl _ _ rfl wE.heap.size u5 rfl (wOut l x j) (World.ownsRow.alloc HU.out _) ⟨_, 0, none⟩ 1 1 [y] rfl rfl (new_src _ _) (by have := HLE.out; omega) (by have := hb9.size; simp at this ⊢; omega) ?_)
        intro u9 w9 ho9 hg1
        have HB9 : Hid (Below wE.heap.size wE w9) := by
          unfold Hid
          first
            | exact ((Below.drewN hb9 _).alloc (Below.drewN hb9 _).size _).grown hg1 ((Below.drewN hb9 _).alloc (Below.drewN hb9 _).size _).size HUO.out
            | exact ((Below.drewN (Below.drewN hb9 _) _).alloc (Below.drewN (Below.drewN hb9 _) _).size _).grown hg1 ((Below.drewN (Below.drewN hb9 _) _).alloc (Below.drewN (Below.drewN hb9 _) _).size _).size HUO.out
        have HO9h : Hid (OwnL w9 wE.heap.size u9 ((wOut l x j) ++ [y]).length (lkC ((wOut l x j) ++ [y]))) := by
          unfold Hid
          first
            | (rw [List.length_append]; exact ho9)
            | (simpa using ho9)
        clear hg1 hb9 ho9
        have HU9 : Hid (OwnL w9 wE.heap.size u9 (wOut l x (j + 1)).length (lkC (wOut l x (j + 1)))) := by unfold Hid; rw [HW.out]; exact HO9h.out
        go_wp2_with fail
        go_roundw
        case rel => exact ⟨j + 1, by omega, by go_num, by rw [show decide (p < j + 1) = _ from HD.out], HU9, HB9⟩
        case measure => simp [intOf]; omega
      · by_cases hh : hasO l x.o = true
        · have dp : decide (p < j) = false := by simp; omega
          have heq := HHA.out hh hjp
          have g1 : decide ((x.o.toNat : Int) ≤ (y.o.toNat : Int)) = true := by rw [heq]; simp
          have g2 : decide (x.o.toNat ≤ y.o.toNat) = true := by rw [heq]; simp
          have ne1 : ((y.o.toNat : Int) != (x.o.toNat : Int)) = false := by rw [heq]; simp
          have ne2 : (y.o.toNat != x.o.toNat) = false := by rw [heq]; simp
          have HW := Lib.hid (HW4.out hjp hh)
          have HD : Hid (decide (p < j + 1) = true) := by unfold Hid; simp; omega
          rw [dp]
          clear dp heq HW1 HW2 HW3 HW4 HHA HRI HLO FX FR hjp hh
          go_wp2_with fail
          go_quiet (fail)
          have hb9 := HBr.out
          go_wp2_with (at_builtin; refine wpList_append_lN rfl _ _ rfl wE.heap.size u5 rfl (wOut l x j) (World.ownsRow.alloc HU.out _) ⟨_, 0, none⟩ 1 1 [x] rfl rfl (new_src _ _) (by have := HLE.out; omega) (by have := hb9.size; simp at this ⊢; omega) ?_)
          intro u8' w8 ho8 hg1
          have HB8 : Hid (Below wE.heap.size wE w8) := by
            unfold Hid
            first
              | exact ((Below.drewN hb9 _).alloc (Below.drewN hb9 _).size _).grown hg1 ((Below.drewN hb9 _).alloc (Below.drewN hb9 _).size _).size HUO.out
              | exact ((Below.drewN (Below.drewN hb9 _) _).alloc (Below.drewN (Below.drewN hb9 _) _).size _).grown hg1 ((Below.drewN (Below.drewN hb9 _) _).alloc (Below.drewN (Below.drewN hb9 _) _).size _).size HUO.out
          have HO8h : Hid (OwnL w8 wE.heap.size u8' ((wOut l x j) ++ [x]).length (lkC ((wOut l x j) ++ [x]))) := by
            unfold Hid
            first
              | (rw [List.length_append]; exact ho8)
              | (simpa using ho8)
          clear hg1 hb9 ho8
          clear X0 X1 Y0 Y1 Y2 R0 R1
          obtain ⟨X0, X1, Y0, Y1, Y2, R0, R1, FX, FR, bw, hsz1⟩ := AT.out _ HB8.out
          obtain ⟨y1, y2, y3⟩ := HCL.out _ bw
          clear FX FR bw
          go_wp2_with fail
          go_quiet (fail)
          have HB9 : Hid (Below wE.heap.size wE (w8.drewN nq)) := Below.drewN HB8.out _
          have HU9 : Hid (OwnL (w8.drewN nq) wE.heap.size u8' (wOut l x (j + 1)).length (lkC (wOut l x (j + 1)))) := by unfold Hid; rw [HW.out]; exact HO8h.out
          go_wp2_with fail
          go_roundw
          case rel => exact ⟨j + 1, by omega, by go_num, by rw [show decide (p < j + 1) = _ from HD.out], HU9, HB9⟩
          case measure => simp [intOf]; omega
        · have hh' : hasO l x.o = false := by cases h : hasO l x.o with | true => exact absurd h hh | false => rfl
          have dp : decide (p < j) = false := by simp; omega
          have hyx : ¬ y.o < x.o := fun h => by have := HLO.out.1 h; omega
          have hyx' : ¬ y.o.toNat < x.o.toNat := hyx
          have g1 : decide ((x.o.toNat : Int) ≤ (y.o.toNat : Int)) = true := by simp; omega
          have g2 : decide (x.o.toNat ≤ y.o.toNat) = true := by simp; omega
          have hne : ¬ y.o = x.o := HNO.out hh'
          have ne1 : ((y.o.toNat : Int) != (x.o.toNat : Int)) = true := by rw [bne_iff_ne]; intro e; exact hne (UInt64.toNat_inj.1 (by omega))
          have ne2 : (y.o.toNat != x.o.toNat) = true := by rw [bne_iff_ne]; intro e; exact hne (UInt64.toNat_inj.1 e)
          have HW := Lib.hid (HW3.out hjp hh')
          have HD : Hid (decide (p < j + 1) = true) := by unfold Hid; simp; omega
          rw [dp]
          clear dp hyx hyx' hne HW1 HW2 HW3 HW4 HHA HRI HLO FX FR hjp hh hh'
          go_wp2_with fail
          go_quiet (fail)
          have hb9 := HBr.out
          go_wp2_with (at_builtin; refine wpList_append_lN rfl _ _ rfl wE.heap.size u5 rfl (wOut l x j) (World.ownsRow.alloc HU.out _) ⟨_, 0, none⟩ 1 1 [x] rfl rfl (new_src _ _) (by have := HLE.out; omega) (by have := hb9.size; simp at this ⊢; omega) ?_)
          intro u8' w8 ho8 hg1
          have HB8 : Hid (Below wE.heap.size wE w8) := by
            unfold Hid
            first
              | exact ((Below.drewN hb9 _).alloc (Below.drewN hb9 _).size _).grown hg1 ((Below.drewN hb9 _).alloc (Below.drewN hb9 _).size _).size HUO.out
              | exact ((Below.drewN (Below.drewN hb9 _) _).alloc (Below.drewN (Below.drewN hb9 _) _).size _).grown hg1 ((Below.drewN (Below.drewN hb9 _) _).alloc (Below.drewN (Below.drewN hb9 _) _).size _).size HUO.out
          have HO8h : Hid (OwnL w8 wE.heap.size u8' ((wOut l x j) ++ [x]).length (lkC ((wOut l x j) ++ [x]))) := by
            unfold Hid
            first
              | (rw [List.length_append]; exact ho8)
              | (simpa using ho8)
          clear hg1 hb9 ho8
          clear X0 X1 Y0 Y1 Y2 R0 R1
          obtain ⟨X0, X1, Y0, Y1, Y2, R0, R1, FX, FR, bw, hsz1⟩ := AT.out _ HB8.out
          obtain ⟨y1, y2, y3⟩ := HCL.out _ bw
          have HUO8 : Hid (∀ k, u8'.ownBlock = some k → wE.heap.size ≤ k) := by
            intro k hk
            rcases HO8h.out.2 with ⟨h, _⟩ | ⟨g, cap, cur, hv, hg, hr, r⟩
            · rw [h] at hk; cases hk
            · rw [hv] at hk; cases hk; exact hg
          have HLE8 : Hid ((wOut l x j ++ [x]).length ≤ 200001) := by unfold Hid; rw [List.length_append]; have := HLE.out; simp; omega
          clear FX FR bw
          go_wp2_with fail
          go_quiet (fail)
          have hb9 := HB8.out
          go_wp2_with (at_builtin; refine wpList_append_lN rfl _ _ rfl wE.heap.size u8' rfl (wOut l x j ++ [x]) (World.ownsRow.alloc HO8h.out _) ⟨_, 0, none⟩ 1 1 [y] rfl rfl (new_src _ _) (by have := HLE8.out; omega) (by have := hb9.size; simp at this ⊢; omega) ?_)
          intro u9 w9 ho9 hg1
          have HB9 : Hid (Below wE.heap.size wE w9) := by
            unfold Hid
            first
              | exact ((Below.drewN hb9 _).alloc (Below.drewN hb9 _).size _).grown hg1 ((Below.drewN hb9 _).alloc (Below.drewN hb9 _).size _).size HUO8.out
              | exact ((Below.drewN (Below.drewN hb9 _) _).alloc (Below.drewN (Below.drewN hb9 _) _).size _).grown hg1 ((Below.drewN (Below.drewN hb9 _) _).alloc (Below.drewN (Below.drewN hb9 _) _).size _).size HUO8.out
          have HO9h : Hid (OwnL w9 wE.heap.size u9 ((wOut l x j ++ [x]) ++ [y]).length (lkC ((wOut l x j ++ [x]) ++ [y]))) := by
            unfold Hid
            first
              | (rw [List.length_append]; exact ho9)
              | (simpa using ho9)
          clear hg1 hb9 ho9
          have HU9 : Hid (OwnL w9 wE.heap.size u9 (wOut l x (j + 1)).length (lkC (wOut l x (j + 1)))) := by unfold Hid; rw [HW.out]; exact HO9h.out
          go_wp2_with fail
          go_roundw
          case rel => exact ⟨j + 1, by omega, by go_num, by rw [show decide (p < j + 1) = _ from HD.out], HU9, HB9⟩
          case measure => simp [intOf]; omega
      · have dp : decide (p < j) = true := by simp; omega
        have hne : ¬ y.o = x.o := HRI.out hjp
        have ne1 : ((y.o.toNat : Int) != (x.o.toNat : Int)) = true := by rw [bne_iff_ne]; intro e; exact hne (UInt64.toNat_inj.1 (by omega))
        have ne2 : (y.o.toNat != x.o.toNat) = true := by rw [bne_iff_ne]; intro e; exact hne (UInt64.toNat_inj.1 e)
        have HW := Lib.hid (HW2.out hjp)
        have HD : Hid (decide (p < j + 1) = true) := by unfold Hid; simp; omega
        rw [dp]
        clear dp hne HW1 HW2 HW3 HW4 HHA HRI HLO FX FR hjp
        go_wp2_with fail
        go_quiet (fail)
        go_wp2_with fail
        go_quiet (fail)
        have hb9 := HBr.out
        go_wp2_with (at_builtin; refine wpList_append_lN rfl _ _ rfl wE.heap.size u5 rfl (wOut l x j) (World.ownsRow.alloc HU.out _) ⟨_, 0, none⟩ 1 1 [y] rfl rfl (new_src _ _) (by have := HLE.out; omega) (by have := hb9.size; simp at this ⊢; omega) ?_)
        intro u9 w9 ho9 hg1
        have HB9 : Hid (Below wE.heap.size wE w9) := by
          unfold Hid
          first
            | exact ((Below.drewN hb9 _).alloc (Below.drewN hb9 _).size _).grown hg1 ((Below.drewN hb9 _).alloc (Below.drewN hb9 _).size _).size HUO.out
            | exact ((Below.drewN (Below.drewN hb9 _) _).alloc (Below.drewN (Below.drewN hb9 _) _).size _).grown hg1 ((Below.drewN (Below.drewN hb9 _) _).alloc (Below.drewN (Below.drewN hb9 _) _).size _).size HUO.out
        have HO9h : Hid (OwnL w9 wE.heap.size u9 ((wOut l x j) ++ [y]).length (lkC ((wOut l x j) ++ [y]))) := by
          unfold Hid
          first
            | (rw [List.length_append]; exact ho9)
            | (simpa using ho9)
        clear hg1 hb9 ho9
        have HU9 : Hid (OwnL w9 wE.heap.size u9 (wOut l x (j + 1)).length (lkC (wOut l x (j + 1)))) := by unfold Hid; rw [HW.out]; exact HO9h.out
        go_wp2_with fail
        go_roundw
        case rel => exact ⟨j + 1, by omega, by go_num, by rw [show decide (p < j + 1) = _ from HD.out], HU9, HB9⟩
        case measure => simp [intOf]; omega
    · obtain rfl : j = n := by omega
      have hnn := HN.out
      have hpe := HP.out
      have HLE : Hid ((wOut l x j).length ≤ 200000) := by have h1 := wOut_len l x j; have h2 := HL.out; unfold Hid; omega
      have HUO : Hid (∀ k, u5.ownBlock = some k → wE.heap.size ≤ k) := by
        intro k hk
        rcases HU.out.2 with ⟨h, _⟩ | ⟨g, cap, cur, hv, hg, hr, r⟩
        · rw [h] at hk; cases hk
        · rw [hv] at hk; cases hk; exact hg
      by_cases hpn : p < j
      · have dp : decide (p < j) = true := by simpa using hpn
        have HE : Hid (wOut l x j = withL l x) := by unfold Hid; rw [hnn]; exact wOut_end l x (by omega)
        have HU2 : Hid (OwnL wr wE.heap.size u5 (withL l x).length (lkC (withL l x))) := by have := HU.out; rw [HE.out] at this; exact this
        obtain ⟨zA, zc, rfl⟩ := OwnL.form HU2.out
        have fr0 := FR 0
        have fr1 := FR 1
        have fx1 := FX 1
        have HEND : Hid (OwnL (((wr.setCell ⟨w.heap.size, 1, none⟩ (.slice zA (withL l x).length zc)).setCell ⟨w.heap.size + 1 + 1, 0, none⟩ (.int .i64 now)).setCell ⟨w.heap.size + 1 + 1, 1, none⟩ (.slice zA (withL l x).length zc)) w.heap.size (.slice zA (withL l x).length zc) (withL l x).length (lkC (withL l x))) :=
          OwnL.mono (B := wE.heap.size) (((HU2.out.set_lt (by have := HSZ.out; omega)).set_lt (by have := HSZ.out; omega)).set_lt (by have := HSZ.out; omega)) (by have := HSZ.out; omega)
        clear HU HU2 FX FR hnn hpe HE bw
        obtain ⟨z, hz⟩ : ∃ z, z = (withL l x).length := ⟨_, rfl⟩
        have HZZ := Lib.hid hz
        rw [← hz] at HEND
        rw [← hz]
        clear hz
        rw [dp]
        clear dp
        go_wp2_with fail
        (try simp only [Exit.inBlock, Exit.then])
        refine bodyPost_cell1 (V := .agg #[.int .i64 now, .slice zA z zc]) rfl rfl ?_ rfl ?_
        · go_simp
        · exact ⟨_, rfl, by rw [← HZZ.out]; exact HEND.out, ((HBW.out.setCell (p := ⟨w.heap.size, 1, none⟩) (by dsimp only; omega) _).setCell (p := ⟨w.heap.size + 1 + 1, 0, none⟩) (by dsimp only; omega) _).setCell (p := ⟨w.heap.size + 1 + 1, 1, none⟩) (by dsimp only; omega) _⟩
      · have dp : decide (p < j) = false := by simpa using hpn
        have HE : Hid (wOut l x j ++ [x] = withL l x) := by unfold Hid; rw [hnn]; exact wOut_end2 l x (by omega)
        rw [dp]
        clear dp hnn hpe bw
        go_wp2_with (at_builtin; refine wpList_append_lN rfl _ _ rfl wE.heap.size u5 rfl (wOut l x j) (World.ownsRow.alloc HU.out _) ⟨_, 0, none⟩ 1 1 [x] rfl rfl (new_src _ _) (by have := HLE.out; omega) (by have := HBr.out.size; simp at this ⊢; omega) ?_)
        intro u' w1 ho hg1
        have HB1 : Hid (Below wE.heap.size wE w1) := (HBr.out.alloc HBr.out.size _).grown hg1 (HBr.out.alloc HBr.out.size _).size HUO.out
        clear X0 X1 Y0 Y1 Y2 R0 R1 FX FR
        obtain ⟨X0, X1, Y0, Y1, Y2, R0, R1, FX, FR, bw, hsz1⟩ := AT.out _ HB1.out
        have HBW1 := Lib.hid bw
        have ho : OwnL w1 wE.heap.size u' (withL l x).length (lkC (withL l x)) := by
          rw [← HE.out, List.length_append]
          exact ho
        obtain ⟨zA, zc, rfl⟩ := OwnL.form ho
        have fr0 := FR 0
        have fr1 := FR 1
        have fx1 := FX 1
        have HEND : Hid (OwnL (((w1.setCell ⟨w.heap.size, 1, none⟩ (.slice zA (withL l x).length zc)).setCell ⟨w.heap.size + 1 + 1, 0, none⟩ (.int .i64 now)).setCell ⟨w.heap.size + 1 + 1, 1, none⟩ (.slice zA (withL l x).length zc)) w.heap.size (.slice zA (withL l x).length zc) (withL l x).length (lkC (withL l x))) :=
          OwnL.mono (B := wE.heap.size) (((ho.set_lt (by have := HSZ.out; omega)).set_lt (by have := HSZ.out; omega)).set_lt (by have := HSZ.out; omega)) (by have := HSZ.out; omega)
        clear HU HE FX FR ho hg1 bw
        obtain ⟨z, hz⟩ : ∃ z, z = (withL l x).length := ⟨_, rfl⟩
        have HZZ := Lib.hid hz
        rw [← hz] at HEND
        rw [← hz]
        clear hz
        go_wp2_with fail
        (try simp only [Exit.inBlock, Exit.then])
        refine bodyPost_cell1 (V := .agg #[.int .i64 now, .slice zA z zc]) rfl rfl ?_ rfl ?_
        · go_simp
        · exact ⟨_, rfl, by rw [← HZZ.out]; exact HEND.out, ((HBW1.out.setCell (p := ⟨w.heap.size, 1, none⟩) (by dsimp only; omega) _).setCell (p := ⟨w.heap.size + 1 + 1, 0, none⟩) (by dsimp only; omega) _).setCell (p := ⟨w.heap.size + 1 + 1, 1, none⟩) (by dsimp only; omega) _⟩
end Go.Proofs.Ytffnkgfpbjmkbaa
