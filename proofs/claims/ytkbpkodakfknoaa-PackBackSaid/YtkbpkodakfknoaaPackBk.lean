/- PackBack: the law. -/
import Derived.Test.YtkbpkodakfknoaaPackClash
import Derived.Test.YtkbpkodakfknoaaArgsW
namespace Go.Proofs.Ytkbpkodakfknoaa
open Go.RowKit
set_option linter.unusedVariables false
set_option linter.unusedSimpArgs false
theorem owns_belowP {w w' : World} {B t k n : Nat} {v : Value} {l : List Value} (h : w.ownsRow B t k v n l) (hb : Below w.heap.size w w') : w'.ownsRow B t k v n l :=
  h.kept (only_of_belowP hb none) (by
    by_cases e : v.ownBlock = none
    · exact .inl e
    · exact .inr e)
structure Sl3O (b : Nat) (x y z : Value) (w : World) : Prop where
  c0 : w.cell? ⟨b, 0, none⟩ = some x
  c1 : w.cell? ⟨b, 1, none⟩ = some y
  c2 : w.cell? ⟨b, 2, none⟩ = some z
  lt : b < w.heap.size
theorem Sl3O.below {b B : Nat} {x y z : Value} {w w' : World} (h : Sl3O b x y z w) (hb : Below B w w') (hB : w.heap.size ≤ B) : Sl3O b x y z w' :=
  ⟨(hb.cell (p := ⟨b, 0, none⟩) (Nat.lt_of_lt_of_le h.lt hB)).trans h.c0, (hb.cell (p := ⟨b, 1, none⟩) (Nat.lt_of_lt_of_le h.lt hB)).trans h.c1, (hb.cell (p := ⟨b, 2, none⟩) (Nat.lt_of_lt_of_le h.lt hB)).trans h.c2, Nat.lt_of_lt_of_le h.lt hb.size⟩
theorem sl3O_new (w : World) (x y z : Value) : Sl3O w.heap.size x y z (w.alloc (.cells #[x, y, z] 30)) := by
  obtain ⟨c0, c1, c2, _⟩ := cells3P (heap_alloc_new w (.cells #[x, y, z] 30))
  exact ⟨c0, c1, c2, by simp⟩
structure Ob2 (b : Nat) (x y : Value) (w : World) : Prop where
  c0 : w.cell? ⟨b, 0, none⟩ = some x
  c1 : w.cell? ⟨b, 1, none⟩ = some y
  lt : b < w.heap.size
theorem Ob2.below {b B : Nat} {x y : Value} {w w' : World} (h : Ob2 b x y w) (hb : Below B w w') (hB : w.heap.size ≤ B) : Ob2 b x y w' :=
  ⟨(hb.cell (p := ⟨b, 0, none⟩) (Nat.lt_of_lt_of_le h.lt hB)).trans h.c0, (hb.cell (p := ⟨b, 1, none⟩) (Nat.lt_of_lt_of_le h.lt hB)).trans h.c1, Nat.lt_of_lt_of_le h.lt hb.size⟩
theorem ob2_new (w : World) (x y : Value) : Ob2 w.heap.size x y (w.alloc (.cells #[x, y] 45)) := by
  obtain ⟨c0, c1⟩ := cells2P (heap_alloc_new w (.cells #[x, y] 45))
  exact ⟨c0, c1, by simp⟩
theorem back_get (l : List ByteArray) (j : Nat) (h : j < l.length) (h' : j < (l.map obOf).length) : (l.map obOf)[j] = obOf l[j] := by simp
set_option maxRecDepth 20000 in
set_option maxHeartbeats 4000000 in
theorem packBack_main (W : World) (A : Option Addr) (n c : Nat) (l : List ByteArray) (t : ByteArray) (hv : StrsB W (.slice A n c) l) (hm : ∀ s ∈ l, s.size ≤ 140737488355328) (htm : t.size ≤ 140737488355328) :
    Calls Try.prog 6 #[.slice A n c, .string t] W fun e w' => e = .returned (.bool true) ∧ Below W.heap.size W w' := by
  obtain ⟨A', c', hve, h2, h3⟩ := hv.len
  cases hve
  have hcells : 0 < l.length → ∃ b off, A = some ⟨b, off, none⟩ ∧ b < W.heap.size ∧ ∀ j (hj : j < l.length), W.cell? ⟨b, off + j, none⟩ = some (.string l[j]) := fun h => by
    obtain ⟨b, off, c', e, _, _, e2, e3⟩ := hv.at h
    cases e
    exact ⟨b, off, rfl, e2, e3⟩
  have hc9 : c ≤ 9223372036854775807 := by unfold maxLen at h3; omega
  have HH4 := Lib.hid hcells
  have HM := Lib.hid hm
  have HV := Lib.hid hv
  have HAw := Lib.hid awakeP_any
  have HLL := Lib.hid h2
  clear hcells hm hv
  by_cases h30 : l.length ≤ 30
  · by_cases ht : t.size ≤ 1000
    · have HBk := Lib.hid (fun h1 h3 PW hPW sl m hsc => back_plain l h1 h30 h3 t ht PW hPW sl m hsc)
      have HCl := Lib.hid (fun w (hv : StrsB w (.slice A l.length c) l) h => clash_any _ l w hv h (by omega))
      have d1 : decide ((30 : Int) < (l.length : Int)) = false := by simp; omega
      have d2 : decide ((1000 : Int) < (t.size : Int)) = false := by simp; omega
      obtain ⟨n, hn⟩ : ∃ n, n = l.length := ⟨_, rfl⟩
      have HN := Lib.hid hn
      rw [← hn] at h2 h30 d1 HV HCl ⊢
      clear hn h3
      go_enter Try.func6, Try.ntmps6
      go_wp2_with fail
      go_loopw [5, 28] (fun o i wr => ∃ j : Nat, j ≤ n ∧ i = .int .i64 j ∧ Hid (∀ t (h : t < l.length), t < j → l[t].size ≤ 300) ∧ Hid (wr.ownsRow W.heap.size 45 2 o ((l.take j).map obOf).length (obCells ((l.take j).map obOf))) ∧ Hid (Below W.heap.size W wr)) (fun _ i _ => n - (intOf i).toNat)
      case atStart => exact ⟨0, Nat.zero_le _, rfl, (fun t h h' => absurd h' (by omega)), by rw [List.take_zero]; exact World.ownsRow_nil _ _ _ _, Below.refl _ _⟩
      case round =>
        obtain ⟨j, hj, rfl, HS, HO, HBr⟩ := hrel
        by_cases hlt : j < n
        · have hlt' : (j : Int) < (n : Int) := by omega
          have hnn := HN.out
          obtain ⟨b, off, rfl, hblt, hcells⟩ := HH4.out (by omega)
          have hml : j < l.length := by omega
          have x1 := hcells j hml
          have y1 := (HBr.out.cell (p := ⟨b, off + j, none⟩) hblt).trans x1
          have hj0 : (0 : Int) ≤ (j : Int) := by omega
          have hsz := HM.out l[j] (List.getElem_mem hml)
          have HS2 : Hid (l[j].size ≤ 300 → ∀ t (h : t < l.length), t < j + 1 → l[t].size ≤ 300) := by
            intro h t ht h'
            by_cases e : t = j
            · subst e; exact h
            · exact HS.out t ht (by omega)
          have HTK : Hid ((l.take (j + 1)).map obOf = (l.take j).map obOf ++ [obOf l[j]]) := by
            unfold Hid; rw [List.take_succ_eq_append_getElem hml, List.map_append]; rfl
          have HUL : Hid (((l.take j).map obOf).length ≤ 30) := by unfold Hid; rw [List.length_map, List.length_take]; omega
          generalize (l.take j).map obOf = U at *
          generalize l[j] = s at *
          clear hcells x1 hnn HS
          by_cases h300 : s.size ≤ 300
          · have d3 : decide ((300 : Int) < (s.size : Int)) = false := by simp; omega
            have HSum := Lib.hid (fun w => refSum_any s w (by omega))
            rw [show shaSum s.data.toList = kOf s from rfl] at HSum
            have HS3 := Lib.hid (HS2.out h300)
            have HOB : Hid (obOf s = (kOf s, s)) := rfl
            generalize kOf s = k at *
            clear h300 HS2
            go_wp2_with fail
            refine (HSum.out _).mono ?_
            rintro e w1 ⟨rfl, b1⟩
            have HB1 := Lib.hid (HBr.out.trans (b1.mono HBr.out.size))
            have HO1 := Lib.hid (owns_belowP HO.out b1)
            clear b1 HBr HO y1
            go_wp2_with (at_builtin; refine wpList_push_obj rfl _ _ _ rfl Try.underlying22 W.heap.size _ U rfl (HO1.out.alloc _) _ 1 (k, s) rfl (heap_alloc_new _ _) (by have := HUL.out; omega) (by have := HB1.out.size; rw [World.size_alloc]; omega) ?_)
            intro v2 w2 o2 g2
            have HB2 := Lib.hid (below_pushO HB1.out HB1.out.size HO1.out g2)
            have HO2 : Hid (w2.ownsRow W.heap.size 45 2 v2 (U ++ [obOf s]).length (obCells (U ++ [obOf s]))) := by unfold Hid; rw [HOB.out]; simpa [obCells] using o2
            clear o2 g2
            go_wp2_with fail
            go_roundw
            case rel => exact ⟨j + 1, by omega, by go_num, HS3, by rw [HTK.out]; exact HO2, HB2⟩
            case measure => simp [intOf]; omega
          · have d3 : decide ((300 : Int) < (s.size : Int)) = true := by simp; omega
            clear h300 HS2
            go_wp2_with fail
            refine (HAw.out _).mono ?_
            rintro e wa ⟨rfl, ba⟩
            have HBa := Lib.hid (HBr.out.trans (ba.mono HBr.out.size))
            clear ba
            go_wp2
            go_ret
            exact ⟨rfl, HBa.out⟩
        · obtain rfl : j = n := by omega
          have hnn := HN.out
          have HSS : Hid (∀ s ∈ l, s.size ≤ 300) := by
            intro s hs
            obtain ⟨i, hi, rfl⟩ := List.getElem_of_mem hs
            exact HS.out i hi (by omega)
          rw [hnn, List.take_length] at HO
          have HOJ := Lib.hid (ObjsB.of_owns HO.out)
          have HVr := Lib.hid (HV.out.below HBr.out (Nat.le_refl _))
          have HMM : Hid (smallO (l.map obOf) ∧ (l.map obOf).length = j) := by
            refine ⟨fun o ho => ?_, by rw [List.length_map]; omega⟩
            obtain ⟨s, h, rfl⟩ := List.mem_map.1 ho
            show (kOf s).size + s.size ≤ _
            have := HSS.out s h
            rw [kOf_size]; omega
          clear hnn HO HS
          go_wp2_with fail
          refine (HCl.out _ HVr.out HSS.out).mono ?_
          rintro e w1 ⟨b, rfl, hb, b1⟩
          have HB1 := Lib.hid (HBr.out.trans (b1.mono HBr.out.size))
          have HO1 := Lib.hid (HOJ.out.below b1 (Nat.le_refl _))
          clear b1 HVr HBr HOJ
          cases b with
          | true =>
            clear hb
            go_wp2_with fail
            refine (HAw.out _).mono ?_
            rintro e wa ⟨rfl, ba⟩
            have HBa := Lib.hid (HB1.out.trans (ba.mono HB1.out.size))
            clear ba
            go_wp2
            go_ret
            exact ⟨rfl, HBa.out⟩
          | false =>
            have hinj := hb rfl
            obtain ⟨PW, hPW⟩ : ∃ PW : ByteArray, PW = ⟨(pWrap (l.map obOf)).toArray⟩ := ⟨_, rfl⟩
            obtain ⟨⟨sl, m⟩, hsc⟩ : ∃ q, scanP (PW ++ t).data.toList = q := ⟨_, rfl⟩
            obtain ⟨p1, p2, p3, p4, p5⟩ := HBk.out HSS.out hinj PW hPW sl m hsc
            have HP5 := Lib.hid p5
            have HW := Lib.hid (fun v w (h : ObjsB w v (l.map obOf)) => pwrap_any v (l.map obOf) w h HMM.out.1 (by rw [HMM.out.2]; omega))
            rw [← hPW] at HW
            have hpt : (PW ++ t).size = PW.size + t.size := ByteArray.size_append
            have HSc := Lib.hid (fun w => scan_any (PW ++ t) (by omega) w)
            have HTk := Lib.hid (fun w k (a z : Nat) (h : a + z ≤ PW.size) => ptake_any (PW ++ t) k a z w (by omega) (by omega) (by omega))
            have hri : RisS sl := by have := foldS_ris (goods (allF (PW ++ t).data.toList)); rw [show foldS (goods (allF (PW ++ t).data.toList)) = scanP (PW ++ t).data.toList from rfl, hsc] at this; exact this
            have HF := Lib.hid (fun w v k (h : SlotsB w v sl) => find_any v sl k w h hri (by have := HN.out; omega))
            rw [hsc] at HSc
            dsimp only at HSc
            have HSL : Hid (PW.size ≤ 30000 ∧ t.size ≤ 1000) := ⟨p4, ht⟩
            have hpp : (PW ++ t).size ≤ 140737488355328 := by omega
            clear hb hinj hPW hsc p5 hpt hri HBk HCl
            obtain ⟨A5, c5, rfl, q2, q3, q4⟩ : ∃ A5 c5, u5 = .slice A5 j c5 ∧ j ≤ c5 ∧ c5 ≤ 9223372036854775807 ∧ True := by
              obtain ⟨A5, c5, e, f2, f3, _⟩ := HO1.out
              rw [HMM.out.2] at e f2
              exact ⟨A5, c5, e, f2, by unfold maxLen at f3; omega, trivial⟩
            clear q4
            go_wp2_with fail
            refine (HW.out _ _ HO1.out).mono ?_
            rintro e w2 ⟨rfl, b2⟩
            have HB2 := Lib.hid (HB1.out.trans (b2.mono HB1.out.size))
            have HO2 := Lib.hid (HO1.out.below b2 (Nat.le_refl _))
            clear b2 HB1 HO1
            go_wp2_with fail
            refine (HSc.out _).mono ?_
            rintro e w3 ⟨v3, rfl, o3, b3⟩
            have HB3 := Lib.hid (HB2.out.trans (b3.mono HB2.out.size))
            have HO3 := Lib.hid (HO2.out.below b3 (Nat.le_refl _))
            have HS3 := Lib.hid (SlotsB.of_owns o3)
            obtain ⟨A3, c3, rfl, r2, r3, r4⟩ := HS3.out
            have hc3 : c3 ≤ 9223372036854775807 := by unfold maxLen at r3; omega
            have d4 : decide ((m : Int) < (PW.size : Int)) = false := by simp; omega
            have d4n : decide (m < PW.size) = false := by simp; omega
            have d5 : decide ((j : Int) + 30 < (sl.length : Int)) = false := by have := HN.out; simp; omega
            clear b3 o3 HB2 HO2 r4 r3 HW HSc
            go_wp2_with fail
            have HF5 : Hid (∀ i (h : i < j), ∃ b off s, A5 = some ⟨b, off, none⟩ ∧ b < w3.heap.size ∧ s ∈ l ∧ w3.cell? ⟨b, off + i * 2, none⟩ = some (.string (kOf s)) ∧ w3.cell? ⟨b, off + i * 2 + 1, none⟩ = some (.string s)) := by
              intro i hi
              have hil : i < l.length := by have := HN.out; omega
              obtain ⟨A6, c6, e, f2, f3, f4⟩ := HO3.out
              obtain ⟨b, off, e1, e2, e3⟩ := f4 (by rw [HMM.out.2]; omega)
              cases e
              obtain ⟨g1, g2⟩ := e3 i (by rw [List.length_map]; exact hil)
              rw [back_get l i hil] at g1 g2
              exact ⟨b, off, l[i], e1, e2, List.getElem_mem hil, g1, g2⟩
            go_loopw [70] (fun i wr => ∃ i0 : Nat, i0 ≤ j ∧ i = .int .i64 i0 ∧ Hid (Below w3.heap.size w3 wr)) (fun i _ => j - (intOf i).toNat)
            case atStart => exact ⟨0, Nat.zero_le _, rfl, Below.refl _ _⟩
            case round =>
              obtain ⟨i, hi, rfl, HBr⟩ := hrel
              by_cases hlt2 : i < j
              · have hlt2' : (i : Int) < (j : Int) := by omega
                obtain ⟨b, off, s, rfl, hblt, hsm, x1, x2⟩ := HF5.out i hlt2
                have y1 := (HBr.out.cell (p := ⟨b, off + i * 2, none⟩) hblt).trans x1
                have y2 := (HBr.out.cell (p := ⟨b, off + i * 2 + 1, none⟩) hblt).trans x2
                have hi0 : (0 : Int) ≤ (i : Int) := by omega
                obtain ⟨a, z, hle, g1, g2, g3⟩ := HP5.out s hsm
                have hps := HSL.out.1
                have HF1 := Lib.hid (fun w h => HF.out w (.slice A3 sl.length c3) (kOf s) h)
                rw [g1, g2] at HF1
                unfold SltV at HF1
                dsimp only at HF1
                have HT1 := Lib.hid (fun w => HTk.out w (kOf s) a z hle)
                rw [g3] at HT1
                dsimp only at HT1
                generalize kOf s = k at *
                have hss : (s.toList == s.toList) = true := by simp
                have dz : decide ((PW.size : Int) < (a : Int) + (z : Int)) = false := by simp; omega
                have HX0 := Lib.hid (ob2_new wr (.string k) (.string s))
                have HBa : Hid (Below w3.heap.size w3 (wr.alloc (.cells #[.string k, .string s] 45))) := HBr.out.alloc HBr.out.size _
                have HS4 := Lib.hid (HS3.out.below HBa.out (Nat.le_refl _))
                obtain ⟨z0, z1, _⟩ := HX0.out
                clear x1 x2 hsm g1 g2 g3
                go_wp2_with fail
                refine (HF1.out _ HS4.out).mono ?_
                rintro e w4 ⟨rfl, b4⟩
                have HB4 := Lib.hid (HBa.out.trans (b4.mono HBa.out.size))
                have HX4 := Lib.hid (HX0.out.below b4 (Nat.le_refl _))
                clear b4 HBa HX0 HS4 z0 z1 y1 y2
                have HX5 := Lib.hid (sl3O_new w4 (.string k) (.int .i64 a) (.int .i64 z))
                have hal := (Below.refl w4.heap.size w4).alloc (Nat.le_refl _) (.cells #[.string k, .int .i64 a, .int .i64 z] 30)
                have HX6 := Lib.hid (HX4.out.below hal (Nat.le_refl _))
                have HB6 := Lib.hid (HB4.out.alloc HB4.out.size (.cells #[.string k, .int .i64 a, .int .i64 z] 30))
                clear hal
                go_wp2_with fail
                refine (HT1.out _).mono ?_
                rintro e w5 ⟨rfl, b5⟩
                have HB5 := Lib.hid (HB6.out.trans (b5.mono HB6.out.size))
                obtain ⟨s0, s1, s2, _⟩ := HX5.out.below b5 (Nat.le_refl _)
                obtain ⟨z0, z1, _⟩ := HX6.out.below b5 (Nat.le_refl _)
                clear b5 HB6 HX5 HX6 HX4 HB4
                go_wp2_with fail
                go_roundw
                case rel => exact ⟨i + 1, by omega, by go_num, HB5⟩
                case measure => simp [intOf]; omega
              · obtain rfl : i = j := by omega
                have HB9 := Lib.hid (HB3.out.trans (HBr.out.mono HB3.out.size))
                go_wp2_with fail
                refine (HAw.out _).mono ?_
                rintro e wa ⟨rfl, ba⟩
                have HBa := Lib.hid (HB9.out.trans (ba.mono HB9.out.size))
                clear ba
                go_wp2
                go_ret
                exact ⟨rfl, HBa.out⟩
    · have d1 : decide ((30 : Int) < (l.length : Int)) = false := by simp; omega
      have d2 : decide ((1000 : Int) < (t.size : Int)) = true := by simp; omega
      obtain ⟨n, hn⟩ : ∃ n, n = l.length := ⟨_, rfl⟩
      rw [← hn] at h2 h30 d1 ⊢
      have HB0 := Lib.hid (Below.refl W.heap.size W)
      clear hn h3
      go_enter Try.func6, Try.ntmps6
      go_wp2_with fail
      refine (HAw.out _).mono ?_
      rintro e wa ⟨rfl, ba⟩
      have HBa := Lib.hid (HB0.out.trans (ba.mono HB0.out.size))
      clear ba
      go_wp2
      go_ret
      exact ⟨rfl, HBa.out⟩
  · have d1 : decide ((30 : Int) < (l.length : Int)) = true := by simp; omega
    obtain ⟨n, hn⟩ : ∃ n, n = l.length := ⟨_, rfl⟩
    rw [← hn] at h2 h30 d1 ⊢
    have HB0 := Lib.hid (Below.refl W.heap.size W)
    clear hn h3
    go_enter Try.func6, Try.ntmps6
    go_wp2_with fail
    refine (HAw.out _).mono ?_
    rintro e wa ⟨rfl, ba⟩
    have HBa := Lib.hid (HB0.out.trans (ba.mono HB0.out.size))
    clear ba
    go_wp2
    go_ret
    exact ⟨rfl, HBa.out⟩
theorem packBack_ok (W : World) (A0 : Option Addr) (n0 c0 : Nat) (x0 : List ByteArray) (w0 : Sl W A0 n0 c0 1 (x0.flatMap EStr) ∧ x0.length = n0 ∧ (A0 = none → c0 = 0) ∧ ∀ y ∈ x0, y.size ≤ 140737488351232) (x1 : ByteArray) (w1 : x1.size ≤ 140737488351232) :
    Calls Try.prog 6 #[.slice A0 n0 c0, .string x1] W fun e w' => e = .returned (.bool true) ∧ Below W.heap.size W w' :=
  packBack_main W A0 n0 c0 x0 x1 (StrsB.of_sl w0.1 w0.2.1) (fun s hs => by have := w0.2.2.2 s hs; omega) (by omega)
end Go.Proofs.Ytkbpkodakfknoaa
