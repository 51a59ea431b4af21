/- PackTakes: the law. -/
import Derived.Test.YtkbpkodakfknoaaPackAwake
import Derived.Test.YtkbpkodakfknoaaPackTake
import Derived.Test.YtkbpkodakfknoaaPackRScan
import Derived.Test.YtkbpkodakfknoaaStructs
import Derived.Laws.StructEq
namespace Go.Proofs.Ytkbpkodakfknoaa
open Go.RowKit
set_option linter.unusedVariables false
set_option linter.unusedSimpArgs false
theorem eqIn_sl (a : ByteArray) (b c : Int) (w : World) : (Op.equalIn 10000 30 (.agg #[.string a, .int .i64 b, .int .i64 c]) (.agg #[.string a, .int .i64 b, .int .i64 c])).run Try.prog w = .ok true w := by
  have u3 := Try.underlying3
  have u9 := Try.underlying9
  have a3 := Try.isAgg3
  have a9 := Try.isAgg9
  have z3 := Try.sizeOf3
  have z9 := Try.sizeOf9
  have hS : Try.prog.underlying 30 = some (.struct (Try.prog.fieldsOf 30)) := by kernel_rfl
  have hp : Try.prog.stoodInHeld 30 = false := by kernel_rfl
  rw [show (10000 : Nat) = 9999 + 1 from rfl, run_equalIn_agg w 9999 30 _ _ hS hp]
  simp only [Program.fieldsOf, Try.underlying30]
  go_simp
structure Sl3 (b : Nat) (x y z : Value) (w : World) : Prop where
  c0 : w.cell? ⟨b, 0, none⟩ = some x
  c1 : w.cell? ⟨b, 1, none⟩ = some y
  c2 : w.cell? ⟨b, 2, none⟩ = some z
  lt : b < w.heap.size
theorem Sl3.below {b B : Nat} {x y z : Value} {w w' : World} (h : Sl3 b x y z w) (hb : Below B w w') (hB : w.heap.size ≤ B) : Sl3 b x y z w' :=
  ⟨(hb.cell (p := ⟨b, 0, none⟩) (Nat.lt_of_lt_of_le h.lt hB)).trans h.c0, (hb.cell (p := ⟨b, 1, none⟩) (Nat.lt_of_lt_of_le h.lt hB)).trans h.c1, (hb.cell (p := ⟨b, 2, none⟩) (Nat.lt_of_lt_of_le h.lt hB)).trans h.c2, Nat.lt_of_lt_of_le h.lt hb.size⟩
theorem sl3_new (w : World) (x y z : Value) : Sl3 w.heap.size x y z (w.alloc (.cells #[x, y, z] 30)) := by
  obtain ⟨c0, c1, c2, _⟩ := cells3P (heap_alloc_new w (.cells #[x, y, z] 30))
  exact ⟨c0, c1, c2, by simp⟩
set_option maxRecDepth 20000 in
set_option maxHeartbeats 2000000 in
theorem packTakes_main (W : World) (s key k0 : ByteArray) (at0 sz : Int) (hs : s.size ≤ 20000) (hk : key.size ≤ 100) (ha : -9223372036854775808 ≤ at0 ∧ at0 ≤ 9223372036854775807) (hz : -9223372036854775808 ≤ sz ∧ sz ≤ 9223372036854775807) :
    Calls Try.prog 5 #[.string s, .agg #[.string k0, .int .i64 at0, .int .i64 sz], .string key] W fun e w' => e = .returned (.bool true) ∧ Below W.heap.size W w' := by
  have d1 : decide ((20000 : Int) < (s.size : Int)) = false := by simp; omega
  have d2 : decide ((100 : Int) < (key.size : Int)) = false := by simp; omega
  have HT := Lib.hid (fun w => ptake_any s k0 at0 sz w (by omega) ha hz)
  have HRT := Lib.hid (fun w => prtake_any s k0 at0 sz w (by omega) ha hz)
  have HRS := Lib.hid (fun w => rscan_any s (by omega) w)
  have hln : (scanP s.data.toList).1.length ≤ 1000000000 := by
    have h1 := foldS_len (goods (allF s.data.toList))
    have h2 : (goods (allF s.data.toList)).length ≤ (allF s.data.toList).length := (List.takeWhile_sublist _).length_le
    have h3 : ∀ (n k : Nat) (l : List UInt8), (fFrames n k l).length ≤ n := by
      intro n
      induction n with
      | zero => intro k l; simp [fFrames]
      | succ n ih =>
        intro k l
        rw [fFrames]
        split
        · simp
        · split
          · simp
          · have := ih (k + (fOpen (l.drop k)).2.1) l
            simp; omega
    have h4 : (allF s.data.toList).length ≤ s.data.toList.length := h3 _ _ _
    have h5 : s.data.toList.length = s.size := by rw [Array.length_toList]; rfl
    show (foldS (goods (allF s.data.toList))).1.length ≤ _
    omega
  have hri : RisS (scanP s.data.toList).1 := foldS_ris _
  generalize hsc : scanP s.data.toList = sc at *
  have HF := Lib.hid (fun w v (h : SlotsB w v sc.1) => find_any v sc.1 key w h hri hln)
  have HRF := Lib.hid (fun w v (h : SlotsB w v sc.1) => rfind_any v sc.1 key w h hri hln)
  have HAw := Lib.hid awakeP_any
  generalize takeV s k0 at0 sz = tv at *
  obtain ⟨tt, te⟩ := tv
  dsimp only at HT HRT
  generalize foundS sc.1 key = fs at *
  generalize hasAt sc.1 key = hb at *
  obtain ⟨fk, fa, fz⟩ := fs
  unfold SltV at HF HRF
  dsimp only at HF HRF
  have heq := eqIn_sl fk fa fz
  have htt : (tt.toList == tt.toList) = true := by simp
  have hte : ((te : Int) == (te : Int)) = true := by simp
  have hhb : (hb == hb) = true := by simp
  have HB0 : Hid (Below W.heap.size W (W.alloc (.cells #[.string k0, .int .i64 at0, .int .i64 sz] 30))) := (Below.refl _ _).alloc (Nat.le_refl _) _
  have HX0 := Lib.hid (sl3_new W (.string k0) (.int .i64 at0) (.int .i64 sz))
  clear hs hk ha hz hln hri hsc
  go_enter Try.func5, Try.ntmps5
  go_wp2_with fail
  refine (HT.out _).mono ?_
  rintro e w1 ⟨rfl, b1⟩
  have HB1 := Lib.hid (HB0.out.trans (b1.mono HB0.out.size))
  have HX1 := Lib.hid (HX0.out.below b1 (Nat.le_refl _))
  obtain ⟨x0, x1, x2, xl⟩ := HX1.out
  clear b1 HB0 HX0
  go_wp2_with fail
  refine (HRT.out _).mono ?_
  rintro e w2 ⟨rfl, b2⟩
  have HB2 := Lib.hid (HB1.out.trans (b2.mono HB1.out.size))
  clear b2 HB1 HX1 x0 x1 x2 xl
  go_wp2_with fail
  refine (HRS.out _).mono ?_
  rintro e w3 ⟨v3, rfl, s3, b3⟩
  have HB3 := Lib.hid (HB2.out.trans (b3.mono HB2.out.size))
  have HS3 := Lib.hid s3
  clear b3 HB2 s3
  go_wp2_with fail
  refine (HF.out _ _ HS3.out).mono ?_
  rintro e w4 ⟨rfl, b4⟩
  have HB4 := Lib.hid (HB3.out.trans (b4.mono HB3.out.size))
  have HS4 := Lib.hid (HS3.out.below b4 (Nat.le_refl _))
  clear b4 HB3 HS3
  go_wp2_with fail
  have ha := (Below.refl w4.heap.size w4).alloc (Nat.le_refl _) (.cells #[.string fk, .int .i64 fa, .int .i64 fz] 30)
  have HX5 := Lib.hid (sl3_new w4 (.string fk) (.int .i64 fa) (.int .i64 fz))
  refine (HRF.out _ _ (HS4.out.below ha (Nat.le_refl _))).mono ?_
  rintro e w5 ⟨rfl, b5⟩
  have HB5 := Lib.hid (HB4.out.trans ((ha.trans (b5.mono (by simp))).mono HB4.out.size))
  have HX6 := Lib.hid (HX5.out.below b5 (Nat.le_refl _))
  obtain ⟨x0, x1, x2, xl⟩ := HX6.out
  clear b5 HB4 ha HX5 HX6 HS4
  have HBA : Hid (Below W.heap.size W (w5.alloc (.cells #[.string fk, .int .i64 fa, .int .i64 fz] 30))) := HB5.out.alloc HB5.out.size _
  go_wp2_with fail
  all_goals
    refine (HAw.out _).mono ?_
    rintro e w6 ⟨rfl, b6⟩
    have HB6 := Lib.hid (HBA.out.trans (b6.mono HBA.out.size))
    clear b6
    go_wp2
    go_ret
    exact ⟨rfl, HB6.out⟩
theorem packTakes_ok (W : World) (x0 : ByteArray) (w0 : x0.size ≤ 140737488351232) (x1 : (ByteArray × Int × Int)) (w1 : x1.1.size ≤ maxLen ∧ (-9223372036854775808 ≤ x1.2.1 ∧ x1.2.1 ≤ 9223372036854775807) ∧ (-9223372036854775808 ≤ x1.2.2 ∧ x1.2.2 ≤ 9223372036854775807)) (x2 : ByteArray) (w2 : x2.size ≤ 140737488351232) :
    Calls Try.prog 5 #[.string x0, .agg ((ES3 EStr (EInt .i64) (EInt .i64)) x1).toArray, .string x2] W fun e w' => e = .returned (.bool true) ∧ Below W.heap.size W w' := by
  show Calls Try.prog 5 #[.string x0, .agg #[.string x1.1, .int .i64 x1.2.1, .int .i64 x1.2.2], .string x2] W fun e w' => e = .returned (.bool true) ∧ Below W.heap.size W w'
  by_cases hs : x0.size ≤ 20000
  · by_cases hk : x2.size ≤ 100
    · exact packTakes_main W x0 x2 x1.1 x1.2.1 x1.2.2 hs hk w1.2.1 w1.2.2
    · have d1 : decide ((20000 : Int) < (x0.size : Int)) = false := by simp; omega
      have d2 : decide ((100 : Int) < (x2.size : Int)) = true := by simp; omega
      have HAw := Lib.hid awakeP_any
      have HB0 : Hid (Below W.heap.size W (W.alloc (.cells #[.string x1.1, .int .i64 x1.2.1, .int .i64 x1.2.2] 30))) := (Below.refl _ _).alloc (Nat.le_refl _) _
      go_enter Try.func5, Try.ntmps5
      go_wp2_with fail
      refine (HAw.out _).mono ?_
      rintro e w6 ⟨rfl, b6⟩
      have HB6 := Lib.hid (HB0.out.trans (b6.mono HB0.out.size))
      clear b6
      go_wp2
      go_ret
      exact ⟨rfl, HB6.out⟩
  · have d1 : decide ((20000 : Int) < (x0.size : Int)) = true := by simp; omega
    have HAw := Lib.hid awakeP_any
    have HB0 : Hid (Below W.heap.size W (W.alloc (.cells #[.string x1.1, .int .i64 x1.2.1, .int .i64 x1.2.2] 30))) := (Below.refl _ _).alloc (Nat.le_refl _) _
    go_enter Try.func5, Try.ntmps5
    go_wp2_with fail
    refine (HAw.out _).mono ?_
    rintro e w6 ⟨rfl, b6⟩
    have HB6 := Lib.hid (HB0.out.trans (b6.mono HB0.out.size))
    clear b6
    go_wp2
    go_ret
    exact ⟨rfl, HB6.out⟩
end Go.Proofs.Ytkbpkodakfknoaa
