/- Walks: chapter 33's document: Sizes. -/
import Derived.Test.YtlkpgefapcfdbaaDeltaR1
import Derived.Handy
namespace Go.Proofs.Ytlkpgefapcfdbaa
open Go.RowKit
set_option linter.unusedVariables false
/-- three numbers as a size's answer -/
def sizesV (r : Nat × Nat × Nat) : Value := .tuple #[.int .i64 (r.1 : Nat), .int .i64 (r.2.1 : Nat), .int .i64 (r.2.2 : Nat)]
def strLen : Value → Nat
  | .string s => s.size
  | _ => 0
theorem rdPart_lt (d : List UInt8) (p : Part) (more : List UInt8) (h : rdPart d = some (p, more)) : more.length < d.length := by
  have h1 := vTake_le d
  have h2 := vTake_le (d.drop (vTake d).2.1)
  unfold rdPart at h
  split at h
  · cases h
  · rename_i hn
    obtain ⟨a, b⟩ := h1 (by omega)
    split at h
    · split at h
      · cases h
      · rename_i hm
        obtain ⟨c, e⟩ := h2 (by omega)
        injection h with h
        injection h with h3 h4
        rw [← h4, List.length_drop, List.length_drop]
        rw [List.length_drop] at c
        omega
    · split at h
      · cases h
      · injection h with h
        injection h with h3 h4
        rw [← h4, List.length_drop, List.length_drop]
        omega
theorem rdHead_le (d : List UInt8) (a b : Nat) (s r : List UInt8) (h : rdHead d = some (a, b, s, r)) : r.length ≤ d.length := by
  unfold rdHead at h
  split at h
  · cases h
  · split at h
    · cases h
    · injection h with h
      injection h with h3 h4
      injection h4 with h4 h5
      injection h5 with h5 h6
      rw [← h6, List.length_drop, List.length_drop, List.length_drop]
      omega
set_option maxHeartbeats 1000000 in
theorem refSizes_any (s : ByteArray) (hs : s.size ≤ 1000000) (w : World) :
    Calls Try.prog 13 #[.string s] w fun e w' => e = .returned (sizesV (szD s.data.toList)) ∧ Below w.heap.size w w' := by
  have hh := fun w => refHead_any s (by omega) w
  have hv : szD s.data.toList = szD s.data.toList := rfl
  conv at hv => rhs; unfold szD
  cases hr : rdHead s.data.toList with
  | none =>
    rw [hr] at hh hv
    have HH := Lib.hid hh; clear hh
    have HV := Lib.hid hv; clear hv hr
    go_enter Try.func13, Try.ntmps13
    go_wp2_with fail
    refine (HH.out _).mono ?_
    rintro e w1 ⟨rfl, b1⟩
    unfold headV
    go_wp2
    go_ret3
    rw [HV.out]
    exact ⟨rfl, b1⟩
  | some r =>
    obtain ⟨a, b, sum, rest⟩ := r
    have hrl : rest.length ≤ s.size := rdHead_le _ _ _ _ _ hr
    have hrs : (⟨rest.toArray⟩ : ByteArray).size = rest.length := List.size_toArray
    rw [hr] at hh hv
    have HH := Lib.hid hh; clear hh
    have HV := Lib.hid hv; clear hv hr
    go_enter Try.func13, Try.ntmps13
    go_wp2_with fail
    refine (HH.out _).mono ?_
    rintro e w1 ⟨rfl, b1⟩
    unfold headV
    go_wp2_with fail
    go_loopw [10, 11, 8] (fun v10 v11 v8 wr => ∃ (f x y : Nat) (t : ByteArray), v10 = .int .i64 x ∧ v11 = .int .i64 y ∧ v8 = .string t ∧ (t.size ≤ s.size ∧ t.size < f ∧ x + y + t.size * 65536 ≤ s.size * 65536) ∧ Hid (szD s.data.toList = szP f t.data.toList x y) ∧ Hid (Below w.heap.size w wr)) (fun _ _ v8 _ => strLen v8)
    case atStart => exact ⟨rest.length + 1, 0, 0, ⟨rest.toArray⟩, rfl, rfl, rfl, ⟨by rw [hrs]; exact hrl, by rw [hrs]; exact Nat.lt_succ_self _, by rw [hrs]; omega⟩, HV, Lib.hid b1⟩
    case round =>
      obtain ⟨f, x, y, t, rfl, rfl, rfl, ⟨h1, h2, h3⟩, HZ, HB⟩ := hrel
      have HP := Lib.hid (fun w => refPart_any t (by omega) w)
      have hlt := rdPart_lt t.data.toList
      have htl : t.data.toList.length = t.size := by simp
      obtain ⟨f, rfl⟩ : ∃ g, f = g + 1 := ⟨f - 1, by omega⟩
      by_cases h0 : t.data.toList = []
      · have ht : t.toList.isEmpty = true := by rw [ByteArray.toList_eq, h0]; rfl
        have HE : Hid (szD s.data.toList = (x, y, 0)) := by unfold Hid; rw [HZ.out, h0, szP, if_pos rfl]
        clear hlt htl
        go_wp2_with fail
        go_ret3
        rw [HE.out]
        exact ⟨rfl, HB.out⟩
      · have ht : t.toList.isEmpty = false := by rw [ByteArray.toList_eq, List.isEmpty_eq_false_iff]; exact h0
        have HY : Hid (szD s.data.toList = match rdPart t.data.toList with
          | none => (0, 0, 2)
          | some (.cop n k, more) => if n > 65536 ∨ k > 65536 then (0, 0, 2) else szP f more (x + n) y
          | some (.lit s, more) => if s.length > 65536 then (0, 0, 2) else szP f more x (y + s.length)) := by
          unfold Hid; rw [HZ.out, szP, if_neg h0]; rfl
        clear HZ
        cases hr2 : rdPart t.data.toList with
        | none =>
          rw [hr2] at HP HY
          have HE : Hid (szD s.data.toList = (0, 0, 2)) := HY
          clear hlt htl hr2
          go_wp2_with fail
          refine (HP.out _).mono ?_
          rintro e w2 ⟨rfl, b2⟩
          unfold partV
          go_wp2
          go_ret3
          rw [HE.out]
          exact ⟨rfl, HB.out.trans (b2.mono HB.out.size)⟩
        | some q =>
          obtain ⟨q, more⟩ := q
          rw [hr2] at HP HY
          have hml := hlt q more hr2
          rw [htl] at hml
          have hms : (⟨more.toArray⟩ : ByteArray).size = more.length := List.size_toArray
          clear hlt htl hr2
          cases q with
          | lit b =>
            dsimp only at HY
            by_cases hb : b.length > 65536
            · rw [if_pos hb] at HY
              have HE := HY
              have hb' : (65536 : Int) < (b.length : Int) := by omega
              go_wp2_with fail
              refine (HP.out _).mono ?_
              rintro e w2 ⟨rfl, b2⟩
              unfold partV
              go_wp2
              go_ret3
              rw [HE.out]
              exact ⟨rfl, HB.out.trans (b2.mono HB.out.size)⟩
            · rw [if_neg hb] at HY
              have hb' : (b.length : Int) ≤ 65536 := by omega
              go_wp2_with fail
              refine (HP.out _).mono ?_
              rintro e w2 ⟨rfl, b2⟩
              have HB2 := Lib.hid (HB.out.trans (b2.mono HB.out.size))
              clear b2 HB
              unfold partV
              go_wp2_with fail
              go_round
              case rel => exact ⟨f, x, y + b.length, ⟨more.toArray⟩, rfl, by go_num, rfl, ⟨by rw [hms]; omega, by rw [hms]; omega, by rw [hms]; omega⟩, HY, HB2⟩
              case measure => simp only [strLen]; rw [hms]; omega
          | cop n k =>
            dsimp only at HY
            by_cases hb : n > 65536 ∨ k > 65536
            · rw [if_pos hb] at HY
              have HE := HY
              rcases hb with hb | hb
              · have hb' : (65536 : Int) < (n : Int) := by omega
                go_wp2_with fail
                refine (HP.out _).mono ?_
                rintro e w2 ⟨rfl, b2⟩
                unfold partV
                go_wp2
                go_ret3
                rw [HE.out]
                exact ⟨rfl, HB.out.trans (b2.mono HB.out.size)⟩
              · have hb' : (65536 : Int) < (k : Int) := by omega
                by_cases hb2 : (65536 : Int) < (n : Int)
                · go_wp2_with fail
                  refine (HP.out _).mono ?_
                  rintro e w2 ⟨rfl, b2⟩
                  unfold partV
                  go_wp2
                  go_ret3
                  rw [HE.out]
                  exact ⟨rfl, HB.out.trans (b2.mono HB.out.size)⟩
                · go_wp2_with fail
                  refine (HP.out _).mono ?_
                  rintro e w2 ⟨rfl, b2⟩
                  unfold partV
                  go_wp2
                  go_ret3
                  rw [HE.out]
                  exact ⟨rfl, HB.out.trans (b2.mono HB.out.size)⟩
            · rw [if_neg hb] at HY
              have hb' : (n : Int) ≤ 65536 := by omega
              have hb2 : (k : Int) ≤ 65536 := by omega
              go_wp2_with fail
              refine (HP.out _).mono ?_
              rintro e w2 ⟨rfl, b2⟩
              have HB2 := Lib.hid (HB.out.trans (b2.mono HB.out.size))
              clear b2 HB
              unfold partV
              go_wp2_with fail
              go_round
              case rel => exact ⟨f, x + n, y, ⟨more.toArray⟩, by go_num, rfl, rfl, ⟨by rw [hms]; omega, by rw [hms]; omega, by rw [hms]; omega⟩, HY, HB2⟩
              case measure => simp only [strLen]; rw [hms]; omega
end Go.Proofs.Ytlkpgefapcfdbaa
